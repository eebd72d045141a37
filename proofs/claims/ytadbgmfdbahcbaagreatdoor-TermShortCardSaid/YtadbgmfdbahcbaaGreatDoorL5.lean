/- term's law: TermShort walked. -/
import Derived.Test.YtadbgmfdbahcbaaGreatDoorL2
import Derived.Test.YtadbgmfdbahcbaaGreatDoorP2
import Derived.Test.YtadbgmfdbahcbaaGreatDoorM9
namespace Go.Proofs.YtadbgmfdbahcbaaGreatDoor
open Go.RowKit Go.KK Go.Shelf Go.Maps Classical
set_option linter.unusedVariables false
set_option linter.unusedSimpArgs false

section
variable {w0 W W' : World} {Z Z' : Nat → Prop} {sa : Nat} {xs xs' : List ND}
/-- A call that makes the node x, as the law's arena is carried. -/
def LmkS (w0 W : World) (Z : Nat → Prop) (sa : Nat) (xs : List ND) (x : ND) (e : Ending) (w' : World) : Prop := ∃ Z', e = .returned (.tuple #[.int .i64 (makI xs x), .int .i64 (makE xs x)]) ∧ LA w0 w' Z' sa (makT xs x) ∧ Mv Z W Z' w'
theorem l_mkl (h : LA w0 W Z sa xs) (hT : Tb w0.heap.size w0) {A : Option Addr} {n c : Nat} {l : List Int} (hl : SlA W 1 A n c (l.map (.int .i64))) (hi : ∀ i ∈ l, I64 i) :
    Calls Tryz.prog 12 #[.pointer (some ⟨sa, 0, none⟩), .agg #[.int .i64 3, .int .i64 0, .string ⟨#[]⟩, .slice A n c]] W (LmkS w0 W Z sa xs (ndN 3 l)) := by
  have e := hl.lenI
  subst e
  exact l_mke h hT (x := ndN 3 l) hl (ndI_nd (i64_lit (by decide) (by decide)) hi)
theorem l_mkt (h : LA w0 W Z sa xs) (hT : Tb w0.heap.size w0) (s : ByteArray) :
    Calls Tryz.prog 12 #[.pointer (some ⟨sa, 0, none⟩), .agg #[.int .i64 2, .int .i64 0, .string s, .slice none 0 0]] W (LmkS w0 W Z sa xs (txN s)) :=
  l_mke h hT (x := txN s) (SlA.nil _ _) ⟨by unfold I64 txN; simp, by unfold I64 txN; simp, fun i hi => by simp [txN] at hi⟩
theorem l_list (h : LA w0 W Z sa xs) (hT : Tb w0.heap.size w0) {A : Option Addr} {n c : Nat} {l : List Int} (hl : SlA W 1 A n c (l.map (.int .i64))) (hi : ∀ i ∈ l, I64 i) :
    Calls Tryz.prog 27 #[.pointer (some ⟨sa, 0, none⟩), .slice A n c] W (LmkS w0 W Z sa xs (ndN 3 l)) := by
  have HM := hid (l_mkl h hT hl hi)
  clear h hl hT
  go_enter Tryz.func27, Tryz.ntmps27
  go_wp2_with fail
  refine HM.out.mono ?_
  rintro e w' ⟨Z', rfl, h1, h2⟩
  have H1 := hid h1; have H2 := hid h2
  clear h1 h2
  go_wp2_with fail
  go_ret2
  exact ⟨Z', rfl, H1.out, H2.out⟩
theorem l_text (h : LA w0 W Z sa xs) (hT : Tb w0.heap.size w0) (s : ByteArray) :
    Calls Tryz.prog 28 #[.pointer (some ⟨sa, 0, none⟩), .string s] W (LmkS w0 W Z sa xs (txN s)) := by
  have HM := hid (l_mkt h hT s)
  clear h hT
  go_enter Tryz.func28, Tryz.ntmps28
  go_wp2_with fail
  refine HM.out.mono ?_
  rintro e w' ⟨Z', rfl, h1, h2⟩
  have H1 := hid h1; have H2 := hid h2
  clear h1 h2
  go_wp2_with fail
  go_ret2
  exact ⟨Z', rfl, H1.out, H2.out⟩
end
theorem rowI_app {W : World} {b0 : Nat} {v : Value} {l m : List Int} (h : W.ownsRow b0 3 1 v (l.length + m.length) (l.map (.int .i64) ++ m.map (.int .i64))) : RowI W b0 v (l ++ m) := by
  unfold RowI
  rw [List.length_append, List.map_append]
  exact h
set_option maxHeartbeats 8000000 in
set_option maxRecDepth 100000 in
theorem short_go (A : Option Addr) (n c : Nat) (l : List ND) (A1 : Option Addr) (n1 c1 : Nat) (parts : List Int) (s : ByteArray) (w : World) (hl : NdA w A n c l) (hI : ∀ x ∈ l, NdW x) (hp : SlA w 1 A1 n1 c1 (parts.map (.int .i64))) (hpi : ∀ i ∈ parts, I64 i) (hT : Tb w.heap.size w) :
    Calls Tryz.prog 8 #[.slice A n c, .slice A1 n1 c1, .string s] w fun e w' => e = .returned (.bool true) ∧ Below w.heap.size w w' := by
  have hln := hl.len
  obtain ⟨i0, hi, hz0, hz1, hz2⟩ := info_parts Tryz.infoInt
  have HPL := hid hp.lenI
  have HN64 := hid (show ∀ x ∈ l, x.n < 9223372036854775808 from fun x hx => by have := (hI x hx).n.2; omega)
  have HT := hid hT; have HL := hid hl; have HI := hid hI; have HP := hid hp; have HPI := hid hpi
  have HLV := hid (live_any w hT)
  clear hT hl hI hp hpi
  go_enter Tryz.func8, Tryz.ntmps8
  go_wp2_with fail
  refine HLV.out.mono ?_
  rintro e w1 ⟨rfl, b1⟩
  have HB1 := hid b1
  clear b1
  go_wp2_with fail
  refine (few_any A n c l _ (HL.out.ext HB1.out)).mono ?_
  rintro e w2 ⟨rfl, b2⟩
  have HB2 := hid (HB1.out.trans (b2.mono HB1.out.size))
  clear b2 HB1
  rcases hf : fewB l with _ | _
  · go_wp2_with fail
    go_ret
    exact ⟨rfl, HB2.out⟩
  have hn300 : n ≤ 300 := by have := (few_iff.1 hf).1; omega
  clear hf
  by_cases hp100 : 100 < n1
  · have hp1 : (100 : Int) < (n1 : Int) := by omega
    clear hp100
    go_wp2_with fail
    go_ret
    exact ⟨rfl, HB2.out⟩
  have hp1 : ¬ (100 : Int) < (n1 : Int) := by omega
  by_cases hs300 : 300 < s.size
  · have hs1 : (300 : Int) < (s.size : Int) := by omega
    clear hs300
    go_wp2_with fail
    go_ret
    exact ⟨rfl, HB2.out⟩
  have hs1 : ¬ (300 : Int) < (s.size : Int) := by omega
  go_wp2_with fail
  refine (new_any _).mono ?_
  rintro e w3 ⟨Z0, sa, rfl, h1, h2, h3⟩
  have LC := hid (show LA w w3 Z0 sa [] from ⟨h1, fun b hb => Nat.le_trans HB2.out.size (h2 b hb), HB2.out.trans (h3.mono HB2.out.size)⟩)
  clear h1 h2 h3 HB2 hp1 hs1
  go_wp2_with fail
  go_loopw [40] (fun v wr => ∃ (j : Nat) (Z : Nat → Prop), v = .int .i64 j ∧ j ≤ n ∧ LA w wr Z sa (mksT [] (l.take j))) (fun v _ => n - (intOf v).toNat)
  case atStart => exact ⟨0, Z0, rfl, Nat.zero_le _, LC.out⟩
  case round =>
    clear LC
    obtain ⟨j, Z, hv, hj, ht⟩ := hrel
    subst hv
    have HTT := hid ht
    clear ht
    by_cases hlt : j < n
    · obtain ⟨b, off, x, A', c', rfl, hx, y0, y1, y2, y3, ys⟩ := (HL.out.ext HTT.out.bl).at hlt
      have HS := hid ys
      have HXI := hid (ndI_w (HI.out x (List.mem_of_getElem? hx)))
      have HM1 := hid (mksT_take (xs := []) hx)
      clear hx ys
      have hlt' : (j : Int) < (n : Int) := by omega
      go_wp2_with fail
      refine (l_mke (HTT.out.alloc _) HT.out (x := x) (HS.out.alloc _) HXI.out).mono ?_
      rintro e w4 ⟨Z4, rfl, hl4, -⟩
      rw [← HM1.out] at hl4
      have HT4 := hid hl4
      clear hl4 HTT y0 y1 y2 y3
      generalize makI (mksT [] (l.take j)) x = mi at *
      generalize makE (mksT [] (l.take j)) x = me at *
      go_wp2_with fail
      go_roundw
      case rel => exact ⟨j + 1, Z4, by go_num, by omega, HT4.out⟩
      case measure => simp [intOf]; omega
    · obtain rfl : j = n := by omega
      have hlt' : ¬ (j : Int) < (j : Int) := by omega
      rw [show l.take j = l from List.take_of_length_le (by omega)] at HTT
      have hXl : (mksT [] l).length ≤ 300 := by have := mks_len [] l; simp at this; omega
      generalize mksT [] l = X at *
      have HAG := hid (mak_again X (ndN 3 parts))
      have HX1 := hid (mak_pre X (ndN 3 parts))
      have hX1l : (makT X (ndN 3 parts)).length ≤ 301 := by have := mak_len X (ndN 3 parts); omega
      have HSH := hid (fun m ok h0 => short_list (xs := X) (m := m) (l := parts) ok h0)
      have HIM := hid (show 0 ≤ makI X (ndN 3 parts) ∧ makI X (ndN 3 parts) ≤ 100000 from makI_b (by omega) _)
      go_wp2_with fail
      refine (l_list HTT.out HT.out (HP.out.ext HTT.out.bl) HPI.out).mono ?_
      rintro e w4 ⟨Z4, rfl, hl4, -⟩
      have HT4 := hid hl4
      clear hl4 HTT
      have HMK := hid (l_mkl HT4.out HT.out (HP.out.ext HT4.out.bl) HPI.out)
      unfold LmkS at HMK
      rw [HAG.out.1, HAG.out.2.1, HAG.out.2.2] at HMK
      clear HAG
      generalize makI X (ndN 3 parts) = mi at *
      generalize makE X (ndN 3 parts) = me at *
      generalize makT X (ndN 3 parts) = X1 at *
      go_wp2_with fail
      refine HMK.out.mono ?_
      rintro e w5 ⟨Z5, rfl, hl5, -⟩
      have HT5 := hid hl5
      clear hl5 HT4 HMK
      have HAG := hid (mak_again X1 (txN s))
      obtain ⟨Y, hY⟩ := mak_pre X1 (txN s)
      have hXe := text_e (show X1.length < 100000 by omega) s
      have hX2l : (makT X1 (txN s)).length ≤ 302 := by have := mak_len X1 (txN s); omega
      have HSY := hid (HSH.out Y)
      rw [← hY] at HSY
      clear hY
      go_wp2_with fail
      refine (l_text HT5.out HT.out s).mono ?_
      rintro e w6 ⟨Z6, rfl, hl6, -⟩
      have HT6 := hid hl6
      clear hl6 HT5
      have HMK := hid (l_mkt HT6.out HT.out s)
      unfold LmkS at HMK
      rw [HAG.out.1, HAG.out.2.1, HAG.out.2.2] at HMK
      clear HAG
      generalize makI X1 (txN s) = ti at *
      generalize makE X1 (txN s) = te at *
      generalize makT X1 (txN s) = X2 at *
      go_wp2_with fail
      refine HMK.out.mono ?_
      rintro e w7 ⟨Z7, rfl, hl7, -⟩
      have HT7 := hid hl7
      clear hl7 HT6 HMK
      have HPB := hid (show ∀ q : List Int, q.length ≤ 100 → (q.flatMap (atF X2)).length ≤ 30200 from fun q hq => by
        have h1 := atFl_len (xs := X2) q
        have h2 := Nat.mul_le_mul hq hX2l
        omega)
      have hpl : parts.length ≤ 100 := by have := HPL.out; omega
      clear HSH HX1 hX1l hXl
      rcases hXe with ⟨hs2, hte⟩ | ⟨hs2, hte⟩
      all_goals
        subst hte
        first
          | (have hsz : (s.size : Int) ≤ 200 := by omega)
          | (have hsz : ¬ (s.size : Int) ≤ 200 := by omega)
        clear hs2 hs300 hp100
        by_cases hme : me = 0
        rotate_left
        · have hne : (me != 0) = true := bne_iff_ne.2 hme
          clear hme
          go_wp2_with fail
          go_ret
          exact ⟨rfl, HT7.out.bl⟩
        · subst hme
          obtain ⟨hh, hnd⟩ := HSY.out HT7.out.ar.ok rfl
          have HAT := hid (short_atoms HT7.out.ar.ok hh hnd)
          have HH := hid hh
          clear hh hnd HSY
          go_wp2_with fail
          go_loopw [105, 19] (fun v av wr => ∃ j : Nat, v = .int .i64 j ∧ j ≤ n1 ∧ T1 w wr sa Z7 X2 av ((parts.take j).flatMap (atF X2))) (fun v _ _ => n1 - (intOf v).toNat)
          case atStart => exact ⟨0, rfl, Nat.zero_le _, t1_nil HT7.out⟩
          case round =>
            clear HT7
            obtain ⟨q, hv, hq, ht⟩ := hrel
            subst hv
            have HTQ := hid ht
            clear ht
            by_cases hlq : q < n1
            · obtain ⟨b, off, p, rfl, hp, hcp⟩ := (HP.out.ext HTQ.out.la.bl).elemI hlq
              have hlq' : (q : Int) < (n1 : Int) := by omega
              have HTK := hid (show (parts.take (q + 1)).flatMap (atF X2) = (parts.take q).flatMap (atF X2) ++ atF X2 p by rw [take_one hp, List.flatMap_append]; simp)
              have hF := HPB.out (parts.take q) (by rw [List.length_take]; omega)
              have hF2 := atF_len X2 p
              clear hp
              generalize (parts.take q).flatMap (atF X2) = F at *
              have HAA := hid (atoms_any sa X2 p _ HTQ.out.la.ar.vw)
              generalize atF X2 p = G at *
              go_wp2_with fail
              refine HAA.out.mono ?_
              rintro e w8 ⟨v8, rfl, o8, b8⟩
              obtain ⟨A8, c8, rfl, -⟩ := SlA.owned o8
              have HS8 := hid (SlA.of_own o8).2
              have HT8 := hid (HTQ.out.ext b8)
              clear o8 b8 HTQ HAA hcp
              go_wp2_with (first
                | (at_builtin; refine wpList_append_sl _ rfl _ _ 27 rfl w.heap.size 3 i0 (.int .i64 0) 1 8 Tryz.underlying27 hi hz0 hz1 hz2 rfl (by decide) u19 F.length (F.map (.int .i64)) rfl HT8.out.nr A8 G.length c8 (G.map (.int .i64)) rfl HS8.out (ints_one _ _) (by unfold maxLen; omega) (by omega) HT8.out.la.sz ?_; intro v9 w9 own9 gr9 loc9; have HT9 := hid (HT8.out.app (rowI_app own9) gr9 loc9); clear own9 gr9 loc9)
                | fail)
              rw [← HTK.out] at HT9
              go_roundw
              case rel => exact ⟨q + 1, by go_num, by omega, HT9.out⟩
              case measure => simp [intOf]; omega
            · obtain rfl : q = n1 := by omega
              have hlq' : ¬ (q : Int) < (q : Int) := by omega
              rw [show parts.take q = parts from List.take_of_length_le (by have := HPL.out; omega)] at HTQ
              have hF := HPB.out parts hpl
              have HF2 := hid (atF_len X2 mi)
              have HAA := hid (fun W (h : ArV W 53 sa X2) => atoms_any sa X2 mi W h)
              rw [HAT.out] at HAA HF2
              generalize parts.flatMap (atF X2) = F at *
              obtain ⟨Af, cf, rfl, -⟩ := SlA.owned HTQ.out.nr
              have HSZ := hid (fun n (h : SizeIs X2 mi n) => (size_le HTQ.out.la.ar.ok h HH.out).2)
              go_wp2_with fail
              refine (HAA.out _ HTQ.out.la.ar.vw).mono ?_
              rintro e w8 ⟨v8, rfl, o8, b8⟩
              obtain ⟨A8, c8, rfl, -⟩ := SlA.owned o8
              have HS8 := hid (SlA.of_own o8).2
              have HT8 := hid (HTQ.out.ext b8)
              clear o8 b8 HTQ HAA
              go_wp2_with fail
              refine (rising_any Af _ cf F _ (SlA.of_own HT8.out.nr).2 (by omega)).mono ?_
              rintro e w9 ⟨v9, rfl, o9, b9⟩
              obtain ⟨A9, c9, rfl, -⟩ := SlA.owned o9
              have HS9 := hid (SlA.of_own o9).2
              have HR8 := hid (HS8.out.ext b9)
              have HT9 := hid (HT8.out.ext b9)
              clear o9 b9 HT8 HS8
              have hrl : (risL F).length ≤ 302 := by have := HF2.out; omega
              generalize risL F = R at *
              go_wp2_with fail
              refine (same_ints A8 _ c8 R A9 _ c9 R _ HR8.out HS9.out (by omega) (by omega)).mono ?_
              rintro e w10 ⟨rfl, q10, rfl⟩
              rw [show (R == R) = true by simp]
              go_wp2_with fail
              refine (size_any sa X2 mi _ (HT9.out.ext (below_drewN (Below.refl _ _) _)).la.ar.vw).mono ?_
              rintro e w11 ⟨n11, rfl, hn11, b11⟩
              have h11 : (1 : Int) ≤ (n11 : Int) := by have := HSZ.out n11 hn11; omega
              have HB11 := hid ((HT9.out.ext (below_drewN (Below.refl _ _) q10)).la.bl.trans (b11.mono (HT9.out.ext (below_drewN (Below.refl _ _) q10)).la.sz))
              clear hn11 b11
              go_wp2_with fail
              go_ret
              exact ⟨rfl, HB11.out⟩
end Go.Proofs.YtadbgmfdbahcbaaGreatDoor
