/- term's law: TermShown walked. -/
import Derived.Test.YtadbgmfdbahcbaaGreatDoorL2
import Derived.Test.YtadbgmfdbahcbaaGreatDoorW5
import Derived.Test.YtadbgmfdbahcbaaGreatDoorMB
import Derived.Test.YtadbgmfdbahcbaaGreatDoorM4
import Derived.Test.YtadbgmfdbahcbaaGreatDoorM9
namespace Go.Proofs.YtadbgmfdbahcbaaGreatDoor
open Go.RowKit Go.KK Go.Shelf Go.Maps
set_option linter.unusedVariables false
set_option linter.unusedSimpArgs false

theorem showF_ok {xs : List ND} {t : Int} (h : (showF xs t).2 = 0) : hasB xs t = true ∧ (showL xs t.toNat).length ≤ 4000 ∧ showF xs t = (showL xs t.toNat, 0) := by
  unfold showF at h ⊢
  split at h
  · rename_i hh
    split at h
    · rename_i hl
      exact ⟨hh, hl, by rw [if_pos hh, if_pos hl]⟩
    · simp at h
  · simp at h
theorem showF_yes {xs : List ND} {t : Int} (h : hasB xs t = true) (hl : (showL xs t.toNat).length ≤ 4000) : showF xs t = (showL xs t.toNat, 0) := by
  unfold showF; rw [if_pos h, if_pos hl]
/-- The texts of a term's first parts, joined. -/
def joP (xs : List ND) (l : List Int) (j : Nat) : ByteArray := ⟨(joinC ((l.take j).map fun y => showL xs y.toNat)).toArray⟩
theorem joP_zero (xs : List ND) (l : List Int) : joP xs l 0 = ⟨#[]⟩ := rfl
theorem joP_size (xs : List ND) (l : List Int) (j : Nat) : (joP xs l j).size = (joinC ((l.take j).map fun y => showL xs y.toNat)).length := bsz _
theorem joP_step {xs : List ND} {l : List Int} {j : Nat} {y : Int} (h : l[j]? = some y) : joP xs l (j + 1) = if j = 0 then ⟨(showL xs y.toNat).toArray⟩ else joP xs l j ++ ⟨#[44]⟩ ++ ⟨(showL xs y.toNat).toArray⟩ := by
  unfold joP
  rw [take_one h, List.map_append, List.map_singleton, joinC_snoc]
  have hl := (List.getElem?_eq_some_iff.1 h).1
  by_cases hj : j = 0
  · subst hj
    rw [if_pos rfl, if_pos (by simp)]
  · rw [if_neg hj, if_neg (by
      intro e
      rw [List.map_eq_nil_iff, List.take_eq_nil_iff] at e
      rcases e with e | e
      · omega
      · rw [e] at hl; simp at hl)]
    rw [show (⟨#[44]⟩ : ByteArray) = ⟨[44].toArray⟩ from rfl, str_app, str_app]
    simp
set_option maxHeartbeats 8000000 in
set_option maxRecDepth 100000 in
theorem shown_go (A : Option Addr) (n c : Nat) (l : List ND) (x y : Int) (w : World) (hl : NdA w A n c l) (hI : ∀ x ∈ l, NdW x) (hT : Tb w.heap.size w) :
    Calls Tryz.prog 5 #[.slice A n c, .int .i64 x, .int .i64 y] w fun e w' => e = .returned (.bool true) ∧ Below w.heap.size w w' := by
  have hln := hl.len
  have HT := hid hT; have HL := hid hl; have HI := hid hI
  have HLV := hid (live_any w hT)
  clear hT hl hI
  go_enter Tryz.func5, Tryz.ntmps5
  go_wp2_with fail
  refine HLV.out.mono ?_
  rintro e w1 ⟨rfl, b1⟩
  have HB1 := hid b1
  clear b1
  go_wp2_with fail
  refine (few_any A n c l _ (HL.out.ext HB1.out)).mono ?_
  rintro e w2 ⟨rfl, b2⟩
  have HB2 := hid (HB1.out.trans (b2.mono HB1.out.size))
  clear b2 HB1
  rcases hf : fewB l with _ | _
  · go_wp2_with fail
    go_ret
    exact ⟨rfl, HB2.out⟩
  have hn300 : n ≤ 300 := by have := (few_iff.1 hf).1; omega
  clear hf
  go_wp2_with fail
  refine (new_any _).mono ?_
  rintro e w3 ⟨Z0, sa, rfl, h1, h2, h3⟩
  have LC := hid (show LA w w3 Z0 sa [] from ⟨h1, fun b hb => Nat.le_trans HB2.out.size (h2 b hb), HB2.out.trans (h3.mono HB2.out.size)⟩)
  clear h1 h2 h3 HB2
  go_wp2_with fail
  go_loopw [30] (fun v wr => ∃ (j : Nat) (Z : Nat → Prop), v = .int .i64 j ∧ j ≤ n ∧ LA w wr Z sa (mksT [] (l.take j))) (fun v _ => n - (intOf v).toNat)
  case atStart => exact ⟨0, Z0, rfl, Nat.zero_le _, LC.out⟩
  case round =>
    clear LC
    obtain ⟨j, Z, hv, hj, ht⟩ := hrel
    subst hv
    have HTT := hid ht
    clear ht
    by_cases hlt : j < n
    · obtain ⟨b, off, x, A', c', rfl, hx, y0, y1, y2, y3, ys⟩ := (HL.out.ext HTT.out.bl).at hlt
      have HS := hid ys
      have HXI := hid (ndI_w (HI.out x (List.mem_of_getElem? hx)))
      have HM1 := hid (mksT_take (xs := []) hx)
      clear hx ys
      have hlt' : (j : Int) < (n : Int) := by omega
      go_wp2_with fail
      refine (l_mke (HTT.out.alloc _) HT.out (x := x) (HS.out.alloc _) HXI.out).mono ?_
      rintro e w4 ⟨Z4, rfl, hl4, -⟩
      rw [← HM1.out] at hl4
      have HT4 := hid hl4
      clear hl4 HTT y0 y1 y2 y3
      generalize makI (mksT [] (l.take j)) x = mi at *
      generalize makE (mksT [] (l.take j)) x = me at *
      go_wp2_with fail
      go_roundw
      case rel => exact ⟨j + 1, Z4, by go_num, by omega, HT4.out⟩
      case measure => simp [intOf]; omega
    · obtain rfl : j = n := by omega
      have hlt' : ¬ (j : Int) < (j : Int) := by omega
      rw [show l.take j = l from List.take_of_length_le (by omega)] at HTT
      generalize mksT [] l = X at *
      clear HL HI HLV hn300 hln hj
      rcases hsx : showF X x with ⟨bx, ex⟩
      rcases hsy : showF X y with ⟨by', ey⟩
      go_wp2_with fail
      refine (l_showF HTT.out HT.out (t := x) (by rw [hsx]) (by rw [hsx])).mono ?_
      rintro e w4 ⟨rfl, hl4, -⟩
      have HT4 := hid hl4
      clear hl4 HTT
      go_wp2_with fail
      refine (l_showF HT4.out HT.out (t := y) (by rw [hsy]) (by rw [hsy])).mono ?_
      rintro e w5 ⟨rfl, hl5, -⟩
      have HT5 := hid hl5
      clear hl5 HT4
      by_cases hex : ex = 0
      rotate_left
      · have hne : (ex != 0) = true := bne_iff_ne.2 hex
        clear hex
        go_wp2_with fail
        go_ret
        exact ⟨rfl, HT5.out.bl⟩
      by_cases hey : ey = 0
      rotate_left
      · have hne : (ey != 0) = true := bne_iff_ne.2 hey
        subst hex
        clear hey
        go_wp2_with fail
        go_ret
        exact ⟨rfl, HT5.out.bl⟩
      subst hex; subst hey
      obtain ⟨hhx, hlx, hx2⟩ := showF_ok (show (showF X x).2 = 0 by rw [hsx])
      obtain ⟨hhy, hly, hy2⟩ := showF_ok (show (showF X y).2 = 0 by rw [hsy])
      rw [hsx] at hx2; injection hx2 with hx2 _; subst hx2
      rw [hsy] at hy2; injection hy2 with hy2 _; subst hy2
      have ok := HT5.out.ar.ok
      obtain ⟨Sx, hSx⟩ : ∃ S : ByteArray, S = ⟨(showL X x.toNat).toArray⟩ := ⟨_, rfl⟩
      obtain ⟨Sy, hSy⟩ : ∃ S : ByteArray, S = ⟨(showL X y.toNat).toArray⟩ := ⟨_, rfl⟩
      have hb : (Sx.toList == Sy.toList) = (x == y) := by
        have h1 := has_iff.1 hhx; have h2 := has_iff.1 hhy
        rw [Bool.eq_iff_iff, beq_iff_eq, beq_iff_eq, ByteArray.toList_eq, ByteArray.toList_eq]
        refine ⟨fun h => ?_, fun h => by rw [hSx, hSy, h]⟩
        have h3 : showL X x.toNat = showL X y.toNat := by
          rw [hSx, hSy] at h
          simpa using h
        have := shown_same ok (by omega) (by omega) h3
        omega
      rw [← hSx, ← hSy]
      have HSx := hid hSx
      clear hSx hSy hsx hsy hly
      obtain ⟨xj, rfl⟩ := Int.eq_ofNat_of_zero_le (has_iff.1 hhx).1
      have hnx := nodeF_get hhx
      rw [Int.toNat_natCast] at hnx HSx hlx
      have HK := hid (kinds ok hnx)
      have HSP := hid (fun h1 h2 => show_parts ok hnx h1 h2)
      have HNE := hid (show nodeE X (xj : Int) = 0 by unfold nodeE; rw [hhx]; rfl)
      have HLX := hid hlx
      have HH := hid hhx
      have hb2 : (!(Sx.toList == Sy.toList) == ((xj : Int) == y)) = false := by rw [hb]; simp
      clear hb
      go_wp2_with fail
      refine (node_any sa X _ _ HT5.out.ar.vw).mono ?_
      rintro e w6 ⟨An, cn, rfl, on6, b6⟩
      rw [HNE.out]
      have HT6 := hid (HT5.out.ext b6)
      have HS6 := hid (SlA.of_own on6).2
      clear on6 b6 HT5 hb2
      have HOK := hid ok
      have hxl : (nodeF X (xj : Int)).l.length ≤ 64 := by
        have := ok.may _ _ hnx
        unfold mayB shB at this
        simp only [Bool.and_eq_true, decide_eq_true_eq] at this
        exact this.1.1.1.1.1.1.2
      clear hnx ok hlx hhx hhy
      generalize nodeF X (xj : Int) = nx at *
      rcases HK.out with ⟨k1, -⟩ | ⟨k2, -⟩ | ⟨k3, k12, -, -, kl⟩
      · rw [k1]
        clear HK
        go_wp2_with fail
        go_ret
        exact ⟨rfl, (HT6.out.alloc _).bl⟩
      · rw [k2]
        clear HK
        go_wp2_with fail
        go_ret
        exact ⟨rfl, (HT6.out.alloc _).bl⟩
      · obtain ⟨ko, hko⟩ : ∃ ko : Nat, nx.o = (ko : Int) := ⟨nx.o.toNat, by omega⟩
        have HSQ := hid (HSP.out (by omega) (by omega))
        rw [hko]
        have hk1 : ((ko : Int) == 1) = false := beq_eq_false_iff_ne.2 (by omega)
        have hk2 : ((ko : Int) == 2) = false := beq_eq_false_iff_ne.2 (by omega)
        have HKO := hid hko
        have HKL := hid kl
        have hko3 : 3 ≤ ko ∧ ko ≤ 12 := by omega
        clear HK k3 k12 kl HSP hko
        go_wp2_with fail
        have HT7 := hid (HT6.out.alloc (.cells #[.int .i64 ko, .int .i64 nx.n, .string nx.s, .slice An nx.l.length cn] 29))
        have HS7 := hid (HS6.out.alloc (.cells #[.int .i64 ko, .int .i64 nx.n, .string nx.s, .slice An nx.l.length cn] 29))
        have HJB := hid (show ∀ q, (joP X nx.l q).size ≤ 4000 from fun q => by
          have h1 := joinC_le (nx.l.map fun y => showL X y.toNat) q
          rw [joP_size, List.map_take]
          have h2 := HLX.out
          rw [HSQ.out] at h2
          simp only [List.length_append, List.length_cons] at h2
          omega)
        have HPB := hid (show ∀ y ∈ nx.l, showF X y = (showL X y.toNat, 0) ∧ (showL X y.toNat).length ≤ 4000 from fun y hy => by
          have h0 := HKL.out y hy
          have h1 := joinC_mem (List.mem_map_of_mem (f := fun y => showL X y.toNat) hy)
          have h2 := HLX.out
          rw [HSQ.out] at h2
          simp only [List.length_append, List.length_cons] at h2
          exact ⟨showF_yes (has_iff.2 ⟨h0.1, by have := (has_iff.1 HH.out).2; omega⟩) (by omega), by omega⟩)
        clear HT6 HS6
        go_loopw [90, 17] (fun v90 v17 wr => ∃ q : Nat, v90 = .int .i64 q ∧ q ≤ nx.l.length ∧ v17 = .string (joP X nx.l q) ∧ Hid (LA w wr Z sa X) ∧ Hid (SlA wr 1 An nx.l.length cn (nx.l.map (.int .i64)))) (fun v90 _ _ => nx.l.length - (intOf v90).toNat)
        case atStart => exact ⟨0, rfl, Nat.zero_le _, rfl, HT7, HS7⟩
        case round =>
          clear HT7 HS7
          obtain ⟨q, hv, hq, hv17, HTQ, HLQ⟩ := hrel
          subst hv; subst hv17
          by_cases hlq : q < nx.l.length
          · obtain ⟨b, off, p, rfl, hp, hcp⟩ := HLQ.out.elemI hlq
            have hlq' : (q : Int) < (nx.l.length : Int) := by omega
            obtain ⟨P, hP⟩ : ∃ P : ByteArray, P = ⟨(showL X p.toNat).toArray⟩ := ⟨_, rfl⟩
            have hst := joP_step (xs := X) hp
            rw [← hP] at hst
            have HST := hid hst
            have hpb := HPB.out p (List.mem_of_getElem? hp)
            have hPs : P.size ≤ 4000 := by rw [hP, bsz]; exact hpb.2
            have HSC := hid (l_showF HTQ.out HT.out (t := p) (S := P) (er := 0) (by rw [hpb.1, hP]) (by rw [hpb.1]))
            have hJs := HJB.out q
            have HZ := hid (fun h : q = 0 => (show joP X nx.l q = ⟨#[]⟩ by rw [h]; rfl))
            clear hst hpb hp hP
            generalize joP X nx.l q = S at *
            by_cases hq0 : q = 0
            · have hSz := HZ.out hq0
              subst hq0
              have HST1 := hid (show joP X nx.l 1 = S ++ P by
                have := HST.out
                rw [if_pos rfl] at this
                rw [this, hSz]
                apply str_ext
                rw [ByteArray.data_append, Array.toList_append]; rfl)
              clear HST HZ hSz
              have hcat : ¬ 9223372036854775807 < S.size + P.size := by omega
              rw [Nat.add_zero] at hcp
              go_wp2_with fail
              refine HSC.out.mono ?_
              rintro e w8 ⟨rfl, hl8, hb8⟩
              have HT8 := hid hl8; have HS8 := hid (HLQ.out.ext hb8)
              clear hl8 hb8 HSC hcp
              go_wp2_with fail
              go_roundw
              case rel => exact ⟨1, by go_num, by omega, by rw [HST1.out], HT8, HS8⟩
              case measure => simp [intOf]; omega
            · have hq1 : (0 : Int) < (q : Int) := by omega
              have HST1 := hid (show joP X nx.l (q + 1) = S ++ ⟨#[44]⟩ ++ P by
                have := HST.out
                rwa [if_neg hq0] at this)
              clear HST HZ
              have hcat : ¬ 9223372036854775807 < S.size + 1 := by omega
              have hcat2 : ¬ 9223372036854775807 < (S ++ (⟨#[44]⟩ : ByteArray)).size + P.size := by rw [ByteArray.size_append]; have : (⟨#[44]⟩ : ByteArray).size = 1 := rfl; omega
              have hcat3 : ¬ 9223372036854775807 < S.size + 1 + P.size := by omega
              go_wp2_with fail
              refine HSC.out.mono ?_
              rintro e w8 ⟨rfl, hl8, hb8⟩
              have HT8 := hid hl8; have HS8 := hid (HLQ.out.ext hb8)
              clear hl8 hb8 HSC hcp
              go_wp2_with fail
              go_roundw
              case rel => exact ⟨q + 1, by go_num, by omega, by rw [HST1.out], HT8, HS8⟩
              case measure => simp [intOf]; omega
          · obtain rfl : q = nx.l.length := by omega
            have hlq' : ¬ (nx.l.length : Int) < (nx.l.length : Int) := by omega
            have HJL := hid (show joP X nx.l nx.l.length = ⟨(joinC (nx.l.map fun y => showL X y.toNat)).toArray⟩ by unfold joP; rw [List.take_length])
            have hnb := nameB_nat ko (by omega) hko3.1
            obtain ⟨M, hM⟩ : ∃ M : Nat, (nameB (ko : Int)).length = M + 1 := by
              rcases hn : nameB (ko : Int) with _ | ⟨u, v⟩
              · exact absurd hn hnb.2.1
              · exact ⟨v.length, rfl⟩
            have hJs := HJB.out nx.l.length
            have HJ2 := hid (show (joP X nx.l nx.l.length).size = (joinC (nx.l.map fun y => showL X y.toNat)).length by rw [HJL.out, bsz])
            have HSN := hid (show Sx = (⟨(nameB (ko : Int) ++ (40 :: (joinC (nx.l.map fun y => showL X y.toNat) ++ [41]) : List UInt8)).toArray⟩ : ByteArray) by rw [HSx.out, HSQ.out, HKO.out])
            generalize joP X nx.l nx.l.length = J at *
            generalize joinC (nx.l.map fun y => showL X y.toNat) = JL at *
            have hsz : Sx.size = M + 3 + J.size := by
              rw [HSN.out, HJ2.out, bsz]; simp; omega
            have hMs : M ≤ 4 := by have := nameB_len (ko : Int); omega
            have hd2 : Sx.data.toList = nameB (ko : Int) ++ (40 :: (JL ++ [41]) : List UInt8) := by rw [HSN.out]
            have hd3 : J.data.toList = JL := by rw [HJL.out]
            have HEX := hid (show ∀ K, K = M + 2 → ((Sx.extract K Sx.size).toList == (J ++ (⟨#[41]⟩ : ByteArray)).toList) = true from fun K hK => by
              rw [beq_iff_eq, ByteArray.toList_eq, ByteArray.toList_eq, ByteArray.data_extract, Array.toList_extract, hsz, ByteArray.data_append, Array.toList_append, hd2, hd3]
              show List.extract (nameB (ko : Int) ++ 40 :: (JL ++ [41])) K (M + 3 + J.size) = JL ++ [41]
              rw [List.extract_eq_take_drop, hK, HJ2.out]
              have e1 : nameB (ko : Int) ++ 40 :: (JL ++ [41]) = (nameB (ko : Int) ++ [40]) ++ (JL ++ [41]) := by simp
              rw [e1, List.drop_append, List.drop_of_length_le (by simp; omega), List.nil_append, show M + 2 - (nameB (ko : Int) ++ ([40] : List UInt8)).length = 0 by simp; omega, List.drop_zero]
              exact List.take_of_length_le (by simp; omega))
            have HIX := hid (show ∀ K (h : K < Sx.size), K = M + 1 → Sx[K]'h = 40 from fun K h hK => by
              have h1 := Lib.data_getElem? Sx K h
              subst hK
              rw [hd2, List.getElem?_append_right (by omega), hM, Nat.sub_self] at h1
              simp at h1
              exact h1.symm)
            obtain ⟨N, hN⟩ : ∃ N, N = Sx.size := ⟨_, rfl⟩
            obtain ⟨D, hD⟩ : ∃ D, D = M + 3 := ⟨_, rfl⟩
            obtain ⟨D1, hD1⟩ : ∃ D, D = M + 2 := ⟨_, rfl⟩
            obtain ⟨D2, hD2⟩ : ∃ D, D = M + 1 := ⟨_, rfl⟩
            have hw1 : wrap64 ((Sx.size : Int) - (J.size : Int)) = (D : Int) := by unfold wrap64; omega
            have hw2 : wrap64 ((D : Int) - 1) = (D1 : Int) := by unfold wrap64; omega
            have hw3 : wrap64 ((D : Int) - 2) = (D2 : Int) := by unfold wrap64; omega
            have hgt : (J.size : Int) + 1 < (Sx.size : Int) := by omega
            have hle1 : (D1 : Int) ≤ (Sx.size : Int) := by omega
            have hlt2 : (D2 : Int) < (Sx.size : Int) := by omega
            have hlt3 : D2 < Sx.size := by omega
            have hex := HEX.out D1 hD1
            have hix := HIX.out D2 hlt3 hD2
            have hcat : ¬ 9223372036854775807 < J.size + 1 := by omega
            clear hd2 hd3 hsz hN hD hD1 hD2 hMs HEX HIX hM hnb
            go_wp2_with fail
            go_ret
            exact ⟨rfl, HTQ.out.bl⟩
end Go.Proofs.YtadbgmfdbahcbaaGreatDoor
