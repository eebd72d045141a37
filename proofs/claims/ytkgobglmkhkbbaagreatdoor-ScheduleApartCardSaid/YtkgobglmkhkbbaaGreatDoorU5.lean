/- crypto over the law's arena: of, known, Extract, Expand, Derive, Public; Text, List. -/
import Derived.Test.YtkgobglmkhkbbaaGreatDoorW3
import Derived.Test.YtkgobglmkhkbbaaGreatDoorU4
namespace Go.Proofs.YtkgobglmkhkbbaaGreatDoor
open Go.RowKit Go.KK Go.Shelf Go.Maps
set_option linter.unusedVariables false
set_option linter.unusedSimpArgs false

theorem idx_i64 {xs : List ND} (ok : Okay xs) (x : ND) : I64 (makI xs x) := by
  have := makI_b ok.len x
  exact ⟨by omega, by omega⟩
theorem ndI_tx (s : ByteArray) : NdI (txN s) := ⟨by unfold I64 txN; simp, by unfold I64 txN; simp, fun i hi => by simp [txN] at hi⟩
theorem Mv.trans {Z Z1 Z2 : Nat → Prop} {W W1 W2 : World} (a : Mv Z W Z1 W1) (b : Mv Z1 W1 Z2 W2) : Mv Z W Z2 W2 :=
  ⟨a.t.trans b.t a.n, fun k hk => (b.n k hk).elim (a.n k) fun h => .inr (Nat.le_trans a.t.size h)⟩
theorem Mv.alloc (Z : Nat → Prop) (W : World) (o : Obj) : Mv Z W Z (W.alloc o) := .below ((Below.refl _ _).alloc (Nat.le_refl _) o)
section
variable {w0 W W' : World} {Z Z' : Nat → Prop} {sa : Nat} {xs xs' : List ND}
/-- A call that takes a step. -/
def LrS (w0 W : World) (Z : Nat → Prop) (sa : Nat) (r : Rs) (e : Ending) (w' : World) : Prop := ∃ Z', e = .returned (.tuple #[.int .i64 r.2.1, .int .i64 r.2.2]) ∧ LA w0 w' Z' sa r.1 ∧ Mv Z W Z' w'
theorem l_of (h : LA w0 W Z sa xs) (hT : Tb w0.heap.size w0) {o : Int} {A : Option Addr} {n c : Nat} {l : List Int} (hl : SlA W 1 A n c (l.map (.int .i64))) (ho : I64 o) (hi : ∀ i ∈ l, I64 i) :
    Calls Tryz.prog 94 #[.pointer (some ⟨sa, 0, none⟩), .int .i64 o, .slice A n c] W (LrS w0 W Z sa (mk xs (ndN o l))) := by
  have e := hl.lenI
  subst e
  have HM := hid (l_mke h hT (x := ndN o l) hl (ndI_nd ho hi))
  clear h hl hT
  go_enter Tryz.func94, Tryz.ntmps94
  go_wp2_with fail
  refine HM.out.mono ?_
  rintro e w' ⟨Z', rfl, h1, h2⟩
  have H1 := hid h1; have H2 := hid h2
  clear h1 h2
  go_wp2_with fail
  go_ret2
  exact ⟨Z', rfl, H1.out, H2.out⟩
theorem l_list (h : LA w0 W Z sa xs) (hT : Tb w0.heap.size w0) {A : Option Addr} {n c : Nat} {l : List Int} (hl : SlA W 1 A n c (l.map (.int .i64))) (hi : ∀ i ∈ l, I64 i) :
    Calls Tryz.prog 38 #[.pointer (some ⟨sa, 0, none⟩), .slice A n c] W (LrS w0 W Z sa (mk xs (ndN 3 l))) := by
  have e := hl.lenI
  subst e
  have HM := hid (l_mke h hT (x := ndN 3 l) hl (ndI_nd (i64_lit (by decide) (by decide)) hi))
  clear h hl hT
  go_enter Tryz.func38, Tryz.ntmps38
  go_wp2_with fail
  refine HM.out.mono ?_
  rintro e w' ⟨Z', rfl, h1, h2⟩
  have H1 := hid h1; have H2 := hid h2
  clear h1 h2
  go_wp2_with fail
  go_ret2
  exact ⟨Z', rfl, H1.out, H2.out⟩
theorem l_text (h : LA w0 W Z sa xs) (hT : Tb w0.heap.size w0) (s : ByteArray) :
    Calls Tryz.prog 36 #[.pointer (some ⟨sa, 0, none⟩), .string s] W (LrS w0 W Z sa (mk xs (txN s))) := by
  have HM := hid (l_mke h hT (x := txN s) (SlA.nil _ _) (ndI_tx s))
  clear h hT
  go_enter Tryz.func36, Tryz.ntmps36
  go_wp2_with fail
  refine HM.out.mono ?_
  rintro e w' ⟨Z', rfl, h1, h2⟩
  have H1 := hid h1; have H2 := hid h2
  clear h1 h2
  go_wp2_with fail
  go_ret2
  exact ⟨Z', rfl, H1.out, H2.out⟩
theorem kno_any (st : Nat) (w : World) (A : Option Addr) (n c : Nat) (l : List Int) (h : ArV w 124 st xs) (hl : SlA w 1 A n c (l.map (.int .i64))) (hn : n ≤ 2147483648) :
    Calls Tryz.prog 95 #[.pointer (some ⟨st, 0, none⟩), .slice A n c] w fun e w' => e = .returned (.bool (kno xs l)) ∧ w' = w := by
  have H := hid h; have HS := hid hl; have HL := hid hl.lenI
  clear h hl
  unfold kno
  go_enter Tryz.func95, Tryz.ntmps95
  go_wp2
  go_loopw [9] (fun i wr => ∃ j : Nat, i = .int .i64 j ∧ j ≤ n ∧ Hid (l.all (hasB xs) = (l.drop j).all (hasB xs)) ∧ wr = w) (fun i _ => n - (intOf i).toNat)
  case atStart => exact ⟨0, rfl, by omega, hid rfl, rfl⟩
  case round =>
    obtain ⟨j, hi, hj, HJ, hw⟩ := hrel
    subst hi; subst hw
    by_cases hlt : j < n
    · obtain ⟨b1, o, z, rfl, hz, hc⟩ := HS.out.elemI hlt
      have HD := hid (drop_get hz); clear hz
      by_cases hz0 : z < 0
      · have HF := hid (show l.all (hasB xs) = false by
          rw [HJ.out, HD.out, List.all_cons, show hasB xs z = false by unfold hasB; rw [decide_eq_false (by omega : ¬ 0 ≤ z)]; rfl]; rfl)
        go_wp2
        go_ret
        exact ⟨by rw [HF.out]; rfl, rfl⟩
      · by_cases hz1 : (xs.length : Int) ≤ z
        · have HF := hid (show l.all (hasB xs) = false by
            rw [HJ.out, HD.out, List.all_cons, show hasB xs z = false by unfold hasB; rw [decide_eq_false (by omega : ¬ z < (xs.length : Int))]; simp]; rfl)
          go_wp2_with (go_at_call 42; refine (len_any st xs _ H.out).mono ?_; rintro e w' ⟨rfl, hw'⟩; subst hw')
          go_ret
          exact ⟨by rw [HF.out]; rfl, rfl⟩
        · have HF := hid (show l.all (hasB xs) = (l.drop (j + 1)).all (hasB xs) by
            rw [HJ.out, HD.out, List.all_cons, show hasB xs z = true by unfold hasB; rw [decide_eq_true (by omega : z < (xs.length : Int)), decide_eq_true (by omega : 0 ≤ z)]; rfl]; rfl)
          go_wp2_with (go_at_call 42; refine (len_any st xs _ H.out).mono ?_; rintro e w' ⟨rfl, hw'⟩; subst hw')
          go_roundw
          case rel => exact ⟨j + 1, by go_num, by omega, HF, by first | rfl | trivial⟩
          case measure => simp [intOf]; omega
    · have HF := hid (show l.all (hasB xs) = true by rw [HJ.out, List.drop_of_length_le (by have := HL.out; omega)]; rfl)
      go_wp2
      go_ret
      exact ⟨by rw [HF.out]; rfl, rfl⟩
theorem l_ex (h : LA w0 W Z sa xs) (hT : Tb w0.heap.size w0) {s t : Int} (hs : I64 s) (ht : I64 t) :
    Calls Tryz.prog 59 #[.pointer (some ⟨sa, 0, none⟩), .int .i64 s, .int .i64 t] W (LrS w0 W Z sa (exF xs s t)) := by
  have HM := hid (l_of (h.alloc (.cells #[.int .i64 s, .int .i64 t] 3)) hT (o := 5) (l := [s, t]) (sla_row #[.int .i64 s, .int .i64 t] (by unfold maxLen; simp)) (i64_lit (by decide) (by decide)) (fun i hi => by
    simp only [List.mem_cons, List.mem_nil_iff, or_false] at hi
    rcases hi with rfl | rfl
    · exact hs
    · exact ht))
  clear h hT
  unfold exF
  generalize mk xs (ndN 5 [s, t]) = r at *
  go_enter Tryz.func59, Tryz.ntmps59
  go_wp2_with fail
  refine HM.out.mono ?_
  rintro e w' ⟨Z', rfl, h1, h2⟩
  have H1 := hid h1; have H2 := hid ((Mv.alloc Z W (.cells #[.int .i64 s, .int .i64 t] 3)).trans h2)
  clear h1 h2 HM
  go_wp2_with fail
  go_ret2
  exact ⟨Z', rfl, H1.out, H2.out⟩
theorem l_pb (h : LA w0 W Z sa xs) (hT : Tb w0.heap.size w0) {s : Int} (hs : I64 s) :
    Calls Tryz.prog 68 #[.pointer (some ⟨sa, 0, none⟩), .int .i64 s] W (LrS w0 W Z sa (pbF xs s)) := by
  have HM := hid (l_of (h.alloc (.cells #[.int .i64 s] 3)) hT (o := 7) (l := [s]) (sla_row #[.int .i64 s] (by unfold maxLen; simp)) (i64_lit (by decide) (by decide)) (fun i hi => by
    rw [List.mem_singleton] at hi
    subst hi
    exact hs))
  clear h hT
  unfold pbF
  generalize mk xs (ndN 7 [s]) = r at *
  go_enter Tryz.func68, Tryz.ntmps68
  go_wp2_with fail
  refine HM.out.mono ?_
  rintro e w' ⟨Z', rfl, h1, h2⟩
  have H1 := hid h1; have H2 := hid ((Mv.alloc Z W (.cells #[.int .i64 s] 3)).trans h2)
  clear h1 h2 HM
  go_wp2_with fail
  go_ret2
  exact ⟨Z', rfl, H1.out, H2.out⟩
set_option maxHeartbeats 2000000 in
set_option maxRecDepth 100000 in
theorem l_exd (h : LA w0 W Z sa xs) (hT : Tb w0.heap.size w0) {s c : Int} (hs : I64 s) (hc : I64 c) (lab : ByteArray) :
    Calls Tryz.prog 65 #[.pointer (some ⟨sa, 0, none⟩), .int .i64 s, .string lab, .int .i64 c] W (LrS w0 W Z sa (exdF xs s lab c)) := by
  have HT := hid hT
  have HA := hid (h.alloc (.cells #[.int .i64 s, .int .i64 c] 3))
  have HM := hid (Mv.alloc Z W (.cells #[.int .i64 s, .int .i64 c] 3))
  have HK := hid (kno_any sa (W.alloc (.cells #[.int .i64 s, .int .i64 c] 3)) (some ⟨W.heap.size, 0, none⟩) 2 2 [s, c] HA.out.ar.vw (sla_row #[.int .i64 s, .int .i64 c] (by unfold maxLen; simp)) (by omega))
  have hti := idx_i64 h.ar.ok (txN lab)
  clear h hT
  rcases hk : kno xs [s, c] with _ | _
  · have HF := hid (show exdF xs s lab c = (xs, 0, 1) by unfold exdF; rw [if_neg (by rw [hk]; decide)])
    rw [HF.out]
    rw [hk] at HK
    clear hk hti
    go_enter Tryz.func65, Tryz.ntmps65
    go_wp2_with fail
    refine HK.out.mono ?_
    rintro e w' ⟨rfl, hw⟩
    subst hw
    go_wp2_with fail
    go_ret2
    exact ⟨Z, rfl, HA.out, HM.out⟩
  · rw [hk] at HK
    have HX := hid (l_text HA.out HT.out lab)
    by_cases he : makE xs (txN lab) = 0
    · have HF := hid (show exdF xs s lab c = mk (makT xs (txN lab)) (ndN 6 [s, makI xs (txN lab), c]) by unfold exdF; rw [if_pos hk]; unfold bdF; rw [if_pos (show (mk xs (txN lab)).2.2 = 0 from he)]; rfl)
      rw [HF.out]
      unfold LrS mk at HX
      rw [he] at HX
      clear hk he
      generalize makI xs (txN lab) = ti at *
      generalize makT xs (txN lab) = Y at *
      obtain ⟨r, hr⟩ : ∃ r : Rs, r = mk Y (ndN 6 [s, ti, c]) := ⟨_, rfl⟩
      rw [← hr]
      have HR := hid hr
      clear hr HF
      go_enter Tryz.func65, Tryz.ntmps65
      go_wp2_with fail
      refine HK.out.mono ?_
      rintro e w' ⟨rfl, hw⟩
      subst hw
      go_wp2_with fail
      refine HX.out.mono ?_
      rintro e w2 ⟨Z2, rfl, l2, m2⟩
      have HO := hid (l_of (l2.alloc (.cells #[.int .i64 s, .int .i64 ti, .int .i64 c] 3)) HT.out (o := 6) (l := [s, ti, c]) (sla_row #[.int .i64 s, .int .i64 ti, .int .i64 c] (by unfold maxLen; simp)) (i64_lit (by decide) (by decide)) (fun i hi => by
        simp only [List.mem_cons, List.mem_nil_iff, or_false] at hi
        rcases hi with rfl | rfl | rfl
        · exact hs
        · exact hti
        · exact hc))
      rw [← HR.out] at HO
      have M2 := hid ((HM.out.trans m2).trans (Mv.alloc Z2 w2 (.cells #[.int .i64 s, .int .i64 ti, .int .i64 c] 3)))
      clear l2 m2 HX HK
      go_wp2_with fail
      refine HO.out.mono ?_
      rintro e w3 ⟨Z3, rfl, l3, m3⟩
      have L3 := hid l3; have M3 := hid (M2.out.trans m3)
      clear l3 m3 HO
      go_wp2_with fail
      go_ret2
      exact ⟨Z3, rfl, L3.out, M3.out⟩
    · have HF := hid (show exdF xs s lab c = (makT xs (txN lab), 0, makE xs (txN lab)) by unfold exdF; rw [if_pos hk]; unfold bdF; rw [if_neg (show ¬ (mk xs (txN lab)).2.2 = 0 from he)]; rfl)
      rw [HF.out]
      unfold LrS mk at HX
      have hne : (makE xs (txN lab) != 0) = true := bne_iff_ne.2 he
      clear hk he
      generalize makE xs (txN lab) = te at *
      generalize makI xs (txN lab) = ti at *
      generalize makT xs (txN lab) = Y at *
      go_enter Tryz.func65, Tryz.ntmps65
      go_wp2_with fail
      refine HK.out.mono ?_
      rintro e w' ⟨rfl, hw⟩
      subst hw
      go_wp2_with fail
      refine HX.out.mono ?_
      rintro e w2 ⟨Z2, rfl, l2, m2⟩
      have L2 := hid l2; have M2 := hid (HM.out.trans m2)
      clear l2 m2 HX HK HF
      go_wp2_with fail
      go_ret2
      exact ⟨Z2, rfl, L2.out, M2.out⟩
set_option maxHeartbeats 2000000 in
set_option maxRecDepth 100000 in
theorem l_dv (h : LA w0 W Z sa xs) (hT : Tb w0.heap.size w0) {s : Int} (hs : I64 s) (lab : ByteArray) :
    Calls Tryz.prog 63 #[.pointer (some ⟨sa, 0, none⟩), .int .i64 s, .string lab] W (LrS w0 W Z sa (dvF xs s lab)) := by
  have HT := hid hT
  have HA := hid (h.alloc (.cells #[.int .i64 s] 3))
  have HM := hid (Mv.alloc Z W (.cells #[.int .i64 s] 3))
  have HK := hid (kno_any sa (W.alloc (.cells #[.int .i64 s] 3)) (some ⟨W.heap.size, 0, none⟩) 1 1 [s] HA.out.ar.vw (sla_row #[.int .i64 s] (by unfold maxLen; simp)) (by omega))
  have hti := idx_i64 h.ar.ok (ndN 3 [])
  clear h hT
  rcases hk : kno xs [s] with _ | _
  · have HF := hid (show dvF xs s lab = (xs, 0, 1) by unfold dvF; rw [if_neg (by rw [hk]; decide)])
    rw [HF.out]
    rw [hk] at HK
    clear hk hti
    go_enter Tryz.func63, Tryz.ntmps63
    go_wp2_with fail
    refine HK.out.mono ?_
    rintro e w' ⟨rfl, hw⟩
    subst hw
    go_wp2_with fail
    go_ret2
    exact ⟨Z, rfl, HA.out, HM.out⟩
  · rw [hk] at HK
    have HX := hid (l_list HA.out HT.out (l := []) (SlA.nil _ _) (fun i hi => by simp at hi))
    by_cases he : makE xs (ndN 3 []) = 0
    · have HF := hid (show dvF xs s lab = exdF (makT xs (ndN 3 [])) s lab (makI xs (ndN 3 [])) by unfold dvF; rw [if_pos hk]; unfold bdF; rw [if_pos (show (mk xs (ndN 3 [])).2.2 = 0 from he)]; rfl)
      rw [HF.out]
      unfold LrS mk at HX
      rw [he] at HX
      clear hk he
      generalize makI xs (ndN 3 []) = ti at *
      generalize makT xs (ndN 3 []) = Y at *
      obtain ⟨r, hr⟩ : ∃ r : Rs, r = exdF Y s lab ti := ⟨_, rfl⟩
      rw [← hr]
      have HR := hid hr
      clear hr HF
      go_enter Tryz.func63, Tryz.ntmps63
      go_wp2_with fail
      refine HK.out.mono ?_
      rintro e w' ⟨rfl, hw⟩
      subst hw
      go_wp2_with fail
      refine HX.out.mono ?_
      rintro e w2 ⟨Z2, rfl, l2, m2⟩
      have HO := hid (l_exd l2 HT.out hs hti lab)
      rw [← HR.out] at HO
      have M2 := hid (HM.out.trans m2)
      clear l2 m2 HX HK
      go_wp2_with fail
      refine HO.out.mono ?_
      rintro e w3 ⟨Z3, rfl, l3, m3⟩
      have L3 := hid l3; have M3 := hid (M2.out.trans m3)
      clear l3 m3 HO
      go_wp2_with fail
      go_ret2
      exact ⟨Z3, rfl, L3.out, M3.out⟩
    · have HF := hid (show dvF xs s lab = (makT xs (ndN 3 []), 0, makE xs (ndN 3 [])) by unfold dvF; rw [if_pos hk]; unfold bdF; rw [if_neg (show ¬ (mk xs (ndN 3 [])).2.2 = 0 from he)]; rfl)
      rw [HF.out]
      unfold LrS mk at HX
      have hne : (makE xs (ndN 3 []) != 0) = true := bne_iff_ne.2 he
      clear hk he
      generalize makE xs (ndN 3 []) = te at *
      generalize makI xs (ndN 3 []) = ti at *
      generalize makT xs (ndN 3 []) = Y at *
      go_enter Tryz.func63, Tryz.ntmps63
      go_wp2_with fail
      refine HK.out.mono ?_
      rintro e w' ⟨rfl, hw⟩
      subst hw
      go_wp2_with fail
      refine HX.out.mono ?_
      rintro e w2 ⟨Z2, rfl, l2, m2⟩
      have L2 := hid l2; have M2 := hid (HM.out.trans m2)
      clear l2 m2 HX HK HF
      go_wp2_with fail
      go_ret2
      exact ⟨Z2, rfl, L2.out, M2.out⟩
end
end Go.Proofs.YtkgobglmkhkbbaaGreatDoor
