/- schedule: Export. -/
import Derived.Test.YtkgobglmkhkbbaaGreatDoorUE
namespace Go.Proofs.YtkgobglmkhkbbaaGreatDoor
open Go.RowKit Go.KK Go.Shelf Go.Maps
set_option linter.unusedVariables false
set_option linter.unusedSimpArgs false

section
variable {w0 W : World} {Z : Nat → Prop} {sa : Nat} {xs : List ND}
set_option maxHeartbeats 2000000 in
set_option maxRecDepth 100000 in
theorem l_xp (h : LA w0 W Z sa xs) (hT : Tb w0.heap.size w0) {el : List Int} (h11 : el.length = 11) (h5 : I64 (el.getD 5 0)) {x : Int} (hx : I64 x) (lab : ByteArray) :
    Calls Tryz.prog 22 #[.pointer (some ⟨sa, 0, none⟩), epV el, .string lab, .int .i64 x] W (LrS w0 W Z sa (xpF xs el lab x)) := by
  obtain ⟨e0, e1, e2, e3, e4, e5, e6, e7, e8, e9, e10, rfl⟩ := len11 h11
  clear h11
  have h5' : I64 e5 := h5
  have HT := hid hT
  have HA := hid (h.alloc (.cells #[.int .i64 e0, .int .i64 e1, .int .i64 e2, .int .i64 e3, .int .i64 e4, .int .i64 e5, .int .i64 e6, .int .i64 e7, .int .i64 e8, .int .i64 e9, .int .i64 e10] 30))
  have HM := hid (Mv.alloc Z W (.cells #[.int .i64 e0, .int .i64 e1, .int .i64 e2, .int .i64 e3, .int .i64 e4, .int .i64 e5, .int .i64 e6, .int .i64 e7, .int .i64 e8, .int .i64 e9, .int .i64 e10] 30))
  have hxn := h.ar.ok.len
  clear hT h5
  unfold epV
  rcases hh : hasB xs x with _ | _
  · have HF := hid (show xpF xs [e0, e1, e2, e3, e4, e5, e6, e7, e8, e9, e10] lab x = (xs, 0, 1) by unfold xpF; rw [if_neg (by rw [hh]; decide)])
    rw [HF.out]
    have hn : x < 0 ∨ (0 ≤ x ∧ (xs.length : Int) ≤ x) := by
      rcases Int.lt_or_le x 0 with h1 | h1
      · exact .inl h1
      · refine .inr ⟨h1, ?_⟩
        rcases Int.lt_or_le x (xs.length : Int) with h2 | h2
        · rw [has_iff.2 ⟨h1, h2⟩] at hh; cases hh
        · exact h2
    clear hh h
    rcases hn with hneg | ⟨hpos, hge⟩
    · go_enter Tryz.func22, Tryz.ntmps22
      go_wp2_with fail
      go_ret2
      exact (show LrS _ _ _ _ _ _ _ from ⟨Z, rfl, HA.out, HM.out⟩)
    · go_enter Tryz.func22, Tryz.ntmps22
      go_wp2_with fail
      refine (len_any sa xs _ HA.out.ar.vw).mono ?_
      rintro e w2 ⟨rfl, hw⟩
      subst hw
      go_wp2_with fail
      go_ret2
      exact (show LrS _ _ _ _ _ _ _ from ⟨Z, rfl, HA.out, HM.out⟩)
  · have h2 := has_iff.1 hh
    have hlt : x < (xs.length : Int) := h2.2
    have hge0 : ¬ x < 0 := by omega
    have HD := hid (l_dv HA.out HT.out h5' lab)
    have HIX := hid (fun U Zq (hla : LA w0 U Zq sa (dvF xs e5 lab).1) (h0 : (dvF xs e5 lab).2.2 = 0) => (show I64 (dvF xs e5 lab).2.1 from by
      have a := has_iff.1 ((sb_dv e5 lab).has xs h0)
      have b := hla.ar.ok.len
      try dsimp only at a b
      exact ⟨by omega, by omega⟩))
    by_cases he : (dvF xs e5 lab).2.2 = 0
    · have HF := hid (show xpF xs [e0, e1, e2, e3, e4, e5, e6, e7, e8, e9, e10] lab x = exdF (dvF xs e5 lab).1 (dvF xs e5 lab).2.1 lbExported x by
        unfold xpF; rw [if_pos hh]; unfold bdF; rw [if_pos (show (dvF xs ([e0, e1, e2, e3, e4, e5, e6, e7, e8, e9, e10].getD 5 0) lab).2.2 = 0 from he)]; rfl)
      rw [HF.out]
      unfold LrS at HD
      rw [he] at HD
      have HI0 := hid (fun U Zq hla => HIX.out U Zq hla he)
      clear he hh h HIX
      generalize dvF xs e5 lab = r at *
      obtain ⟨Y, y, er⟩ := r
      obtain ⟨r, hr⟩ : ∃ r : Rs, r = exdF Y y lbExported x := ⟨_, rfl⟩
      rw [← hr]
      have HR := hid hr
      clear hr HF
      go_enter Tryz.func22, Tryz.ntmps22
      go_wp2_with fail
      refine (len_any sa xs _ HA.out.ar.vw).mono ?_
      rintro e w2 ⟨rfl, hw⟩
      subst hw
      go_wp2_with fail
      refine HD.out.mono ?_
      rintro e w3 ⟨Z3, rfl, l3, m3⟩
      have HO := hid (l_exd l3 HT.out (HI0.out _ _ l3) hx lbExported)
      rw [← HR.out] at HO
      unfold lbExported at HO
      have M3 := hid (HM.out.trans m3)
      clear l3 m3 HD
      go_wp2_with fail
      refine HO.out.mono ?_
      rintro e w4 ⟨Z4, rfl, l4, m4⟩
      have L4 := hid l4; have M4 := hid (M3.out.trans m4)
      clear l4 m4 HO
      go_wp2_with fail
      go_ret2
      exact (show LrS _ _ _ _ _ _ _ from ⟨Z4, rfl, L4.out, M4.out⟩)
    · have HF := hid (show xpF xs [e0, e1, e2, e3, e4, e5, e6, e7, e8, e9, e10] lab x = ((dvF xs e5 lab).1, 0, (dvF xs e5 lab).2.2) by
        unfold xpF; rw [if_pos hh]; unfold bdF; rw [if_neg (show ¬ (dvF xs ([e0, e1, e2, e3, e4, e5, e6, e7, e8, e9, e10].getD 5 0) lab).2.2 = 0 from he)]; rfl)
      rw [HF.out]
      unfold LrS at HD
      have hne : ((dvF xs e5 lab).2.2 != 0) = true := bne_iff_ne.2 he
      clear he hh h HIX
      generalize dvF xs e5 lab = r at *
      obtain ⟨Y, y, er⟩ := r
      go_enter Tryz.func22, Tryz.ntmps22
      go_wp2_with fail
      refine (len_any sa xs _ HA.out.ar.vw).mono ?_
      rintro e w2 ⟨rfl, hw⟩
      subst hw
      go_wp2_with fail
      refine HD.out.mono ?_
      rintro e w3 ⟨Z3, rfl, l3, m3⟩
      have L3 := hid l3; have M3 := hid (HM.out.trans m3)
      clear l3 m3 HD HF
      go_wp2_with fail
      go_ret2
      exact (show LrS _ _ _ _ _ _ _ from ⟨Z3, rfl, L3.out, M3.out⟩)
end
end Go.Proofs.YtkgobglmkhkbbaaGreatDoor
