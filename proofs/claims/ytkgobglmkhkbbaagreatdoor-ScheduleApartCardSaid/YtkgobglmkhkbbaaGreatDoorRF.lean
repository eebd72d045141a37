/- the document's term: May, walked. -/
import Derived.Test.YtkgobglmkhkbbaaGreatDoorRE
namespace Go.Proofs.YtkgobglmkhkbbaaGreatDoor
open Go.RowKit Go.KK Go.Shelf
set_option linter.unusedVariables false
set_option linter.unusedSimpArgs false

set_option maxHeartbeats 8000000 in
set_option maxRecDepth 20000 in
theorem rmay_bad (st : Nat) (xs : List ND) (x : ND) (A : Option Addr) (c : Nat) (w : World) (h : ArV w 104 st xs) (hl : SlA w 1 A x.l.length c (x.l.map (.int .i64))) (hb : shB x = false) :
    Calls Tryz.prog 104 #[.pointer (some ⟨st, 0, none⟩), .agg #[.int .i64 x.o, .int .i64 x.n, .string x.s, .slice A x.l.length c]] w fun e w' => e = .returned (.bool (mayB xs x)) ∧ Below w.heap.size w w' := by
  have H := hid h; have HS := hid hl
  have HM := hid (len_eqR x.o x.l.length)
  have B0 := hid (show Below w.heap.size w (w.alloc (.cells #[.int .i64 x.o, .int .i64 x.n, .string x.s, .slice A x.l.length c] 88)) from (Below.refl _ _).alloc (by simp) _)
  have hu : mayB xs x = (lenB x.o x.l.length && decide (x.l.length ≤ 64) && decide (0 ≤ x.n) && decide (x.s.size ≤ 200) && (x.o == 1 || x.n == 0) && (x.o == 2 || x.s.size == 0) && x.l.all (hasB xs) && (x.o != 6 || opAt xs (x.l.getD 1 0) == 2)) := rfl
  have HU := hid hu
  have C0 := hid (show let W := w.alloc (.cells #[.int .i64 x.o, .int .i64 x.n, .string x.s, .slice A x.l.length c] 88)
    W.cell? ⟨w.heap.size, 0, none⟩ = some (.int .i64 x.o) ∧ W.cell? ⟨w.heap.size, 1, none⟩ = some (.int .i64 x.n) ∧ W.cell? ⟨w.heap.size, 2, none⟩ = some (.string x.s) ∧ W.cell? ⟨w.heap.size, 3, none⟩ = some (.slice A x.l.length c) ∧ w.heap.size < W.heap.size by
      refine ⟨?_, ?_, ?_, ?_, by simp⟩
      all_goals (rw [World.cell?_alloc_at _ _ _ _ (by simp)]; rfl))
  clear h hl hu
  go_enter Tryz.func104, Tryz.ntmps104
  go_wp2_with fail
  refine (rarity_any x.o _).mono ?_
  rintro e1 w1 ⟨rfl, hw1⟩
  subst w1
  have B1 := B0
  obtain ⟨k0, k1, k2, k3, hlt⟩ := C0.out
  generalize w.alloc (.cells #[.int .i64 x.o, .int .i64 x.n, .string x.s, .slice A x.l.length c] 88) = w1 at *
  have H1 := hid (H.out.ext B1.out)
  have HS1 := hid (HS.out.ext B1.out)
  clear hlt C0 B0 H HS
  have HK := hid (show 0 ≤ arR x.o ∨ arR x.o = -1 by unfold arR; rcases arN x.o with _ | k; exact .inr rfl; exact .inl (Int.natCast_nonneg k))
  generalize arR x.o = K at *
  by_cases a1 : K < 0 ∧ x.o ≠ 3
  · have HF := hid (show mayB xs x = false by rw [HU.out, HM.out, decide_eq_true a1.1, bne_iff_ne.2 a1.2]; rfl)
    obtain ⟨p1, p2⟩ := a1
    have p3 : (x.o != 3) = true := bne_iff_ne.2 p2
    clear p2
    go_wp2_with fail
    go_ret
    exact ⟨by rw [HF.out]; rfl, B1.out⟩
  have a1' : K < 0 → (x.o != 3) = false := fun hh => by rw [bne_eq_false_iff_eq]; exact Decidable.byContradiction fun h => a1 ⟨hh, h⟩
  by_cases a2 : 0 ≤ K ∧ (x.l.length : Int) ≠ K
  · have a2' : ((x.l.length : Int) != K) = true := bne_iff_ne.2 a2.2
    have HF := hid (show mayB xs x = false by rw [HU.out, HM.out, decide_eq_true a2.1, a2']; simp)
    have a3 := a2.1
    clear a2 a1 a1'
    go_wp2_with fail
    go_ret
    exact ⟨by rw [HF.out]; rfl, B1.out⟩
  have HL := hid (show lenB x.o x.l.length = true by
    rw [HM.out]
    by_cases h0 : 0 ≤ K
    · rw [show ((x.l.length : Int) != K) = false from by rw [bne_eq_false_iff_eq]; omega, decide_eq_false (show ¬ K < 0 by omega)]; simp
    · rw [decide_eq_false h0, a1' (by omega)]; simp)
  have a2' : (0 ≤ K ∧ ((x.l.length : Int) != K) = false) ∨ (K < 0 ∧ (x.o != 3) = false) := by
    by_cases h0 : 0 ≤ K
    · exact .inl ⟨h0, by rw [bne_eq_false_iff_eq]; omega⟩
    · exact .inr ⟨by omega, a1' (by omega)⟩
  clear a1 a2 a1' HK
  by_cases a4 : 64 < x.l.length
  · have HF := hid (show mayB xs x = false by rw [HU.out, decide_eq_false (show ¬ x.l.length ≤ 64 by omega)]; simp)
    have a4' : (64 : Int) < (x.l.length : Int) := by omega
    rcases a2' with ⟨q1, q2⟩ | ⟨q1, q2⟩
    all_goals
      go_wp2_with fail
      go_ret
      exact ⟨by rw [HF.out]; rfl, B1.out⟩
  have a4' : ¬ (64 : Int) < (x.l.length : Int) := by omega
  by_cases b1 : x.o ≠ 1 ∧ x.n ≠ 0
  · have b1a : (x.o != 1) = true := bne_iff_ne.2 b1.1
    have b1b : (x.n != 0) = true := bne_iff_ne.2 b1.2
    have HF := hid (show mayB xs x = false by rw [HU.out, beq_eq_false_iff_ne.2 b1.1, beq_eq_false_iff_ne.2 b1.2]; simp)
    clear b1
    rcases a2' with ⟨q1, q2⟩ | ⟨q1, q2⟩
    all_goals
      go_wp2_with fail
      go_ret
      exact ⟨by rw [HF.out]; rfl, B1.out⟩
  have b1' : (x.o != 1) = false ∨ ((x.o != 1) = true ∧ (x.n != 0) = false) := by
    by_cases h : x.o = 1
    · exact .inl (by rw [bne_eq_false_iff_eq]; exact h)
    · exact .inr ⟨bne_iff_ne.2 h, by rw [bne_eq_false_iff_eq]; omega⟩
  by_cases b2 : x.o ≠ 2 ∧ ¬ x.s.size = 0
  · have b2a : (x.o != 2) = true := bne_iff_ne.2 b2.1
    have b2b := none_no b2.2
    have HF := hid (show mayB xs x = false by rw [HU.out, beq_eq_false_iff_ne.2 b2.1, beq_eq_false_iff_ne.2 b2.2]; simp)
    clear b2
    rcases a2' with ⟨q1, q2⟩ | ⟨q1, q2⟩ <;> rcases b1' with b1' | ⟨b1', b1''⟩
    all_goals
      go_wp2_with fail
      go_ret
      exact ⟨by rw [HF.out]; rfl, B1.out⟩
  have b2' : (x.o != 2) = false ∨ ((x.o != 2) = true ∧ x.s.toList.isEmpty = true) := by
    by_cases h : x.o = 2
    · exact .inl (by rw [bne_eq_false_iff_eq]; exact h)
    · exact .inr ⟨bne_iff_ne.2 h, none_yes (by omega)⟩
  by_cases a5 : x.n < 0
  · have HF := hid (show mayB xs x = false by rw [HU.out, decide_eq_false (show ¬ 0 ≤ x.n by omega)]; simp)
    have ho : x.o = 1 := Decidable.byContradiction fun h => b1 ⟨h, by omega⟩
    have p1 : (x.o != 1) = false := by rw [ho]; rfl
    have p2 : (x.o != 2) = true := by rw [ho]; rfl
    have p3 : x.s.toList.isEmpty = true := none_yes (Decidable.byContradiction fun h => b2 ⟨by omega, h⟩)
    clear b1 b2 b1' b2' ho
    rcases a2' with ⟨q1, q2⟩ | ⟨q1, q2⟩
    all_goals
      go_wp2_with fail
      go_ret
      exact ⟨by rw [HF.out]; rfl, B1.out⟩
  by_cases a6 : 200 < x.s.size
  · have HF := hid (show mayB xs x = false by rw [HU.out, decide_eq_false (show ¬ x.s.size ≤ 200 by omega)]; simp)
    have a6' : (200 : Int) < (x.s.size : Int) := by omega
    have ho : x.o = 2 := Decidable.byContradiction fun h => b2 ⟨h, by omega⟩
    have p1 : (x.o != 1) = true := by rw [ho]; rfl
    have p2 : (x.o != 2) = false := by rw [ho]; rfl
    have p3 : (x.n != 0) = false := by rw [bne_eq_false_iff_eq]; exact Decidable.byContradiction fun h => b1 ⟨by omega, h⟩
    clear b1 b2 b1' b2' ho
    rcases a2' with ⟨q1, q2⟩ | ⟨q1, q2⟩
    all_goals
      go_wp2_with fail
      go_ret
      exact ⟨by rw [HF.out]; rfl, B1.out⟩
  exfalso
  have h1 : (x.o == 1 || x.n == 0) = true := by
    rcases Decidable.em (x.o = 1) with h | h
    · rw [h]; rfl
    · rw [show x.n = 0 by omega]; simp
  have h2 : (x.o == 2 || x.s.size == 0) = true := by
    rcases Decidable.em (x.o = 2) with h | h
    · rw [h]; rfl
    · rw [show x.s.size = 0 by omega]; simp
  unfold shB at hb
  rw [HL.out, h1, h2, decide_eq_true (show x.l.length ≤ 64 by omega), decide_eq_true (show 0 ≤ x.n by omega), decide_eq_true (show x.s.size ≤ 200 by omega)] at hb
  cases hb
end Go.Proofs.YtkgobglmkhkbbaaGreatDoor
