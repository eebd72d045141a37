/- the document's term: arity, May. -/
import Derived.Test.YtkgobglmkhkbbaaGreatDoorA4
import Derived.Test.YtkgobglmkhkbbaaGreatDoorRD
namespace Go.Proofs.YtkgobglmkhkbbaaGreatDoor
open Go.RowKit Go.KK Go.Shelf
set_option linter.unusedVariables false
set_option linter.unusedSimpArgs false

/-- The document's arena, at block st. -/
abbrev ArR (w : World) (Z : Nat → Prop) (st mp : Nat) (v : Value) (xs : List ND) (qs : List Value) : Prop := Ar Tryz.prog 88 9 3 104 keyR w Z st mp v xs qs
def arR (o : Int) : Int := match arN o with | some k => (k : Nat) | none => -1
theorem arR_out {o : Int} (h : o < 1 ∨ 13 ≤ o ∨ o = 3) : arR o = -1 := by
  have : arN o = none := by
    unfold arN
    split <;> first | omega | rfl
  unfold arR
  rw [this]
theorem len_eqR (o : Int) (n : Nat) : lenB o n = !((decide (arR o < 0) && (o != 3)) || (decide (0 ≤ arR o) && ((n : Int) != arR o))) := by
  unfold arR lenB
  rcases arN o with _ | k
  · by_cases h : o = 3
    · rw [h]; rfl
    · simp [h, bne]
  · by_cases hk : n = k
    · subst hk
      simp
    · have h2 : ((n : Int) != (k : Int)) = true := bne_iff_ne.2 (by omega)
      have h3 : (n == k) = false := beq_eq_false_iff_ne.2 hk
      simp [h2, h3]
set_option maxHeartbeats 4000000 in
theorem rarity_any (o : Int) (w : World) :
    Calls Tryz.prog 124 #[.int .i64 o] w fun e w' => e = .returned (.int .i64 (arR o)) ∧ w' = w := by
  by_cases hin : 1 ≤ o ∧ o ≤ 12
  · obtain ⟨h1, h2⟩ := hin
    have h3 : o = 1 ∨ o = 2 ∨ o = 3 ∨ o = 4 ∨ o = 5 ∨ o = 6 ∨ o = 7 ∨ o = 8 ∨ o = 9 ∨ o = 10 ∨ o = 11 ∨ o = 12 := by omega
    clear h1 h2
    rcases h3 with rfl | rfl | rfl | rfl | rfl | rfl | rfl | rfl | rfl | rfl | rfl | rfl
    all_goals
      go_enter Tryz.func124, Tryz.ntmps124
      go_wp2
      go_ret
      exact ⟨rfl, rfl⟩
  · have HE := hid (arR_out (o := o) (by omega))
    have e1 : (o == 1) = false := beq_eq_false_iff_ne.2 (by omega)
    have e2 : (o == 2) = false := beq_eq_false_iff_ne.2 (by omega)
    have e4 : (o == 4) = false := beq_eq_false_iff_ne.2 (by omega)
    have e5 : (o == 5) = false := beq_eq_false_iff_ne.2 (by omega)
    have e6 : (o == 6) = false := beq_eq_false_iff_ne.2 (by omega)
    have e7 : (o == 7) = false := beq_eq_false_iff_ne.2 (by omega)
    have e8 : (o == 8) = false := beq_eq_false_iff_ne.2 (by omega)
    have e9 : (o == 9) = false := beq_eq_false_iff_ne.2 (by omega)
    have e10 : (o == 10) = false := beq_eq_false_iff_ne.2 (by omega)
    have e11 : (o == 11) = false := beq_eq_false_iff_ne.2 (by omega)
    have e12 : (o == 12) = false := beq_eq_false_iff_ne.2 (by omega)
    clear hin
    go_enter Tryz.func124, Tryz.ntmps124
    go_wp2
    go_ret
    exact ⟨by rw [HE.out]; rfl, rfl⟩
end Go.Proofs.YtkgobglmkhkbbaaGreatDoor
