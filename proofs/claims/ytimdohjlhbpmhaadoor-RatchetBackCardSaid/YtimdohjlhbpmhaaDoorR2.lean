/- ratchet: a node that is zero, and numbers that rise. -/
import Derived.Test.YtimdohjlhbpmhaaDoorR1
namespace Go.Proofs.YtimdohjlhbpmhaaDoor
open Go.RowKit Go.KK
set_option linter.unusedVariables false
set_option linter.unusedSimpArgs false

/-- All of a node is zero. -/
def orN (k i e s h : Int) : Int := bits .or .i64 (bits .or .i64 (bits .or .i64 (bits .or .i64 k i) e) s) h
theorem zero_any (k i e s h : Int) (A : Option Addr) (n c : Nat) (w : World) :
    Calls Tryd.prog 52 #[.agg #[.int .i64 k, .int .i64 i, .int .i64 e, .int .i64 s, .int .i64 h, .slice A n c]] w fun r w' => r = .returned (.bool (orN k i e s h == 0 && (n : Int) == 0)) ∧ Below w.heap.size w w' := by
  go_enter Tryd.func52, Tryd.ntmps52
  go_wp2
  all_goals go_ret
  all_goals exact ⟨by unfold orN; simp_all, (Below.refl _ _).alloc (Nat.le_refl _) _⟩

/-- Numbers none of which is less than the one before it. -/
def sortB (l : List Int) : Bool := Lib.downOK (fun x y => decide (x < y)) l.toArray (l.length - 1)
theorem sorted_zero (A : Option Addr) (c : Nat) (w : World) :
    Calls Tryd.prog 73 #[.slice A 0 c] w fun e w' => e = .returned (.bool true) ∧ w' = w := by
  go_enter Tryd.func73, Tryd.ntmps73
  go_wp2
  go_loop [2, 3] (fun _ i => i = .int .i64 (-1)) (fun _ i => (intOf i).toNat + 1)
  case atStart => rfl
  case round =>
    subst hrel
    go_wp2
    go_ret
    exact ⟨rfl, rfl⟩
theorem sorted_any (A : Option Addr) (n c : Nat) (l : List Int) (w : World) (h : SlA w 1 A n c (l.map (.int .i64))) (hn47 : n ≤ 2147483648) :
    Calls Tryd.prog 73 #[.slice A n c] w fun e w' => e = .returned (.bool (sortB l)) ∧ ∃ q, w' = w.drewN q := by
  have hn := h.lenI
  rcases l with _ | ⟨x, l⟩
  · simp at hn
    subst hn
    exact (sorted_zero A c w).mono fun e w' ⟨h1, h2⟩ => ⟨h1, 0, h2⟩
  · obtain ⟨b, o, rfl, _⟩ := h.cells 0 _ rfl
    have := AnyO.slices_IsSorted_int Tryd.laysO10 b o c (x :: l).toArray w (fun i hi => by
      obtain ⟨b', o', e, hc⟩ := h.cells i (.int .i64 ((x :: l)[i]'(by simpa using hi))) (by rw [List.getElem?_map, List.getElem?_eq_getElem (by simpa using hi)]; rfl)
      injection e with e
      injection e with e1 e2
      subst e1; subst e2
      rw [hc, getElem!_pos (x :: l).toArray i hi]
      simp) (by simp at hn ⊢; omega)
    rw [show (x :: l).toArray.size = n by simpa using hn] at this
    unfold sortB
    rw [hn]
    exact this
end Go.Proofs.YtimdohjlhbpmhaaDoor
