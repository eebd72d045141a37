import Derived.Test.YtadbgmfdbahcbaaDoorZG7
/- deduce: term, whatever it is. -/
namespace Go.Proofs.YtadbgmfdbahcbaaDoor
open Go.RowKit Go.KK Go.Shelf Go.Maps
set_option linter.unusedVariables false
set_option linter.unusedSimpArgs false

theorem op_range {o : Int} {n : Nat} (h : lenB o n = true) : 1 ≤ o ∧ o ≤ 12 := by
  unfold lenB at h
  rcases ha : arN o with _ | k
  · rw [ha] at h
    have := eq_of_beq h
    omega
  · unfold arN at ha
    split at ha <;> first | omega | cases ha
theorem wt_all (W1 : World) (G R : Nat → Prop) (B b sp mb : Nat) (lv uv : Value) (xs : List ND) (s : SD) (I : Int → Bool) (h : SpA W1 G R sp lv uv xs s) (hT : Tb W1.heap.size W1) (hI : ∀ y, I y = inB s.i y) (hs : ∀ x ∈ xs, x.s.size ≤ 1000000) :
    ∀ (N : Nat) (t : Int), t.toNat < N → hasB xs t = true → WtD W1 B b sp mb xs I t := by
  intro N
  induction N with
  | zero => intro t h; omega
  | succ N ih =>
    intro t hN ht
    have hx := nodeF_get ht
    have ht2 := has_iff.1 ht
    have hp : ∀ y ∈ (nodeF xs t).l, WtD W1 B b sp mb xs I y := fun y hy => by
      have := part_lt h.ok ht hy
      exact ih y (by omega) this.2.2
    have hr : 1 ≤ (nodeF xs t).o ∧ (nodeF xs t).o ≤ 12 := op_range (nd_len h.ok ht)
    have ht0 : ((t.toNat : Nat) : Int) = t := by omega
    rw [← ht0]
    generalize nodeF xs t = x at *
    by_cases h2 : x.o = 2
    · exact wt2 W1 G R B b sp mb lv uv xs s I t.toNat x h hx h2 (hs x (List.mem_of_getElem? hx))
    by_cases h3 : x.o = 3
    · exact wt3 W1 G R B b sp mb lv uv xs s I t.toNat x h hx h3 hp
    by_cases h1 : x.o = 1
    · exact wtN W1 G R B b sp mb lv uv xs s I t.toNat x h hx 1 h1 (.inl rfl) hT hI hp
    rcases ha : x.l.all (inB s.i) with _ | _
    · exact wtN W1 G R B b sp mb lv uv xs s I t.toNat x h hx x.o.toNat (by omega) (.inr ⟨by omega, by omega, ha⟩) hT hI hp
    · exact wtA W1 G R B b sp mb lv uv xs s I t.toNat x h hx x.o.toNat (by omega) (by omega) (by omega) ha hI hp
end Go.Proofs.YtadbgmfdbahcbaaDoor

