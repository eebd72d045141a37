/- term: the program's arena and the document's, of the same nodes. -/
import Derived.Test.YtkgobglmkhkbbaaGreatDoorMJ
import Derived.Test.YtkgobglmkhkbbaaGreatDoorM1
namespace Go.Proofs.YtkgobglmkhkbbaaGreatDoor
open Go.RowKit Go.KK Go.Shelf Go.Maps
set_option linter.unusedVariables false
set_option linter.unusedSimpArgs false

/-- Two arenas of the same nodes. -/
structure Tw (w W : World) (sa sb : Nat) (Z Z' : Nat → Prop) (xs : List ND) : Prop where
  a : AR W Z sa xs
  b : AQ W Z' sb xs
  d : ∀ b, Z b → ¬ Z' b
  za : ∀ b, Z b → w.heap.size ≤ b
  zb : ∀ b, Z' b → w.heap.size ≤ b
  bl : Below w.heap.size w W
section
variable {w W W' : World} {sa sb : Nat} {Z Z' : Nat → Prop} {xs ys : List ND}
theorem Tw.ext (h : Tw w W sa sb Z Z' xs) (hb : Below W.heap.size W W') : Tw w W' sa sb Z Z' xs :=
  ⟨h.a.ext hb, h.b.ext hb, h.d, h.za, h.zb, h.bl.trans (hb.mono h.bl.size)⟩
theorem Tw.sz (h : Tw w W sa sb Z Z' xs) : w.heap.size ≤ W.heap.size := h.bl.size
/-- The program's arena has made one. -/
theorem Tw.mkA (h : Tw w W sa sb Z Z' xs) (hs : ArS W Z sa ys W') : ∃ Z2, AR W' Z2 sa ys ∧ AQ W' Z' sb xs ∧ (∀ b, Z2 b → ¬ Z' b) ∧ (∀ b, Z2 b → w.heap.size ≤ b) ∧ (∀ b, Z2 b → Z b ∨ W.heap.size ≤ b) ∧ Turn Z W W' ∧ Below w.heap.size w W' := by
  obtain ⟨Z2, h1, h2, h3⟩ := hs
  refine ⟨Z2, h1, h.b.turn h2 (fun b h' k => h.d b k h'), fun b h2' h' => ?_, fun b h' => (h3 b h').elim (h.za b) fun h'' => Nat.le_trans h.sz h'', h3, h2, h.bl.trans (h2.below h.za h.sz)⟩
  rcases h3 b h2' with h'' | h''
  · exact h.d b h'' h'
  · have := h.b.zlt b h'; omega
/-- The document's arena has made the same. -/
theorem Tw.mkB {Z2 : Nat → Prop} (ha : AR W Z2 sa ys) (hq : AQ W Z' sb xs) (hd : ∀ b, Z2 b → ¬ Z' b) (hz : ∀ b, Z2 b → w.heap.size ≤ b) (hz' : ∀ b, Z' b → w.heap.size ≤ b) (hb : Below w.heap.size w W) (hs : AqS W Z' sb ys W') : ∃ Z3, Tw w W' sa sb Z2 Z3 ys ∧ Turn Z' W W' ∧ ∀ b, Z3 b → Z' b ∨ W.heap.size ≤ b := by
  obtain ⟨Z3, h1, h2, h3⟩ := hs
  refine ⟨Z3, ⟨ha.turn h2 (fun b h k => hd b h k), h1, fun b h2' h' => ?_, hz, fun b h => (h3 b h).elim (hz' b) fun h => Nat.le_trans hb.size h, hb.trans (h2.below hz' hb.size)⟩, h2, h3⟩
  rcases h3 b h' with h | h
  · exact hd b h2' h
  · have := ha.zlt b h2'; omega
end
end Go.Proofs.YtkgobglmkhkbbaaGreatDoor
