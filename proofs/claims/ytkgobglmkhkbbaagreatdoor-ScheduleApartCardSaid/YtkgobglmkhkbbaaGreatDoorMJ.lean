/- the document's term: Make told in words, New. -/
import Derived.Test.YtkgobglmkhkbbaaGreatDoorRI
import Derived.Test.YtkgobglmkhkbbaaGreatDoorMA
namespace Go.Proofs.YtkgobglmkhkbbaaGreatDoor
open Go.RowKit Go.KK Go.Shelf Go.Maps
set_option linter.unusedVariables false
set_option linter.unusedSimpArgs false

/-- The document's arena at block st, all of its blocks in Z. -/
def AQ (w : World) (Z : Nat → Prop) (st : Nat) (xs : List ND) : Prop := ∃ mp v qs, ArR w Z st mp v xs qs
def AqS (w : World) (Z : Nat → Prop) (st : Nat) (xs : List ND) (w' : World) : Prop := ∃ Z', AQ w' Z' st xs ∧ Turn Z w w' ∧ ∀ b, Z' b → Z b ∨ w.heap.size ≤ b
theorem AqS.of {w w' : World} {Z : Nat → Prop} {st mp : Nat} {xs : List ND} (h : MakR w Z st mp xs w') : AqS w Z st xs w' := by
  obtain ⟨Z', v, qs, h1, h2, h3⟩ := h
  exact ⟨Z', ⟨mp, v, qs, h1⟩, h2, h3⟩
theorem AQ.ext {w w' : World} {Z : Nat → Prop} {st : Nat} {xs : List ND} (h : AQ w Z st xs) (hb : Below w.heap.size w w') : AQ w' Z st xs := by
  obtain ⟨mp, v, qs, h1⟩ := h
  exact ⟨mp, v, qs, h1.ext hb⟩
theorem AQ.zlt {w : World} {Z : Nat → Prop} {st : Nat} {xs : List ND} (h : AQ w Z st xs) : ∀ b, Z b → b < w.heap.size := by
  obtain ⟨mp, v, qs, h1⟩ := h
  exact h1.zlt
theorem AQ.ok {w : World} {Z : Nat → Prop} {st : Nat} {xs : List ND} (h : AQ w Z st xs) : Okay xs := by
  obtain ⟨mp, v, qs, h1⟩ := h
  exact h1.ok
theorem AQ.vw {w : World} {Z : Nat → Prop} {st : Nat} {xs : List ND} (h : AQ w Z st xs) : ArV w 104 st xs := by
  obtain ⟨mp, v, qs, h1⟩ := h
  exact Ar.v h1
theorem AQ.turn {F : Nat → Prop} {w w' : World} {Z : Nat → Prop} {st : Nat} {xs : List ND} (h : AQ w Z st xs) (ht : Turn F w w') (hd : ∀ b, Z b → ¬ F b) : AQ w' Z st xs := by
  obtain ⟨mp, v, qs, h1⟩ := h
  exact ⟨mp, v, qs, h1.turn ht hd⟩
theorem AqS.first {w w1 w2 : World} {Z : Nat → Prop} {st : Nat} {xs : List ND} (hb : Below w.heap.size w w1) (h : AqS w1 Z st xs w2) : AqS w Z st xs w2 := by
  obtain ⟨Z', h1, h2, h3⟩ := h
  refine ⟨Z', h1, (Turn.of_below hb).trans h2 (fun _ h => .inl h), fun b hz => (h3 b hz).imp id fun h => Nat.le_trans hb.size h⟩
theorem rmke_any (Z : Nat → Prop) (st : Nat) (xs : List ND) (w : World) (x : ND) (A : Option Addr) (c : Nat) (h : AQ w Z st xs) (hl : SlA w 1 A x.l.length c (x.l.map (.int .i64))) (hx : NdI x) :
    Calls Tryz.prog 80 #[.pointer (some ⟨st, 0, none⟩), .agg #[.int .i64 x.o, .int .i64 x.n, .string x.s, .slice A x.l.length c]] w fun e w' => e = .returned (.tuple #[.int .i64 (makI xs x), .int .i64 (makE xs x)]) ∧ AqS w Z st (makT xs x) w' := by
  obtain ⟨mp, v, qs, h⟩ := h
  exact (rmake_any Z st mp v xs qs x A c w h hl hx).mono fun e w' ⟨h1, h2⟩ => ⟨h1, .of h2⟩
theorem rnew_any (w : World) : Calls Tryz.prog 56 #[] w fun e w' => ∃ Z st, e = .returned (.pointer (some ⟨st, 0, none⟩)) ∧ AQ w' Z st [] ∧ (∀ b, Z b → w.heap.size ≤ b) ∧ Below w.heap.size w w' := by
  have hmm := @run_makeMap Tryz.prog
  go_enter Tryz.func56, Tryz.ntmps56
  go_wp2
  go_ret
  have B1 : Below w.heap.size w (w.alloc (.map #[] 0)) := (Below.refl _ _).alloc (Nat.le_refl _) _
  have hm0 := World.ownsMap_made (H := Unit) w Tryz.prog 9 (plainElem Tryz.prog 3)
  refine ⟨fun b => b = w.heap.size ∨ b = w.heap.size + 1, w.heap.size + 1, by simp, ⟨w.heap.size, .slice none 0 0, [], ?_⟩, fun b hb => by rcases hb with rfl | rfl <;> omega, B1.alloc (by simp) _⟩
  have hsz : (w.alloc (.map #[] 0)).heap.size = w.heap.size + 1 := by simp
  refine ⟨?_, World.ownsRow_nil _ _ _ _, rfl, fun j x q h => by simp at h, fun j x q b h => by simp at h, ⟨.map [], ?_, mapOk_nil _⟩, .inr rfl, ⟨.inl rfl, by omega⟩, fun b h => (by cases h), fun b hb => ?_, okay_nil⟩
  · have := heap_alloc_new (w.alloc (.map #[] 0)) (.cells #[.slice none 0 0, .map (some w.heap.size)] 104)
    rw [hsz] at this
    exact this
  · exact hm0.alloc _
  · have h2 : ((w.alloc (.map #[] 0)).alloc (.cells #[.slice none 0 0, .map (some w.heap.size)] 104)).heap.size = w.heap.size + 1 + 1 := by simp
    rcases hb with rfl | rfl <;> omega
end Go.Proofs.YtkgobglmkhkbbaaGreatDoor
