/- term: whether a node may be. -/
import Derived.Test.YtkgobglmkhkbbaaGreatDoorA2
import Derived.Test.YtkgobglmkhkbbaaGreatDoorShelf
import Derived.Deep.QuietTactic
import Derived.BigQuiet
import Derived.Deep.RegionWith
import Derived.Deep.RegionLaw
namespace Go.Proofs.YtkgobglmkhkbbaaGreatDoor
open Go.RowKit Go.KK Go.Shelf
set_option linter.unusedVariables false
set_option linter.unusedSimpArgs false

/-- The program's arena, at block st. -/
abbrev ArP (w : World) (Z : Nat → Prop) (st mp : Nat) (v : Value) (xs : List ND) (qs : List Value) : Prop := Ar Tryz.prog 88 9 3 124 keyP w Z st mp v xs qs
/-- What is read of an arena. -/
structure ArV (w : World) (T : TypeId) (st : Nat) (xs : List ND) : Prop where
  go : ∃ A c m, w.heap[st]? = some (.cells #[.slice A xs.length c, m] T (0, 0)) ∧ NdA w A xs.length c xs
  ok : Okay xs
theorem Ar.v {NT K E T : TypeId} {kf : ND → List UInt8} {w : World} {Z : Nat → Prop} {st mp : Nat} {v : Value} {xs : List ND} {qs : List Value} (h : Ar Tryz.prog NT K E T kf w Z st mp v xs qs) : ArV w T st xs := by
  obtain ⟨A, c, rfl, hn⟩ := h.rows
  exact ⟨⟨A, c, _, h.box, hn⟩, h.ok⟩
theorem ArV.lt {w : World} {T : TypeId} {st : Nat} {xs : List ND} (h : ArV w T st xs) : st < w.heap.size := by
  obtain ⟨A, c, m, hb, _⟩ := h.go
  exact (Array.getElem?_eq_some_iff.1 hb).1
theorem ArV.ext {w w' : World} {T : TypeId} {st : Nat} {xs : List ND} (h : ArV w T st xs) (hb : Below w.heap.size w w') : ArV w' T st xs := by
  have hlt := h.lt
  obtain ⟨⟨A, c, m, h1, h2⟩, h3⟩ := h
  exact ⟨⟨A, c, m, (hb.block st hlt).trans h1, h2.ext hb⟩, h3⟩
theorem ArV.parts {w : World} {T : TypeId} {st : Nat} {xs : List ND} (h : ArV w T st xs) : ∃ A c m, w.cell? ⟨st, 0, none⟩ = some (.slice A xs.length c) ∧ w.cell? ⟨st, 1, none⟩ = some m ∧ NdA w A xs.length c xs := by
  obtain ⟨A, c, m, h1, h2⟩ := h.go
  exact ⟨A, c, m, cell_of_row w st 0 _ T (0, 0) h1, cell_of_row w st 1 _ T (0, 0) h1, h2⟩
theorem has_any (st : Nat) (xs : List ND) (t : Int) (w : World) (h : ArV w 124 st xs) :
    Calls Tryz.prog 87 #[.pointer (some ⟨st, 0, none⟩), .int .i64 t] w fun e w' => e = .returned (.bool (hasB xs t)) ∧ w' = w := by
  obtain ⟨A, c, m, h0, h1, hn⟩ := h.parts
  have HN := hid hn
  unfold hasB
  clear hn h
  by_cases ht : 0 ≤ t
  · go_enter Tryz.func87, Tryz.ntmps87
    go_wp2
    go_ret
    exact ⟨by simp [ht], rfl⟩
  · go_enter Tryz.func87, Tryz.ntmps87
    go_wp2
    go_ret
    exact ⟨by rw [decide_eq_false (by omega : ¬ 0 ≤ t)]; rfl, rfl⟩
/-- How many parts, as the program says it. -/
def arP (o : Int) : Int := match arN o with | some k => (k : Nat) | none => if o == 3 then -1 else -2
theorem arP_out {o : Int} (h : o < 1 ∨ 13 ≤ o) : arP o = -2 := by
  have : arN o = none := by
    unfold arN
    split <;> first | omega | rfl
  unfold arP
  rw [this, show (o == 3) = false from beq_eq_false_iff_ne.2 (by omega)]; rfl
set_option maxHeartbeats 4000000 in
theorem arity_any (o : Int) (w : World) :
    Calls Tryz.prog 110 #[.int .i64 o] w fun e w' => e = .returned (.int .i64 (arP o)) ∧ Below w.heap.size w w' := by
  by_cases h1 : o < 1
  · have HE := hid (arP_out (.inl h1))
    go_enter Tryz.func110, Tryz.ntmps110
    go_wp2
    go_ret
    exact ⟨by rw [HE.out]; rfl, (Below.refl _ _).alloc (Nat.le_refl _) _⟩
  by_cases h2 : 13 ≤ o
  · have HE := hid (arP_out (.inr h2))
    go_enter Tryz.func110, Tryz.ntmps110
    go_wp2
    go_ret
    exact ⟨by rw [HE.out]; rfl, (Below.refl _ _).alloc (Nat.le_refl _) _⟩
  have h3 : o = 1 ∨ o = 2 ∨ o = 3 ∨ o = 4 ∨ o = 5 ∨ o = 6 ∨ o = 7 ∨ o = 8 ∨ o = 9 ∨ o = 10 ∨ o = 11 ∨ o = 12 := by omega
  clear h1 h2
  rcases h3 with rfl | rfl | rfl | rfl | rfl | rfl | rfl | rfl | rfl | rfl | rfl | rfl
  all_goals
    go_enter Tryz.func110, Tryz.ntmps110
    go_wp2
    go_ret
    exact ⟨rfl, (Below.refl _ _).alloc (Nat.le_refl _) _⟩
theorem may1_any (st b : Nat) (xs : List ND) (t : Int) (w : World) (h : ArV w 124 st xs) (hb : w.cell? ⟨b, 0, none⟩ = some (.pointer (some ⟨st, 0, none⟩))) :
    Calls Tryz.prog 111 #[.int .i64 t, .pointer (some ⟨b, 0, none⟩)] w fun e w' => e = .returned (.bool (!hasB xs t)) ∧ w' = w := by
  have H := hid h
  clear h
  go_enter Tryz.func111, Tryz.ntmps111
  go_wp2_with fail
  refine (has_any st xs t _ H.out).mono ?_
  rintro e w' ⟨rfl, hw⟩
  subst hw
  go_wp2_with fail
  go_ret
  exact ⟨rfl, rfl⟩
end Go.Proofs.YtkgobglmkhkbbaaGreatDoor
