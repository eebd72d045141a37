/- Rows of cells in words (of no program). -/
import Derived.Test.YtkgobglmkhkbbaaGreatDoorK1
import Derived.Maps.Range
namespace Go.KK
open Go.RowKit
set_option linter.unusedVariables false
set_option linter.unusedSimpArgs false

/-- A list with another one stored over it. -/
def setL (L : List Value) : Nat → List Value → List Value
  | _, [] => L
  | o, v :: r => setL (L.set o v) (o + 1) r
theorem setL_len : ∀ (vs : List Value) (o : Nat) (L : List Value), (setL L o vs).length = L.length
  | [], _, _ => rfl
  | v :: r, o, L => by rw [setL, setL_len r]; simp
theorem setL_get : ∀ (vs : List Value) (o : Nat) (L : List Value) (j : Nat), o + vs.length ≤ L.length → (setL L o vs)[j]? = if o ≤ j ∧ j < o + vs.length then vs[j - o]? else L[j]?
  | [], o, L, j, h => by
    rw [setL, if_neg (show ¬ (o ≤ j ∧ j < o + ([] : List Value).length) by rw [List.length_nil]; omega)]
  | v :: r, o, L, j, h => by
    have h' : o + (r.length + 1) ≤ L.length := by simpa using h
    rw [setL, setL_get r (o + 1) (L.set o v) j (by simp; omega), List.length_cons]
    by_cases h1 : j = o
    · subst h1
      rw [if_neg (by omega), if_pos (by omega), List.getElem?_set_self (by omega), Nat.sub_self]; rfl
    · by_cases h2 : o ≤ j ∧ j < o + (r.length + 1)
      · rw [if_pos (by omega), if_pos h2, show j - o = (j - (o + 1)) + 1 by omega, List.getElem?_cons_succ]
      · rw [if_neg (by omega), if_neg h2, List.getElem?_set_ne (by omega)]

section
variable {w : World} {base : Nat} {e : TypeId} {g n cap : Nat} {xs : List Value}
theorem own_full (h : w.ownsRow base e 1 (.slice (some ⟨g, 0, none⟩) n cap) n xs) : ∃ L : List Value, w.ownsRow base e 1 (.slice (some ⟨g, 0, none⟩) cap cap) cap L ∧ L.length = cap ∧ L.take n = xs ∧ n ≤ cap ∧ cap ≤ maxLen := by
  rcases h.2 with ⟨h', _⟩ | ⟨g', cap', cur, h', hb, hg, hnc, hcm, hcs, htake⟩
  · simp at h'
  · simp only [Value.slice.injEq, Option.some.injEq, Addr.mk.injEq, and_true, true_and] at h'
    obtain ⟨rfl, rfl⟩ := h'
    have hl : cur.toList.length = cap := by simpa using hcs
    exact ⟨cur.toList, ⟨by rw [hl]; omega, .inr ⟨g, cap, cur, rfl, hb, hg, Nat.le_refl _, hcm, hcs, List.take_of_length_le (by omega)⟩⟩, hl, by rw [← htake]; simp, hnc, hcm⟩
theorem own_part {L : List Value} (h : w.ownsRow base e 1 (.slice (some ⟨g, 0, none⟩) cap cap) cap L) (hn : n ≤ cap) : w.ownsRow base e 1 (.slice (some ⟨g, 0, none⟩) n cap) n (L.take n) := by
  rcases h.2 with ⟨h', _⟩ | ⟨g', cap', cur, h', hb, hg, hnc, hcm, hcs, htake⟩
  · simp at h'
  · simp only [Value.slice.injEq, Option.some.injEq, Addr.mk.injEq, and_true, true_and] at h'
    obtain ⟨rfl, rfl⟩ := h'
    have hl : cur.toList.length = cap := by simpa using hcs
    have hL : L = cur.toList := by rw [← htake]; exact List.take_of_length_le (by omega)
    subst hL
    exact ⟨by rw [List.length_take, hl, Nat.min_eq_left hn]; omega, .inr ⟨g, cap, cur, rfl, hb, hg, hn, hcm, hcs, by rw [Nat.mul_one]⟩⟩
theorem own_made {cur : Array Value} (hb : base ≤ w.heap.size) (hm : cap ≤ maxLen) (hs : cur.size = cap) :
    (w.alloc (.cells cur e)).ownsRow base e 1 (.slice (some ⟨w.heap.size, 0, none⟩) cap cap) cap cur.toList :=
  ⟨by simpa using hs, .inr ⟨w.heap.size, cap, cur, rfl, hb, heap_alloc_new w _, Nat.le_refl _, hm, by omega, List.take_of_length_le (by simpa using by omega)⟩⟩
theorem own_setCells : ∀ (vs : List Value) (o : Nat) (w : World) (L : List Value), w.ownsRow base e 1 (.slice (some ⟨g, 0, none⟩) n cap) n L → (w.setCells g o vs).ownsRow base e 1 (.slice (some ⟨g, 0, none⟩) n cap) n (setL L o vs)
  | [], _, _, _, h => h
  | v :: r, o, w, L, h => by
    rw [World.setCells, setL]
    exact own_setCells r (o + 1) _ _ (h.stored o v).1
end
theorem grown_setCells {a : World} {g : Nat} : ∀ (vs : List Value) (o : Nat) (w : World), a.grownBy w (some g) → a.grownBy (w.setCells g o vs) (some g)
  | [], _, _, h => h
  | v :: r, o, w, h => by
    rw [World.setCells]
    exact grown_setCells r (o + 1) _ ⟨h.os, h.tape, h.output, by simpa [World.setCell] using h.size, fun i hi hne => (Below.heap_setCell w ⟨g, o, none⟩ v i (by rintro rfl; exact hne rfl)).trans (h.block i hi hne)⟩
theorem grown_drew {a w : World} {r : Option Nat} (h : a.grownBy w r) : a.grownBy w.drew r := ⟨h.os, h.tape, h.output, h.size, h.block⟩
theorem grown_drewN {a w : World} {r : Option Nat} (h : a.grownBy w r) (k : Nat) : a.grownBy (w.drewN k) r := ⟨h.os, h.tape, h.output, h.size, h.block⟩
theorem grown_undrew {a w : World} {r : Option Nat} (h : a.drew.grownBy w r) : a.grownBy w r := ⟨h.os, h.tape, h.output, h.size, h.block⟩
theorem below_grown {a w : World} (h : a.grownBy w none) : Below a.heap.size a w := ⟨h.os, h.tape, h.output, h.size, fun i hi => h.block i hi (by simp)⟩

/-- A number put in at its place. -/
def insL (u : List Int) (i : Nat) (x : Int) : List Int := u.take i ++ x :: u.drop i
theorem insL_len (u : List Int) (i : Nat) (x : Int) (h : i ≤ u.length) : (insL u i x).length = u.length + 1 := by
  unfold insL; simp; omega
theorem insL_get {u : List Int} {i : Nat} (x : Int) (h : i ≤ u.length) (j : Nat) : ((insL u i x).map (Value.int .i64))[j]? = if j < i then (u.map (Value.int .i64))[j]? else if j = i then some (Value.int .i64 x) else (u.map (Value.int .i64))[j - 1]? := by
  unfold insL
  rw [List.map_append, List.map_cons, List.map_take, List.map_drop]
  have hl : ((u.map (Value.int .i64)).take i).length = i := by simp; omega
  by_cases h1 : j < i
  · rw [if_pos h1, List.getElem?_append_left (by omega), List.getElem?_take, if_pos h1]
  · rw [if_neg h1, List.getElem?_append_right (by omega), hl]
    by_cases h2 : j = i
    · subst h2; simp
    · rw [if_neg h2, show j - i = (j - 1 - i) + 1 by omega, List.getElem?_cons_succ, List.getElem?_drop, show i + (j - 1 - i) = j - 1 by omega]

end Go.KK
