/- Words for rows of structs: copy, and what is stored into a row of the call's own, at any size of an element. -/
import Derived.Test.YtanakgbhmmemoaaDoorK2
import Derived.Shelf.Spec.SlicesInsert
namespace Go.KK
open Go.RowKit
set_option linter.unusedVariables false
set_option linter.unusedSimpArgs false

theorem run_copy_sized {P : Program} (w : World) (dT sT ty elem : TypeId) (size b o dLen dCap : Nat) (a : Addr) (sLen sCap : Nat) (cs : List Value)
    (hu : P.underlying dT = some (.slice elem)) (hs : (P.info? elem).map (·.size) = some size) (hn : cs.length = Nat.min sLen dLen * size)
    (hsrc : ∀ j v, cs[j]? = some v → w.cell? (a.add j) = some v) (hc : ∀ j, j < cs.length → (w.cell? ⟨b, o + j, none⟩).isSome = true) (hf : ∀ j, j < cs.length → w.frozen? ⟨b, o + j, none⟩ = false) (h1 : ∀ v ∈ cs, v.oneCell' = true) :
    (Builtin.copy_ #[dT, sT] ty #[.slice (some ⟨b, o, none⟩) dLen dCap, .slice (some a) sLen sCap]).run P w = .ok (goInt (Nat.min sLen dLen)) (w.setCells b o cs) := by
  have hl := run_loadCells_list (P := P) w a cs hsrc
  have hst := run_storeCells_cells (P := P) b o cs 0 w (by simpa using hc) (by simpa using hf) h1
  cases hq : P.info? elem with
  | none => simp [hq] at hs
  | some i =>
    have hi : i.size = size := by simpa [hq] using hs
    simp [Builtin.copy_, run_underlying hu, Builtin.lenOf, Builtin.firstCells, sizeOf, typeInfo, hq, hi, ← hn, hl, hst]

section
variable {w : World} {base : Nat} {e : TypeId} {size g n cap : Nat} {xs : List Value}
theorem own_fullS (h : w.ownsRow base e size (.slice (some ⟨g, 0, none⟩) n cap) n xs) : ∃ L : List Value, w.ownsRow base e size (.slice (some ⟨g, 0, none⟩) cap cap) cap L ∧ L.length = cap * size ∧ L.take (n * size) = xs ∧ n ≤ cap ∧ cap ≤ maxLen := by
  rcases h.2 with ⟨h', _⟩ | ⟨g', cap', cur, h', hb, hg, hnc, hcm, hcs, htake⟩
  · simp at h'
  · simp only [Value.slice.injEq, Option.some.injEq, Addr.mk.injEq, and_true, true_and] at h'
    obtain ⟨rfl, rfl⟩ := h'
    have hl : cur.toList.length = cap * size := by simpa using hcs
    exact ⟨cur.toList, ⟨hl, .inr ⟨g, cap, cur, rfl, hb, hg, Nat.le_refl _, hcm, hcs, List.take_of_length_le (by omega)⟩⟩, hl, htake, hnc, hcm⟩
theorem own_partS {L : List Value} (h : w.ownsRow base e size (.slice (some ⟨g, 0, none⟩) cap cap) cap L) (hn : n ≤ cap) : w.ownsRow base e size (.slice (some ⟨g, 0, none⟩) n cap) n (L.take (n * size)) := by
  rcases h.2 with ⟨h', _⟩ | ⟨g', cap', cur, h', hb, hg, hnc, hcm, hcs, htake⟩
  · simp at h'
  · simp only [Value.slice.injEq, Option.some.injEq, Addr.mk.injEq, and_true, true_and] at h'
    obtain ⟨rfl, rfl⟩ := h'
    have hl : cur.toList.length = cap * size := by simpa using hcs
    have hL : L = cur.toList := by rw [← htake]; exact List.take_of_length_le (by omega)
    subst hL
    exact ⟨by rw [List.length_take, hl]; exact Nat.min_eq_left (Nat.mul_le_mul_right _ hn), .inr ⟨g, cap, cur, rfl, hb, hg, hn, hcm, hcs, rfl⟩⟩
theorem own_madeS {cur : Array Value} (hb : base ≤ w.heap.size) (hm : cap ≤ maxLen) (hs : cur.size = cap * size) :
    (w.alloc (.cells cur e)).ownsRow base e size (.slice (some ⟨w.heap.size, 0, none⟩) cap cap) cap cur.toList :=
  ⟨by simpa using hs, .inr ⟨w.heap.size, cap, cur, rfl, hb, heap_alloc_new w _, Nat.le_refl _, hm, by omega, List.take_of_length_le (by simpa using by omega)⟩⟩
theorem own_setCellsS : ∀ (vs : List Value) (o : Nat) (w : World) (L : List Value), w.ownsRow base e size (.slice (some ⟨g, 0, none⟩) n cap) n L → (w.setCells g o vs).ownsRow base e size (.slice (some ⟨g, 0, none⟩) n cap) n (setL L o vs)
  | [], _, _, _, h => h
  | v :: r, o, w, L, h => by
    rw [World.setCells, setL]
    exact own_setCellsS r (o + 1) _ _ (h.stored o v).1
end
theorem below_setCells {B : Nat} {a : World} {g : Nat} (hg : B ≤ g) : ∀ (vs : List Value) (o : Nat) (w : World), Below B a w → Below B a (w.setCells g o vs)
  | [], _, _, h => h
  | v :: r, o, w, h => by
    rw [World.setCells]
    exact below_setCells hg r (o + 1) _ (h.setCell (p := ⟨g, o, none⟩) hg v)
theorem grown_far : ∀ (vs : List Value) (o : Nat) {w : World} (W : World) {k : Nat}, w.heap.size ≤ k → w.grownBy W none → w.grownBy (W.setCells k o vs) none
  | [], _, _, _, _, _, h => h
  | v :: r, o, w, W, k, hk, h => by
    rw [World.setCells]
    exact grown_far r (o + 1) _ hk ⟨h.os, h.tape, h.output, by simpa [World.setCell] using h.size, fun i hi hn => (Below.heap_setCell W ⟨k, o, none⟩ v i (show i ≠ k by omega)).trans (h.block i hi hn)⟩
theorem grown_some {w W : World} {r : Option Nat} (h : w.grownBy W none) : w.grownBy W r := ⟨h.os, h.tape, h.output, h.size, fun k hk _ => h.block k hk (by simp)⟩
/-- A row with another one laid over the end of what stands ahead. -/
theorem setL_ins {L cs vs : List Value} {k : Nat} (hk : k ≤ cs.length) (hL : cs.length + vs.length ≤ L.length) (h : L.take k = cs.take k) :
    (setL (setL L (k + vs.length) (cs.drop k)) k vs).take (cs.length + vs.length) = cs.take k ++ vs ++ cs.drop k := by
  have hdl : (cs.drop k).length = cs.length - k := List.length_drop
  have htl : (cs.take k).length = k := by rw [List.length_take]; omega
  apply List.ext_getElem?
  intro j
  rw [List.append_assoc]
  by_cases hj : j < cs.length + vs.length
  · rw [List.getElem?_take, if_pos hj, setL_get _ _ _ _ (by rw [setL_len]; omega), setL_get _ _ _ _ (by rw [hdl]; omega)]
    by_cases c1 : j < k
    · rw [if_neg (by omega), if_neg (by omega), List.getElem?_append_left (by omega)]
      have := congrArg (·[j]?) h
      simp only [List.getElem?_take, if_pos c1] at this
      rw [this, List.getElem?_take, if_pos c1]
    · rw [List.getElem?_append_right (by omega), htl]
      by_cases c2 : j < k + vs.length
      · rw [if_pos (by omega), List.getElem?_append_left (by omega)]
      · rw [if_neg (by omega), if_pos (by omega), List.getElem?_append_right (by omega), show j - (k + vs.length) = j - k - vs.length by omega]
  · rw [List.getElem?_take, if_neg hj, List.getElem?_eq_none]
    simp only [List.length_append, htl, hdl]
    omega
/-- The same where the part is laid first. -/
theorem setL_ins2 {L cs vs : List Value} {k : Nat} (hk : k ≤ cs.length) (hL : cs.length + vs.length ≤ L.length) (h : L.take k = cs.take k) :
    (setL (setL L k vs) (k + vs.length) (cs.drop k)).take (cs.length + vs.length) = cs.take k ++ vs ++ cs.drop k := by
  have hdl : (cs.drop k).length = cs.length - k := List.length_drop
  have htl : (cs.take k).length = k := by rw [List.length_take]; omega
  apply List.ext_getElem?
  intro j
  rw [List.append_assoc]
  by_cases hj : j < cs.length + vs.length
  · rw [List.getElem?_take, if_pos hj, setL_get _ _ _ _ (by rw [setL_len, hdl]; omega), setL_get _ _ _ _ (by omega)]
    by_cases c1 : j < k
    · rw [if_neg (by omega), if_neg (by omega), List.getElem?_append_left (by omega)]
      have := congrArg (·[j]?) h
      simp only [List.getElem?_take, if_pos c1] at this
      rw [this, List.getElem?_take, if_pos c1]
    · rw [List.getElem?_append_right (by omega), htl]
      by_cases c2 : j < k + vs.length
      · rw [if_neg (by omega), if_pos (by omega), List.getElem?_append_left (by omega)]
      · rw [if_pos (by omega), List.getElem?_append_right (by omega), show j - (k + vs.length) = j - k - vs.length by omega]
  · rw [List.getElem?_take, if_neg hj, List.getElem?_eq_none]
    simp only [List.length_append, htl, hdl]
    omega
end Go.KK
