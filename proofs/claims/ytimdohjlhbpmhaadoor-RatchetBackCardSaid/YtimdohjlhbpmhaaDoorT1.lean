/- Trees as rows of nodes: words of memory, of no program. -/
import Derived.Test.YtimdohjlhbpmhaaDoorK1
namespace Go.KK
open Go.RowKit
set_option linter.unusedVariables false
set_option linter.unusedSimpArgs false

/-- A node of a tree. -/
structure TN where
  k : Int
  i : Int
  e : Int
  s : Int
  h : Int
  u : List Int
deriving DecidableEq

def TN.cells (x : TN) (q : Value) : List Value := [.int .i64 x.k, .int .i64 x.i, .int .i64 x.e, .int .i64 x.s, .int .i64 x.h, q]
/-- The cells of a row of nodes, whose lists' heads are these. -/
def ncs (xs : List TN) (qs : List Value) : List Value := (List.zipWith TN.cells xs qs).flatten
/-- The value q is a list of numbers that reads. -/
def In1 (w : World) (q : Value) (l : List Int) : Prop := ∃ A c, q = .slice A l.length c ∧ SlA w 1 A l.length c (l.map (.int .i64))
/-- The slice reads as a row of nodes. -/
def Tr (w : World) (A : Option Addr) (n c : Nat) (xs : List TN) : Prop :=
  ∃ qs : List Value, qs.length = xs.length ∧ SlA w 6 A n c (ncs xs qs) ∧ ∀ (j : Nat) x q, xs[j]? = some x → qs[j]? = some q → In1 w q x.u

theorem flat_len {α : Type} (m : Nat) : ∀ (ls : List (List α)), (∀ l ∈ ls, l.length = m) → ls.flatten.length = ls.length * m
  | [], _ => by simp
  | l :: ls, h => by
    rw [List.flatten_cons, List.length_append, h l (by simp), flat_len m ls (fun x hx => h x (by simp [hx])), List.length_cons, Nat.succ_mul]
    omega
theorem flat_get {α : Type} (m : Nat) : ∀ (ls : List (List α)) (j k : Nat) (l : List α), (∀ l ∈ ls, l.length = m) → ls[j]? = some l → k < m → ls.flatten[j * m + k]? = l[k]?
  | [], _, _, _, _, h, _ => by cases h
  | x :: ls, 0, k, l, h7, h, hk => by
    simp at h; subst h
    rw [List.flatten_cons, Nat.zero_mul, Nat.zero_add, List.getElem?_append_left (by rw [h7 x (by simp)]; exact hk)]
  | x :: ls, j + 1, k, l, h7, h, hk => by
    have hx := h7 x (by simp)
    rw [List.flatten_cons, List.getElem?_append_right (by rw [hx, Nat.succ_mul]; omega), hx, show (j + 1) * m + k - m = j * m + k by rw [Nat.succ_mul]; omega]
    exact flat_get m ls j k l (fun y hy => h7 y (by simp [hy])) (by simpa using h) hk
theorem ncs_mem (xs : List TN) (qs : List Value) : ∀ l ∈ List.zipWith TN.cells xs qs, l.length = 6 := by
  intro l hl
  obtain ⟨j, hj, rfl⟩ := List.mem_iff_getElem.1 hl
  rw [List.getElem_zipWith]
  rfl
theorem ncs_len {xs : List TN} {qs : List Value} (h : qs.length = xs.length) : (ncs xs qs).length = xs.length * 6 := by
  unfold ncs
  rw [flat_len 6 _ (ncs_mem xs qs), List.length_zipWith, h, Nat.min_self]
theorem ncs_get {xs : List TN} {qs : List Value} {j k : Nat} {x : TN} {q : Value} (hx : xs[j]? = some x) (hq : qs[j]? = some q) (hk : k < 6) : (ncs xs qs)[j * 6 + k]? = (x.cells q)[k]? :=
  flat_get 6 _ j k _ (ncs_mem xs qs) (by rw [List.getElem?_zipWith, hx, hq]) hk

section
variable {w w' : World} {A : Option Addr} {n c : Nat} {xs : List TN}
theorem In1.ext {q : Value} {l : List Int} (h : In1 w q l) (hb : Below w.heap.size w w') : In1 w' q l := by
  obtain ⟨A, c, e, hs⟩ := h
  exact ⟨A, c, e, hs.ext hb⟩
theorem In1.keep {q : Value} {l : List Int} (h : In1 w q l) (hk : ∀ b o u, w.cell? ⟨b, o, none⟩ = some u → w'.cell? ⟨b, o, none⟩ = some u) : In1 w' q l := by
  obtain ⟨A, c, e, hs⟩ := h
  exact ⟨A, c, e, hs.keep hk⟩
theorem Tr.keep (h : Tr w A n c xs) (hk : ∀ b o u, w.cell? ⟨b, o, none⟩ = some u → w'.cell? ⟨b, o, none⟩ = some u) : Tr w' A n c xs := by
  obtain ⟨qs, h1, h2, h3⟩ := h
  exact ⟨qs, h1, h2.keep hk, fun j x q hx hq => (h3 j x q hx hq).keep hk⟩
theorem Tr.ext (h : Tr w A n c xs) (hb : Below w.heap.size w w') : Tr w' A n c xs :=
  h.keep fun b o u hc => (hb.cell (p := ⟨b, o, none⟩) (block_lt_of_cell hc)).trans hc
theorem Tr.alloc (h : Tr w A n c xs) (o : Obj) : Tr (w.alloc o) A n c xs := h.ext ((Below.refl _ _).alloc (Nat.le_refl _) o)
theorem Tr.drew (h : Tr w A n c xs) : Tr w.drew A n c xs := h.keep fun _ _ _ hc => hc
theorem Tr.drewN (h : Tr w A n c xs) (k : Nat) : Tr (w.drewN k) A n c xs := h.keep fun _ _ _ hc => hc
theorem Tr.len (h : Tr w A n c xs) : xs.length = n := by
  obtain ⟨qs, h1, h2, h3⟩ := h
  have := h2.len
  rw [ncs_len h1] at this
  omega
theorem Tr.nc (h : Tr w A n c xs) : n ≤ c ∧ c ≤ maxLen := by
  obtain ⟨qs, h1, h2, h3⟩ := h
  exact ⟨h2.nc, h2.cm⟩
/-- What one node's cells are. -/
theorem Tr.at (h : Tr w A n c xs) {j : Nat} (hj : j < n) : ∃ b off x A' c', A = some ⟨b, off, none⟩ ∧ xs[j]? = some x ∧ w.cell? ⟨b, off + j * 6, none⟩ = some (.int .i64 x.k) ∧ w.cell? ⟨b, off + j * 6 + 1, none⟩ = some (.int .i64 x.i) ∧ w.cell? ⟨b, off + j * 6 + 2, none⟩ = some (.int .i64 x.e) ∧
    w.cell? ⟨b, off + j * 6 + 3, none⟩ = some (.int .i64 x.s) ∧ w.cell? ⟨b, off + j * 6 + 4, none⟩ = some (.int .i64 x.h) ∧ w.cell? ⟨b, off + j * 6 + 5, none⟩ = some (.slice A' x.u.length c') ∧ SlA w 1 A' x.u.length c' (x.u.map (.int .i64)) := by
  have hn := h.len
  obtain ⟨qs, h1, h2, h3⟩ := h
  have hx : xs[j]? = some (xs[j]'(by omega)) := List.getElem?_eq_getElem (by omega)
  have hq : qs[j]? = some (qs[j]'(by omega)) := List.getElem?_eq_getElem (by omega)
  obtain ⟨A', c', e, hs⟩ := h3 j _ _ hx hq
  rw [e] at hq
  generalize xs[j]'(by omega) = x at *
  have cell : ∀ k (u : Value), k < 6 → (x.cells (.slice A' x.u.length c'))[k]? = some u → ∃ b off, A = some ⟨b, off, none⟩ ∧ w.cell? ⟨b, off + j * 6 + k, none⟩ = some u := by
    intro k u hk hu
    obtain ⟨b, off, e, hc⟩ := h2.cells (j * 6 + k) u ((ncs_get hx hq hk).trans hu)
    exact ⟨b, off, e, by rw [Nat.add_assoc]; exact hc⟩
  obtain ⟨b, off, rfl, c0⟩ := cell 0 _ (by omega) rfl
  have more : ∀ k (u : Value), k < 6 → (x.cells (.slice A' x.u.length c'))[k]? = some u → w.cell? ⟨b, off + j * 6 + k, none⟩ = some u := by
    intro k u hk hu
    obtain ⟨b', off', e, hc⟩ := cell k u hk hu
    injection e with e
    injection e with e1 e2
    subst e1; subst e2
    exact hc
  exact ⟨b, off, x, A', c', rfl, hx, c0, more 1 _ (by omega) rfl, more 2 _ (by omega) rfl, more 3 _ (by omega) rfl, more 4 _ (by omega) rfl, more 5 _ (by omega) rfl, hs⟩
theorem Tr.nil (w : World) : Tr w none 0 0 [] := ⟨[], rfl, SlA.nil _ _, fun j x q h => by simp at h⟩
/-- A row cut short. -/
theorem Tr.to (h : Tr w A n c xs) {p : Nat} (hp : p ≤ n) : Tr w A p c (xs.take p) := by
  have hn := h.len
  obtain ⟨qs, h1, h2, h3⟩ := h
  have hnc := h2.nc
  refine ⟨qs.take p, by rw [List.length_take, List.length_take, h1], ⟨by omega, h2.cm, ?_, fun j u hj => ?_⟩, fun j x q hx hq => ?_⟩
  · rw [ncs_len (by rw [List.length_take, List.length_take, h1]), List.length_take, Nat.min_eq_left (by omega)]
  · have hlt : j < (ncs (xs.take p) (qs.take p)).length := by
      rcases Nat.lt_or_ge j (ncs (xs.take p) (qs.take p)).length with hh | hh
      · exact hh
      · rw [List.getElem?_eq_none hh] at hj; cases hj
    rw [ncs_len (by rw [List.length_take, List.length_take, h1]), List.length_take] at hlt
    have hd : j = j / 6 * 6 + j % 6 := by omega
    have hjp : j / 6 < p := by omega
    have hx : (xs.take p)[j / 6]? = some (xs[j / 6]'(by omega)) := by rw [List.getElem?_take, if_pos hjp]; exact List.getElem?_eq_getElem _
    have hq : (qs.take p)[j / 6]? = some (qs[j / 6]'(by omega)) := by rw [List.getElem?_take, if_pos hjp]; exact List.getElem?_eq_getElem _
    refine h2.cells j u ?_
    rw [hd] at hj ⊢
    rw [ncs_get hx hq (Nat.mod_lt _ (by omega))] at hj
    rw [ncs_get (List.getElem?_eq_getElem (by omega)) (List.getElem?_eq_getElem (by omega)) (Nat.mod_lt _ (by omega))]
    exact hj
  · rw [List.getElem?_take] at hx hq
    split at hx
    · rw [if_pos (by assumption)] at hq
      exact h3 j x q hx hq
    · cases hx
end

end Go.KK
