/- Memory: an arena (a struct of a row of nodes and a map of their texts), and what is left alone. -/
import Derived.Test.YtkgobglmkhkbbaaGreatDoorA1
import Derived.Test.YtkgobglmkhkbbaaGreatDoorRows
namespace Go.KK
open Go.RowKit
set_option linter.unusedVariables false
set_option linter.unusedSimpArgs false

/-- Of what was there nothing has turned, but in F. -/
structure Turn (F : Nat → Prop) (w w' : World) : Prop where
  os : w'.os = w.os
  tape : w'.tape = w.tape
  output : w'.output = w.output
  size : w.heap.size ≤ w'.heap.size
  block : ∀ k, k < w.heap.size → ¬ F k → w'.heap[k]? = w.heap[k]?
theorem Turn.of_below {F : Nat → Prop} {w w' : World} (h : Below w.heap.size w w') : Turn F w w' := ⟨h.os, h.tape, h.output, h.size, fun k hk _ => h.block k hk⟩
theorem Turn.refl (F : Nat → Prop) (w : World) : Turn F w w := ⟨rfl, rfl, rfl, Nat.le_refl _, fun _ _ _ => rfl⟩
theorem Turn.trans {F F' : Nat → Prop} {a b c : World} (h : Turn F a b) (k : Turn F' b c) (hf : ∀ k, F' k → F k ∨ a.heap.size ≤ k) : Turn F a c :=
  ⟨k.os.trans h.os, k.tape.trans h.tape, k.output.trans h.output, Nat.le_trans h.size k.size, fun i hi hn => (k.block i (Nat.lt_of_lt_of_le hi h.size) fun hh => (hf i hh).elim hn (fun h => by omega)).trans (h.block i hi hn)⟩
theorem Turn.below {F : Nat → Prop} {w w' : World} {B : Nat} (h : Turn F w w') (hf : ∀ b, F b → B ≤ b) (hB : B ≤ w.heap.size) : Below B w w' :=
  ⟨h.os, h.tape, h.output, h.size, fun k hk => h.block k (Nat.lt_of_lt_of_le hk hB) fun hh => by have := hf k hh; omega⟩
theorem Turn.grown {F : Nat → Prop} {w w' : World} {r : Option Nat} (h : w.grownBy w' r) (hr : ∀ b, r = some b → F b ∨ w.heap.size ≤ b) : Turn F w w' :=
  ⟨h.os, h.tape, h.output, h.size, fun k hk hn => h.block k hk fun e => (hr k e.symm).elim hn (fun h => by omega)⟩
theorem Turn.setCell {F : Nat → Prop} {w : World} {a : Addr} (v : Value) (ha : F a.block ∨ w.heap.size ≤ a.block) : Turn F w (w.setCell a v) :=
  have h := (Below.refl (Nat.min a.block a.block) w).setCell (p := a) (Nat.min_le_left _ _) v
  ⟨h.os, h.tape, h.output, h.size, fun k hk hn => Below.heap_setCell w a v k fun e => ha.elim (fun h => hn (e ▸ h)) (fun h => by omega)⟩
theorem Turn.mono {F F' : Nat → Prop} {w w' : World} (h : Turn F w w') (hf : ∀ k, F k → F' k) : Turn F' w w' := ⟨h.os, h.tape, h.output, h.size, fun k hk hn => h.block k hk fun e => hn (hf k e)⟩

def ND.cells (x : ND) (q : Value) : List Value := [.int .i64 x.o, .int .i64 x.n, .string x.s, q]
/-- The cells of a row of nodes, whose lists' heads are these. -/
def nds (xs : List ND) (qs : List Value) : List Value := (List.zipWith ND.cells xs qs).flatten
/-- The value q is a list of numbers that reads. -/
def In1 (w : World) (q : Value) (l : List Int) : Prop := ∃ A c, q = .slice A l.length c ∧ SlA w 1 A l.length c (l.map (.int .i64))
/-- The slice reads as a row of nodes. -/
def NdA (w : World) (A : Option Addr) (n c : Nat) (xs : List ND) : Prop :=
  ∃ qs : List Value, qs.length = xs.length ∧ SlA w 4 A n c (nds xs qs) ∧ ∀ (j : Nat) x q, xs[j]? = some x → qs[j]? = some q → In1 w q x.l

theorem flat_len {α : Type} (m : Nat) : ∀ (ls : List (List α)), (∀ l ∈ ls, l.length = m) → ls.flatten.length = ls.length * m
  | [], _ => by simp
  | l :: ls, h => by
    rw [List.flatten_cons, List.length_append, h l (by simp), flat_len m ls (fun x hx => h x (by simp [hx])), List.length_cons, Nat.succ_mul]
    omega
theorem flat_get {α : Type} (m : Nat) : ∀ (ls : List (List α)) (j k : Nat) (l : List α), (∀ l ∈ ls, l.length = m) → ls[j]? = some l → k < m → ls.flatten[j * m + k]? = l[k]?
  | [], _, _, _, _, h, _ => by cases h
  | x :: ls, 0, k, l, h7, h, hk => by
    simp at h; subst h
    rw [List.flatten_cons, Nat.zero_mul, Nat.zero_add, List.getElem?_append_left (by rw [h7 x (by simp)]; exact hk)]
  | x :: ls, j + 1, k, l, h7, h, hk => by
    have hx := h7 x (by simp)
    rw [List.flatten_cons, List.getElem?_append_right (by rw [hx, Nat.succ_mul]; omega), hx, show (j + 1) * m + k - m = j * m + k by rw [Nat.succ_mul]; omega]
    exact flat_get m ls j k l (fun y hy => h7 y (by simp [hy])) (by simpa using h) hk
theorem nds_mem (xs : List ND) (qs : List Value) : ∀ l ∈ List.zipWith ND.cells xs qs, l.length = 4 := by
  intro l hl
  obtain ⟨j, hj, rfl⟩ := List.mem_iff_getElem.1 hl
  rw [List.getElem_zipWith]
  rfl
theorem nds_len {xs : List ND} {qs : List Value} (h : qs.length = xs.length) : (nds xs qs).length = xs.length * 4 := by
  unfold nds
  rw [flat_len 4 _ (nds_mem xs qs), List.length_zipWith, h, Nat.min_self]
theorem nds_get {xs : List ND} {qs : List Value} {j k : Nat} {x : ND} {q : Value} (hx : xs[j]? = some x) (hq : qs[j]? = some q) (hk : k < 4) : (nds xs qs)[j * 4 + k]? = (x.cells q)[k]? :=
  flat_get 4 _ j k _ (nds_mem xs qs) (by rw [List.getElem?_zipWith, hx, hq]) hk
theorem nds_snoc {xs : List ND} {qs : List Value} (h : qs.length = xs.length) (x : ND) (q : Value) : nds (xs ++ [x]) (qs ++ [q]) = nds xs qs ++ x.cells q := by
  unfold nds
  rw [List.zipWith_append h.symm, List.flatten_append]
  simp

section
variable {w w' : World} {A : Option Addr} {n c : Nat} {xs : List ND}
theorem In1.keep {q : Value} {l : List Int} (h : In1 w q l) (hk : ∀ b o u, w.cell? ⟨b, o, none⟩ = some u → w'.cell? ⟨b, o, none⟩ = some u) : In1 w' q l := by
  obtain ⟨A, c, e, hs⟩ := h
  exact ⟨A, c, e, hs.keep hk⟩
theorem In1.ext {q : Value} {l : List Int} (h : In1 w q l) (hb : Below w.heap.size w w') : In1 w' q l := by
  obtain ⟨A, c, e, hs⟩ := h
  exact ⟨A, c, e, hs.ext hb⟩
/-- A list reads on, where its own block is as it was. -/
theorem In1.kept {q : Value} {l : List Int} (h : In1 w q l) (hk : ∀ b, l ≠ [] → q.ownBlock = some b → w'.heap[b]? = w.heap[b]?) : In1 w' q l := by
  obtain ⟨A, c, rfl, hs⟩ := h
  refine ⟨A, c, rfl, hs.nc, hs.cm, hs.len, fun j u hj => ?_⟩
  obtain ⟨b, off, rfl, hc⟩ := hs.cells j u hj
  refine ⟨b, off, rfl, ?_⟩
  rw [World.cell?_of_block (a := ⟨b, off + j, none⟩) (hk b (fun e => by rw [e] at hj; simp at hj) rfl)]
  exact hc
theorem NdA.keep (h : NdA w A n c xs) (hk : ∀ b o u, w.cell? ⟨b, o, none⟩ = some u → w'.cell? ⟨b, o, none⟩ = some u) : NdA w' A n c xs := by
  obtain ⟨qs, h1, h2, h3⟩ := h
  exact ⟨qs, h1, h2.keep hk, fun j x q hx hq => (h3 j x q hx hq).keep hk⟩
theorem NdA.ext (h : NdA w A n c xs) (hb : Below w.heap.size w w') : NdA w' A n c xs :=
  h.keep fun b o u hc => (hb.cell (p := ⟨b, o, none⟩) (block_lt_of_cell hc)).trans hc
theorem NdA.drewN (h : NdA w A n c xs) (k : Nat) : NdA (w.drewN k) A n c xs := h.keep fun _ _ _ hc => hc
theorem NdA.len (h : NdA w A n c xs) : xs.length = n := by
  obtain ⟨qs, h1, h2, h3⟩ := h
  have := h2.len
  rw [nds_len h1] at this
  omega
theorem NdA.nc (h : NdA w A n c xs) : n ≤ c ∧ c ≤ maxLen := by
  obtain ⟨qs, h1, h2, h3⟩ := h
  exact ⟨h2.nc, h2.cm⟩
theorem NdA.nil (w : World) : NdA w none 0 0 [] := ⟨[], rfl, SlA.nil _ _, fun j x q h => by simp at h⟩
/-- What one node's cells are. -/
theorem NdA.at (h : NdA w A n c xs) {j : Nat} (hj : j < n) : ∃ b off x A' c', A = some ⟨b, off, none⟩ ∧ xs[j]? = some x ∧ w.cell? ⟨b, off + j * 4, none⟩ = some (.int .i64 x.o) ∧ w.cell? ⟨b, off + j * 4 + 1, none⟩ = some (.int .i64 x.n) ∧ w.cell? ⟨b, off + j * 4 + 2, none⟩ = some (.string x.s) ∧
    w.cell? ⟨b, off + j * 4 + 3, none⟩ = some (.slice A' x.l.length c') ∧ SlA w 1 A' x.l.length c' (x.l.map (.int .i64)) := by
  have hn := h.len
  obtain ⟨qs, h1, h2, h3⟩ := h
  have hx : xs[j]? = some (xs[j]'(by omega)) := List.getElem?_eq_getElem (by omega)
  have hq : qs[j]? = some (qs[j]'(by omega)) := List.getElem?_eq_getElem (by omega)
  generalize xs[j]'(by omega) = x at *
  generalize qs[j]'(by omega) = q at *
  obtain ⟨A', c', rfl, hs⟩ := h3 j x q hx hq
  obtain ⟨b, off, rfl, h0⟩ := h2.cells (j * 4 + 0) _ (nds_get hx hq (by decide))
  obtain ⟨b1, off1, e1, h1'⟩ := h2.cells (j * 4 + 1) _ (nds_get hx hq (by decide))
  obtain ⟨b2, off2, e2, h2'⟩ := h2.cells (j * 4 + 2) _ (nds_get hx hq (by decide))
  obtain ⟨b3, off3, e3, h3'⟩ := h2.cells (j * 4 + 3) _ (nds_get hx hq (by decide))
  injection e1 with e1; injection e1 with e1 f1
  injection e2 with e2; injection e2 with e2 f2
  injection e3 with e3; injection e3 with e3 f3
  subst e1; subst f1; subst e2; subst f2; subst e3; subst f3
  exact ⟨b, off, x, A', c', rfl, hx, h0, h1', h2', h3', hs⟩
end

/-- Nodes that an arena has made, one behind the other. -/
structure Okay (xs : List ND) : Prop where
  len : xs.length ≤ 100000
  nd : xs.Nodup
  may : ∀ (j : Nat) x, xs[j]? = some x → mayB (xs.take j) x = true
  w64 : ∀ (j : Nat) x, xs[j]? = some x → x.n < 9223372036854775808
theorem okay_nil : Okay [] := ⟨by decide, List.nodup_nil, fun j x h => by simp at h, fun j x h => by simp at h⟩
theorem okay_mak {xs : List ND} {x : ND} (h : Okay xs) (hn : x.n < 9223372036854775808) : Okay (makT xs x) := by
  unfold makT
  split
  · rename_i hm
    split
    · exact h
    · rename_i hx
      split
      · exact h
      · rename_i hl
        refine ⟨by simp; omega, ?_, fun j y hy => ?_, fun j y hy => ?_⟩
        · rw [List.nodup_append]
          exact ⟨h.nd, by simp, fun a ha b hb e => by rw [List.mem_singleton] at hb; subst hb; subst e; exact hx ha⟩
        · rcases Nat.lt_or_ge j xs.length with hj | hj
          · rw [List.getElem?_append_left hj] at hy
            rw [List.take_append_of_le_length (by omega)]
            exact h.may j y hy
          · rw [List.getElem?_append_right hj] at hy
            rcases hk : j - xs.length with _ | k
            · rw [hk] at hy
              injection hy with hy
              subst hy
              rw [show j = xs.length by omega, List.take_append_of_le_length (Nat.le_refl _), List.take_length]
              exact hm
            · rw [hk] at hy; simp at hy
        · rcases Nat.lt_or_ge j xs.length with hj | hj
          · rw [List.getElem?_append_left hj] at hy
            exact h.w64 j y hy
          · rw [List.getElem?_append_right hj] at hy
            rcases hk : j - xs.length with _ | k
            · rw [hk] at hy
              injection hy with hy
              subst hy
              exact hn
            · rw [hk] at hy; simp at hy
  · exact h

/-- The block st is an arena of these nodes; all its blocks lie in Z. -/
structure Ar (P : Program) (NT K E T : TypeId) (kf : ND → List UInt8) (w : World) (Z : Nat → Prop) (st mp : Nat) (v : Value) (xs : List ND) (qs : List Value) : Prop where
  box : w.heap[st]? = some (.cells #[v, .map (some mp)] T (0, 0))
  row : w.ownsRow 0 NT 4 v xs.length (nds xs qs)
  ql : qs.length = xs.length
  rd : ∀ (j : Nat) x q, xs[j]? = some x → qs[j]? = some q → In1 w q x.l
  own : ∀ (j : Nat) x q b, xs[j]? = some x → qs[j]? = some q → x.l ≠ [] → q.ownBlock = some b → Z b ∧ b ≠ st ∧ b ≠ mp ∧ v.ownBlock ≠ some b
  map : ∃ D, w.ownsMap P K (plainElem P E) mp xs.length D ∧ MapOk kf xs D
  zst : Z st
  zmp : Z mp ∧ mp ≠ st
  zv : ∀ b, v.ownBlock = some b → Z b ∧ b ≠ st ∧ b ≠ mp
  zlt : ∀ b, Z b → b < w.heap.size
  ok : Okay xs

section
variable {P : Program} {NT K E T : TypeId} {kf : ND → List UInt8} {w w' : World} {Z : Nat → Prop} {st mp : Nat} {v : Value} {xs : List ND} {qs : List Value}
theorem own_block {base : Nat} {e : TypeId} {size n : Nat} {cs : List Value} (h : w.ownsRow base e size v n cs) (hb : ∀ b, v.ownBlock = some b → w'.heap[b]? = w.heap[b]?) : w'.ownsRow base e size v n cs := by
  refine ⟨h.1, ?_⟩
  rcases h.2 with h2 | ⟨g, cap, cur, rfl, hg, hh, r⟩
  · exact .inl h2
  · exact .inr ⟨g, cap, cur, rfl, hg, (hb g rfl).trans hh, r⟩
theorem map_block {R : Value → Option (MD × List MemPlace)} {b n : Nat} {D : MD} (h : w.ownsMap P K R b n D) (hb : w'.heap[b]? = w.heap[b]?) : w'.ownsMap P K R b n D := by
  obtain ⟨es, clock, h1, h2⟩ := h
  exact ⟨es, clock, hb.trans h1, h2⟩
/-- An arena stays, where nothing of its own has turned. -/
theorem Ar.kept (h : Ar P NT K E T kf w Z st mp v xs qs) (hb : ∀ b, Z b → w'.heap[b]? = w.heap[b]?) (hs : w.heap.size ≤ w'.heap.size) : Ar P NT K E T kf w' Z st mp v xs qs := by
  obtain ⟨D, hD, hm⟩ := h.map
  exact ⟨(hb _ h.zst).trans h.box, own_block h.row fun b e => hb b (h.zv b e).1, h.ql, fun j x q hx hq => (h.rd j x q hx hq).kept fun b hl e => hb b (h.own j x q b hx hq hl e).1, h.own, ⟨D, map_block hD (hb _ h.zmp.1), hm⟩, h.zst, h.zmp, h.zv, fun b hz => Nat.lt_of_lt_of_le (h.zlt b hz) hs, h.ok⟩
theorem Ar.ext (h : Ar P NT K E T kf w Z st mp v xs qs) (hb : Below w.heap.size w w') : Ar P NT K E T kf w' Z st mp v xs qs :=
  h.kept (fun b hz => hb.block b (h.zlt b hz)) hb.size
theorem Ar.turn {F : Nat → Prop} (h : Ar P NT K E T kf w Z st mp v xs qs) (ht : Turn F w w') (hd : ∀ b, Z b → ¬ F b) : Ar P NT K E T kf w' Z st mp v xs qs :=
  h.kept (fun b hz => ht.block b (h.zlt b hz) (hd b hz)) ht.size
theorem Ar.drewN (h : Ar P NT K E T kf w Z st mp v xs qs) (n : Nat) : Ar P NT K E T kf (w.drewN n) Z st mp v xs qs := h.kept (fun _ _ => rfl) (Nat.le_refl _)
/-- The row reads. -/
theorem Ar.rows (h : Ar P NT K E T kf w Z st mp v xs qs) : ∃ A c, v = .slice A xs.length c ∧ NdA w A xs.length c xs := by
  obtain ⟨A, c, rfl, hs⟩ := SlA.owned h.row
  exact ⟨A, c, rfl, qs, h.ql, hs, h.rd⟩
/-- One node more. -/
theorem Ar.push (h : Ar P NT K E T kf w Z st mp v xs qs) {v' q : Value} {x : ND} {D : MD} (hok : Okay (xs ++ [x]))
    (box : w'.heap[st]? = some (.cells #[v', .map (some mp)] T (0, 0))) (row : w'.ownsRow 0 NT 4 v' (xs.length + 1) (nds xs qs ++ x.cells q)) (hv : v'.ownBlock = v.ownBlock ∨ ∀ b, v'.ownBlock = some b → w.heap.size ≤ b ∧ b < w'.heap.size)
    (hq : In1 w' q x.l) (hqn : x.l ≠ [] → ∀ b, q.ownBlock = some b → w.heap.size ≤ b ∧ b < w'.heap.size ∧ v'.ownBlock ≠ some b) (map : w'.ownsMap P K (plainElem P E) mp (xs.length + 1) D) (hm : MapOk kf (xs ++ [x]) D)
    (hl : ∀ b, Z b → b ≠ st → b ≠ mp → v.ownBlock ≠ some b → w'.heap[b]? = w.heap[b]?) (hs : w.heap.size ≤ w'.heap.size) :
    Ar P NT K E T kf w' (fun b => Z b ∨ (w.heap.size ≤ b ∧ b < w'.heap.size)) st mp v' (xs ++ [x]) (qs ++ [q]) := by
  have hlt := h.zlt
  have h1 := hlt _ h.zst; have h2 := hlt _ h.zmp.1
  refine ⟨box, by rw [nds_snoc h.ql, List.length_append]; exact row, by simp [h.ql], fun j y p hy hp => ?_, fun j y p b hy hp hne hb => ?_, ⟨D, by rw [List.length_append]; exact map, hm⟩, .inl h.zst, ⟨.inl h.zmp.1, h.zmp.2⟩, fun b hb => ?_, fun b hb => ?_, hok⟩
  · rcases Nat.lt_or_ge j xs.length with hj | hj
    · rw [List.getElem?_append_left hj] at hy
      rw [List.getElem?_append_left (by rw [h.ql]; exact hj)] at hp
      refine (h.rd j y p hy hp).kept fun b hne e => ?_
      obtain ⟨z, z1, z2, z3⟩ := h.own j y p b hy hp hne e
      exact hl b z z1 z2 z3
    · rw [List.getElem?_append_right hj] at hy
      rw [List.getElem?_append_right (by rw [h.ql]; exact hj), h.ql] at hp
      rcases hk : j - xs.length with _ | k
      · rw [hk] at hy hp
        injection hy with hy; injection hp with hp
        subst hy; subst hp
        exact hq
      · rw [hk] at hy; simp at hy
  · rcases Nat.lt_or_ge j xs.length with hj | hj
    · rw [List.getElem?_append_left hj] at hy
      rw [List.getElem?_append_left (by rw [h.ql]; exact hj)] at hp
      obtain ⟨z, z1, z2, z3⟩ := h.own j y p b hy hp hne hb
      refine ⟨.inl z, z1, z2, fun e => ?_⟩
      rcases hv with hv | hv
      · exact z3 (hv ▸ e)
      · have := (hv b e).1; have := hlt b z; omega
    · rw [List.getElem?_append_right hj] at hy
      rw [List.getElem?_append_right (by rw [h.ql]; exact hj), h.ql] at hp
      rcases hk : j - xs.length with _ | k
      · rw [hk] at hy hp
        injection hy with hy; injection hp with hp
        subst hy; subst hp
        obtain ⟨a1, a2, a3⟩ := hqn hne b hb
        exact ⟨.inr ⟨a1, a2⟩, by omega, by omega, a3⟩
      · rw [hk] at hy; simp at hy
  · rcases hv with hv | hv
    · obtain ⟨z, z1, z2⟩ := h.zv b (hv ▸ hb)
      exact ⟨.inl z, z1, z2⟩
    · obtain ⟨a1, a2⟩ := hv b hb
      exact ⟨.inr ⟨a1, a2⟩, by omega, by omega⟩
  · rcases hb with hb | hb
    · exact Nat.lt_of_lt_of_le (hlt b hb) hs
    · exact hb.2
end
end Go.KK
