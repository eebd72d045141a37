/- term: what is carried from call to call: an arena, a row of numbers. -/
import Derived.Test.YtkgobglmkhkbbaaGreatDoorMA
import Derived.Test.YtkgobglmkhkbbaaGreatDoorM1
import Derived.Test.YtkgobglmkhkbbaaGreatDoorK2
import Derived.Test.YtkgobglmkhkbbaaGreatDoorK6
namespace Go.Proofs.YtkgobglmkhkbbaaGreatDoor
open Go.RowKit Go.KK Go.Shelf Go.Maps
set_option linter.unusedVariables false
set_option linter.unusedSimpArgs false

/-- The law's arena, and what the call has left alone. -/
structure LA (w0 W : World) (Z : Nat → Prop) (sa : Nat) (xs : List ND) : Prop where
  ar : AR W Z sa xs
  z : ∀ b, Z b → w0.heap.size ≤ b
  bl : Below w0.heap.size w0 W
/-- From one world to the next. -/
structure Mv (Z : Nat → Prop) (W : World) (Z' : Nat → Prop) (W' : World) : Prop where
  t : Turn Z W W'
  n : ∀ b, Z' b → Z b ∨ W.heap.size ≤ b
theorem Mv.below {Z : Nat → Prop} {W W' : World} (hb : Below W.heap.size W W') : Mv Z W Z W' := ⟨.of_below hb, fun _ h => .inl h⟩
section
variable {w0 W W' : World} {Z Z' : Nat → Prop} {sa : Nat} {xs xs' : List ND}
theorem LA.mv (h : LA w0 W Z sa xs) (m : Mv Z W Z' W') (ha : AR W' Z' sa xs') : LA w0 W' Z' sa xs' :=
  ⟨ha, fun b hb => (m.n b hb).elim (h.z b) fun h' => Nat.le_trans h.bl.size h', h.bl.trans (m.t.below h.z h.bl.size)⟩
theorem LA.ext (h : LA w0 W Z sa xs) (hb : Below W.heap.size W W') : LA w0 W' Z sa xs := h.mv (.below hb) (h.ar.ext hb)
theorem LA.alloc (h : LA w0 W Z sa xs) (o : Obj) : LA w0 (W.alloc o) Z sa xs := h.ext ((Below.refl _ _).alloc (Nat.le_refl _) o)
theorem LA.sz (h : LA w0 W Z sa xs) : w0.heap.size ≤ W.heap.size := h.bl.size
theorem l_mke (h : LA w0 W Z sa xs) (hT : Tb w0.heap.size w0) {x : ND} {A : Option Addr} {c : Nat} (hl : SlA W 1 A x.l.length c (x.l.map (.int .i64))) (hx : NdI x) :
    Calls Tryz.prog 57 #[.pointer (some ⟨sa, 0, none⟩), .agg #[.int .i64 x.o, .int .i64 x.n, .string x.s, .slice A x.l.length c]] W fun e w' => ∃ Z', e = .returned (.tuple #[.int .i64 (makI xs x), .int .i64 (makE xs x)]) ∧ LA w0 w' Z' sa (makT xs x) ∧ Mv Z W Z' w' := by
  refine (mke_any Z sa xs w0.heap.size W x A c h.ar hl (hT.on h.bl) h.bl.size hx).mono ?_
  rintro e w' ⟨rfl, Z', h1, h2, h3⟩
  exact ⟨Z', rfl, h.mv ⟨h2, h3⟩ h1, ⟨h2, h3⟩⟩
end
/-- A row of numbers of the call's own. -/
abbrev RowI (W : World) (b0 : Nat) (v : Value) (l : List Int) : Prop := W.ownsRow b0 3 1 v l.length (l.map (.int .i64))
/-- The arena and a row. -/
structure T1 (w W : World) (sa : Nat) (Z : Nat → Prop) (X : List ND) (nv : Value) (ns : List Int) : Prop where
  la : LA w W Z sa X
  nr : RowI W w.heap.size nv ns
  na : ∀ b, nv.ownBlock = some b → ¬ Z b
section
variable {w W W' : World} {sa : Nat} {Z Z' : Nat → Prop} {X X' : List ND} {nv : Value} {ns : List Int}
theorem T1.ext (h : T1 w W sa Z X nv ns) (hb : Below W.heap.size W W') : T1 w W' sa Z X nv ns := ⟨h.la.ext hb, own_ext h.nr hb, h.na⟩
theorem T1.mv (h : T1 w W sa Z X nv ns) (hl : LA w W' Z' sa X') (hv : Mv Z W Z' W') : T1 w W' sa Z' X' nv ns where
  la := hl
  nr := own_block h.nr fun b hb => hv.t.block b (h.nr.lt b hb).2 (h.na b hb)
  na := fun b hb hz => (hv.n b hz).elim (h.na b hb) fun h' => by have := (h.nr.lt b hb).2; omega
theorem T1.app (h : T1 w W sa Z X nv ns) {nv' : Value} {ns' : List Int} (hn : RowI W' w.heap.size nv' ns') (hg : W.grownBy W' nv.ownBlock) (hl : nv'.ownBlock = nv.ownBlock ∨ nv'.ownBlock = some W.heap.size) : T1 w W' sa Z X nv' ns' := by
  have ht : Turn (fun b => nv.ownBlock = some b) W W' := Turn.grown hg fun b hb => .inl hb
  refine ⟨⟨h.la.ar.turn ht (fun b hz e => h.na b e hz), h.la.z, h.la.bl.trans (ht.below (fun b e => (h.nr.lt b e).1) h.la.sz)⟩, hn, fun b hb => ?_⟩
  rcases hl with hl | hl
  · exact h.na b (hl ▸ hb)
  · rw [hl] at hb
    injection hb with hb
    subst hb
    intro hz
    have := h.la.ar.zlt _ hz
    omega
theorem t1_nil (h : LA w W Z sa X) : T1 w W sa Z X (.slice none 0 0) [] := ⟨h, World.ownsRow_nil _ _ _ _, fun b hb => by cases hb⟩
end
/-- A number more at a row's end. -/
theorem rowI_snoc {W : World} {b0 : Nat} {v : Value} {l : List Int} {x : Int} (h : W.ownsRow b0 3 1 v (l.length + 1) (l.map (.int .i64) ++ [.int .i64 x])) : RowI W b0 v (l ++ [x]) := by
  unfold RowI
  rw [List.length_append, List.map_append]
  exact h
theorem rowI_at {W : World} {b0 b o n c : Nat} {l : List Int} {i : Nat} {x : Int} (h : W.ownsRow b0 3 1 (.slice (some ⟨b, o, none⟩) n c) l.length (l.map (.int .i64))) (hx : l[i]? = some x) : W.cell? ⟨b, o + i, none⟩ = some (.int .i64 x) := by
  obtain ⟨b', off, e, hc⟩ := (SlA.of_own h).2.cells i (.int .i64 x) (by rw [List.getElem?_map, hx]; rfl)
  injection e with e
  injection e with e1 e2
  subst e1; subst e2
  exact hc
end Go.Proofs.YtkgobglmkhkbbaaGreatDoor
