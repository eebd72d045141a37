/- token's law: TokenOnce, what is carried from call to call. -/
import Derived.Test.YtanakgbhmmemoaaDoorTX
import Derived.Test.YtanakgbhmmemoaaDoorPO
import Derived.Test.YtanakgbhmmemoaaDoorRA
namespace Go.Proofs.YtanakgbhmmemoaaDoor
open Go.RowKit Go.KK Go.Shelf Go.Maps
set_option linter.unusedVariables false
set_option linter.unusedSimpArgs false

/-- A row of numbers of the call's own. -/
abbrev RowI (W : World) (b0 : Nat) (v : Value) (l : List Int) : Prop := W.ownsRow b0 3 1 v l.length (l.map (.int .i64))
/-- The block is read by the mint's lists. -/
def usesB (m : MT) (g p : Value) (b : Nat) : Prop := (m.g ≠ [] ∧ g.ownBlock = some b) ∨ (m.p ≠ [] ∧ p.ownBlock = some b)
theorem usesB.own {m : MT} {g p : Value} {b : Nat} (h : usesB m g p b) : g.ownBlock = some b ∨ p.ownBlock = some b := h.imp And.right And.right
theorem cts_ne {g : List (Int × Int)} : cts g ≠ [] ↔ g ≠ [] := by
  cases g with
  | nil => simp [cts]
  | cons c g => simp [cts]
theorem SlZ.farU {W W' : World} {Z F : Nat → Prop} {size : Nat} {A : Option Addr} {n c : Nat} {cs : List Value} (h : SlZ W Z size A n c cs) (ht : Turn F W W') (hn : cs ≠ [] → ∀ b o, A = some ⟨b, o, none⟩ → ¬ F b) : SlZ W' Z size A n c cs := by
  refine ⟨⟨h.1.nc, h.1.cm, h.1.len, fun j u hj => ?_⟩, h.2⟩
  obtain ⟨b, off, rfl, hc⟩ := h.1.cells j u hj
  refine ⟨b, off, rfl, ?_⟩
  rw [World.cell?_of_block (a := ⟨b, off + j, none⟩) (ht.block b (block_lt_of_cell hc) (hn (fun e => by rw [e] at hj; simp at hj) b off rfl))]
  exact hc
theorem SlZ.lt {W : World} {Z : Nat → Prop} {size : Nat} {A : Option Addr} {n c : Nat} {cs : List Value} (h : SlZ W Z size A n c cs) (hne : cs ≠ []) {b : Nat} (hb : (Value.slice A n c).ownBlock = some b) : b < W.heap.size := by
  rcases cs with _ | ⟨u, cs⟩
  · exact absurd rfl hne
  · obtain ⟨b', off, rfl, hc⟩ := h.1.cells 0 u rfl
    injection hb with hb
    simp only at hb
    subst hb
    exact block_lt_of_cell hc
theorem MtR.uses_lt {W : World} {Z : Nat → Prop} {m : MT} {g p : Value} (h : MtR W Z m g p) {b : Nat} (hu : usesB m g p b) : b < W.heap.size := by
  obtain ⟨Ag, cg, Ap, cp, rfl, rfl, s1, s2⟩ := h
  rcases hu with ⟨h1, h2⟩ | ⟨h1, h2⟩
  · exact s1.lt (cts_ne.2 h1) h2
  · exact s2.lt (by simpa using h1) h2
theorem MB.turnU {W W' : World} {Z F : Nat → Prop} {b0 bm : Nat} {m : MT} {g p : Value} (h : MB W Z b0 bm m g p) (ht : Turn F W W') (h1 : ¬ F bm) (h2 : ∀ b, usesB m g p b → ¬ F b) : MB W' Z b0 bm m g p := by
  refine ⟨own_block h.row fun b hb => ht.block b (h.row.lt b hb).2 (by injection hb with hb; simp only at hb; rw [← hb]; exact h1), ?_, h.nz⟩
  obtain ⟨Ag, cg, Ap, cp, rfl, rfl, s1, s2⟩ := h.mt
  exact ⟨Ag, cg, Ap, cp, rfl, rfl, s1.farU ht fun hne b o e => h2 b (.inl ⟨cts_ne.1 hne, by subst e; rfl⟩), s2.farU ht fun hne b o e => h2 b (.inr ⟨by simpa using hne, by subst e; rfl⟩)⟩
/-- The arena, a mint in its variable, a map of numbers, two rows. -/
structure C5 (w wr : World) (sa bm mb : Nat) (X : List ND) (Z : Nat → Prop) (mm : MT) (gv pv : Value) (k : Nat) (D : MD) (nv tv : Value) (ns ts : List Int) : Prop extends C3 w wr sa bm mb X Z mm gv pv k D where
  nr : RowI wr w.heap.size nv ns
  tr : RowI wr w.heap.size tv ts
  na : ∀ b, nv.ownBlock = some b → ¬ Z b ∧ b ≠ bm ∧ b ≠ mb ∧ tv.ownBlock ≠ some b ∧ ¬ usesB mm gv pv b
  ta : ∀ b, tv.ownBlock = some b → ¬ Z b ∧ b ≠ bm ∧ b ≠ mb ∧ nv.ownBlock ≠ some b ∧ ¬ usesB mm gv pv b
section
variable {w wr W : World} {sa bm mb k : Nat} {X X' : List ND} {Z Z' : Nat → Prop} {m m' : MT} {gv pv gv' pv' nv tv : Value} {D D' : MD} {ns ts : List Int}
theorem C5.ext5 (h : C5 w wr sa bm mb X Z m gv pv k D nv tv ns ts) (hb : Below wr.heap.size wr W) : C5 w W sa bm mb X Z m gv pv k D nv tv ns ts :=
  { toC3 := h.toC3.ext hb, nr := own_ext h.nr hb, tr := own_ext h.tr hb, na := h.na, ta := h.ta }
theorem C5.mv5 (h : C5 w wr sa bm mb X Z m gv pv k D nv tv ns ts) (hl : LA w W Z' sa X') (hv : Mv Z wr Z' W) : C5 w W sa bm mb X' Z' m gv pv k D nv tv ns ts where
  toC3 := h.toC3.mv hl hv
  nr := own_block h.nr fun b hb => hv.t.block b (h.nr.lt b hb).2 (h.na b hb).1
  tr := own_block h.tr fun b hb => hv.t.block b (h.tr.lt b hb).2 (h.ta b hb).1
  na := fun b hb => ⟨fun hz => (hv.n b hz).elim (h.na b hb).1 fun h' => by have := (h.nr.lt b hb).2; omega, (h.na b hb).2⟩
  ta := fun b hb => ⟨fun hz => (hv.n b hz).elim (h.ta b hb).1 fun h' => by have := (h.tr.lt b hb).2; omega, (h.ta b hb).2⟩
theorem C5.put5 (h : C5 w wr sa bm mb X Z m gv pv k D nv tv ns ts) (hm : MtR wr Z m' gv' pv') (hn : ∀ b, gv'.ownBlock = some b ∨ pv'.ownBlock = some b → b ≠ bm ∧ b ≠ mb ∧ nv.ownBlock ≠ some b ∧ tv.ownBlock ≠ some b) : C5 w (put4 wr bm m' gv' pv') sa bm mb X Z m' gv' pv' k D nv tv ns ts where
  toC3 := h.toC3.put hm fun b hb => ⟨(hn b hb).1, (hn b hb).2.1⟩
  nr := own_block h.nr fun b hb => far4 wr bm _ _ _ _ b (h.na b hb).2.1
  tr := own_block h.tr fun b hb => far4 wr bm _ _ _ _ b (h.ta b hb).2.1
  na := fun b hb => ⟨(h.na b hb).1, (h.na b hb).2.1, (h.na b hb).2.2.1, (h.na b hb).2.2.2.1, fun h' => (hn b h'.own).2.2.1 hb⟩
  ta := fun b hb => ⟨(h.ta b hb).1, (h.ta b hb).2.1, (h.ta b hb).2.2.1, (h.ta b hb).2.2.2.1, fun h' => (hn b h'.own).2.2.2 hb⟩
theorem C5.upd5 (h : C5 w wr sa bm mb X Z m gv pv k D nv tv ns ts) (ho : W.ownsMap Tryd.prog 3 (plainElem Tryd.prog 3) mb (k + 1) D') (hg : wr.grownBy W (some mb)) : C5 w W sa bm mb X Z m gv pv (k + 1) D' nv tv ns ts where
  toC3 := h.toC3.upd ho hg
  nr := own_block h.nr fun b hb => hg.block b (h.nr.lt b hb).2 (fun e => (h.na b hb).2.2.1 (by injection e))
  tr := own_block h.tr fun b hb => hg.block b (h.tr.lt b hb).2 (fun e => (h.ta b hb).2.2.1 (by injection e))
  na := h.na
  ta := h.ta
theorem C5.appN (h : C5 w wr sa bm mb X Z m gv pv k D nv tv ns ts) {nv' : Value} {ns' : List Int} (hn : RowI W w.heap.size nv' ns') (hg : wr.grownBy W nv.ownBlock) (hl : nv'.ownBlock = nv.ownBlock ∨ nv'.ownBlock = some wr.heap.size) : C5 w W sa bm mb X Z m gv pv k D nv' tv ns' ts := by
  have ht : Turn (fun b => nv.ownBlock = some b) wr W := Turn.grown hg fun b hb => .inl hb
  have lo : w.heap.size ≤ wr.heap.size := h.la.sz
  refine { la := h.la.turn ht (fun b hz e => (h.na b e).1 hz) (fun b e => (h.nr.lt b e).1), m := h.m.turnU ht (fun e => (h.na bm e).2.1 rfl) (fun b h1 h2 => (h.na b h2).2.2.2.2 h1), o := map_block h.o (ht.block mb (map_lt h.o) fun e => (h.na mb e).2.2.1 rfl), nz := h.nz, ne := h.ne, nb := h.nb, mb0 := h.mb0, nr := hn, tr := own_block h.tr fun b hb => ht.block b (h.tr.lt b hb).2 (h.ta b hb).2.2.2.1, na := fun b hb => ?_, ta := fun b hb => ?_ }
  · rcases hl with hl | hl
    · exact h.na b (hl ▸ hb)
    · rw [hl] at hb
      injection hb with hb
      subst hb
      refine ⟨fun hz => by have := h.la.ar.zlt _ hz; omega, by have := h.m.lt; omega, by have := map_lt h.o; omega, fun e => by have := (h.tr.lt _ e).2; omega, fun e => ?_⟩
      have := MtR.uses_lt h.m.mt e
      omega
  · obtain ⟨a1, a2, a3, a4, a5⟩ := h.ta b hb
    refine ⟨a1, a2, a3, ?_, a5⟩
    rcases hl with hl | hl
    · rw [hl]; exact a4
    · rw [hl]
      intro e
      injection e with e
      have := (h.tr.lt b hb).2
      omega
theorem C5.appT (h : C5 w wr sa bm mb X Z m gv pv k D nv tv ns ts) {tv' : Value} {ts' : List Int} (hn : RowI W w.heap.size tv' ts') (hg : wr.grownBy W tv.ownBlock) (hl : tv'.ownBlock = tv.ownBlock ∨ tv'.ownBlock = some wr.heap.size) : C5 w W sa bm mb X Z m gv pv k D nv tv' ns ts' := by
  have hs : C5 w wr sa bm mb X Z m gv pv k D tv nv ts ns := { toC3 := h.toC3, nr := h.tr, tr := h.nr, na := h.ta, ta := h.na }
  have h2 := hs.appN hn hg hl
  exact { toC3 := h2.toC3, nr := h2.tr, tr := h2.nr, na := h2.ta, ta := h2.na }
end
/-- A number more at a row's end. -/
theorem rowI_snoc {W : World} {b0 : Nat} {v : Value} {l : List Int} {x : Int} (h : W.ownsRow b0 3 1 v (l.length + 1) (l.map (.int .i64) ++ [.int .i64 x])) : RowI W b0 v (l ++ [x]) := by
  unfold RowI
  rw [List.length_append, List.map_append]
  exact h
theorem l_mke {w0 W : World} {Z : Nat → Prop} {sa : Nat} {xs : List ND} (h : LA w0 W Z sa xs) (hT : Tb w0.heap.size w0) {n : Int} (hn : I64 n) {xs' : List ND} {i er : Int} (h1 : makT xs (atN n) = xs') (h2 : makI xs (atN n) = i) (h3 : makE xs (atN n) = er) :
    Calls Tryd.prog 28 #[.pointer (some ⟨sa, 0, none⟩), .agg #[.int .i64 1, .int .i64 n, .string ⟨#[]⟩, .slice none 0 0]] W (AfS w0 W Z sa xs' i er) := by
  refine (mke_any Z sa xs w0.heap.size W (atN n) none 0 h.ar (SlA.nil _ _) (h.cx hT).tb (h.cx hT).le (ndI_at hn)).mono ?_
  rintro e w' ⟨rfl, Z', a1, a2, a3⟩
  rw [h1] at a1
  rw [h2, h3]
  exact ⟨Z', rfl, h.mv ⟨a2, a3⟩ a1, ⟨a2, a3⟩⟩
/-- Spend, which leaves all that was there alone. -/
theorem l_spB {w0 W : World} {Z : Nat → Prop} {sa : Nat} {xs : List ND} (h : LA w0 W Z sa xs) {m : MT} {g p : Value} {nonce sig : Int} (hm : MtR W Z m g p) (ho : MtO m) {er : Int} {m' : MT} (hr : spF xs m nonce sig = (m', er)) :
    Calls Tryd.prog 22 #[.pointer (some ⟨sa, 0, none⟩), .agg #[.int .i64 m.k, .int .i64 m.q, g, p], .int .i64 nonce, .int .i64 sig] W fun e w' => ∃ g p, e = .returned (.tuple #[.agg #[.int .i64 m'.k, .int .i64 m'.q, g, p], .int .i64 er]) ∧ Below W.heap.size W w' ∧ MtR w' Z m' g p ∧ NewV W g p := by
  refine (spend_any Z sa xs W m g p nonce sig h.ar hm ho).mono ?_
  rintro e w' ⟨g', p', rfl, hb, h4, hnw⟩
  rw [hr] at h4 ⊢
  exact ⟨g', p', rfl, hb, h4, hnw⟩
theorem rowI_at {W : World} {b0 b o n c : Nat} {l : List Int} {i : Nat} {x : Int} (h : W.ownsRow b0 3 1 (.slice (some ⟨b, o, none⟩) n c) l.length (l.map (.int .i64))) (hx : l[i]? = some x) : W.cell? ⟨b, o + i, none⟩ = some (.int .i64 x) := by
  obtain ⟨b', off, e, hc⟩ := (SlA.of_own h).2.cells i (.int .i64 x) (by rw [List.getElem?_map, hx]; rfl)
  injection e with e
  injection e with e1 e2
  subst e1; subst e2
  exact hc
/-- What a Spend leaves: all as it was, and the new mint in a variable. -/
structure SpO (w W : World) (sa bm mb : Nat) (X : List ND) (Z : Nat → Prop) (mm : MT) (gv pv : Value) (k : Nat) (D : MD) (nv tv : Value) (ns ts : List Int) (bv : Nat) (m2 : MT) (g9 p9 : Value) : Prop where
  c : C5 w W sa bm mb X Z mm gv pv k D nv tv ns ts
  m : MB W Z w.heap.size bv m2 g9 p9
  n : ∀ b, g9.ownBlock = some b ∨ p9.ownBlock = some b → b ≠ bm ∧ b ≠ mb ∧ nv.ownBlock ≠ some b ∧ tv.ownBlock ≠ some b
section
variable {w wr w1 w5 : World} {sa bm mb k : Nat} {X : List ND} {Z : Nat → Prop} {m m2 : MT} {gv pv nv tv g5 p5 : Value} {D : MD} {ns ts : List Int}
theorem spo_n (h : C5 w wr sa bm mb X Z m gv pv k D nv tv ns ts) (hn : NewV w1 g5 p5) (hw : wr.heap.size ≤ w1.heap.size) : ∀ b, g5.ownBlock = some b ∨ p5.ownBlock = some b → b ≠ bm ∧ b ≠ mb ∧ nv.ownBlock ≠ some b ∧ tv.ownBlock ≠ some b := fun b hb => by
  have h1 := hn b hb
  have h2 := h.m.lt
  have h3 := map_lt h.o
  exact ⟨by omega, by omega, fun e => by have := (h.nr.lt b e).2; omega, fun e => by have := (h.tr.lt b e).2; omega⟩
theorem spo_a (h : C5 w wr sa bm mb X Z m gv pv k D nv tv ns ts) (hd : Below wr.heap.size wr w5) (hm : MtR w5 Z m2 g5 p5) (hn : NewV w1 g5 p5) (hw : wr.heap.size ≤ w1.heap.size) : SpO w (w5.alloc (.cells #[.int .i64 m2.k, .int .i64 m2.q, g5, p5] 31)) sa bm mb X Z m gv pv k D nv tv ns ts w5.heap.size m2 g5 p5 :=
  ⟨h.ext5 (hd.alloc hd.size _), MB.new hm (fun b hz => Nat.lt_of_lt_of_le (h.la.ar.zlt b hz) hd.size) (Nat.le_trans h.la.sz hd.size), spo_n h hn hw⟩
theorem spo_b (h : C5 w wr sa bm mb X Z m gv pv k D nv tv ns ts) (hd : Below wr.heap.size wr w5) (hz : MB w5 Z w.heap.size wr.heap.size mt0 (.slice none 0 0) (.slice none 0 0)) (hm : MtR w5 Z m2 g5 p5) (hn : NewV w1 g5 p5) (hw : wr.heap.size < w1.heap.size) : SpO w (put4 w5 wr.heap.size m2 g5 p5) sa bm mb X Z m gv pv k D nv tv ns ts wr.heap.size m2 g5 p5 :=
  ⟨h.ext5 (st4 hd (Nat.le_refl _) _ _ _ _), hz.put hm (fun b hb => by have := hn b hb; omega), spo_n h hn (Nat.le_of_lt hw)⟩
theorem spo_a2 {e : Int} (h : C5 w wr sa bm mb X Z m gv pv k D nv tv ns ts) (hd : Below wr.heap.size wr w5) (hm : MtR w5 Z m2 g5 p5) (hn : NewV w1 g5 p5) (hw : wr.heap.size ≤ w1.heap.size) : ∃ (bv : Nat) (g9 p9 : Value), Value.pointer (some ⟨w5.heap.size, 0, none⟩) = .pointer (some ⟨bv, 0, none⟩) ∧ Value.int .i64 e = .int .i64 e ∧ SpO w (w5.alloc (.cells #[.int .i64 m2.k, .int .i64 m2.q, g5, p5] 31)) sa bm mb X Z m gv pv k D nv tv ns ts bv m2 g9 p9 :=
  ⟨_, _, _, rfl, rfl, spo_a h hd hm hn hw⟩
theorem spo_b2 {e : Int} (h : C5 w wr sa bm mb X Z m gv pv k D nv tv ns ts) (hd : Below wr.heap.size wr w5) (hz : MB w5 Z w.heap.size wr.heap.size mt0 (.slice none 0 0) (.slice none 0 0)) (hm : MtR w5 Z m2 g5 p5) (hn : NewV w1 g5 p5) (hw : wr.heap.size < w1.heap.size) : ∃ (bv : Nat) (g9 p9 : Value), Value.pointer (some ⟨wr.heap.size, 0, none⟩) = .pointer (some ⟨bv, 0, none⟩) ∧ Value.int .i64 e = .int .i64 e ∧ SpO w ((((w5.setCell ⟨wr.heap.size, 0, none⟩ (.int .i64 m2.k)).setCell ⟨wr.heap.size, 1, none⟩ (.int .i64 m2.q)).setCell ⟨wr.heap.size, 2, none⟩ g5).setCell ⟨wr.heap.size, 3, none⟩ p5) sa bm mb X Z m gv pv k D nv tv ns ts bv m2 g9 p9 :=
  ⟨_, _, _, rfl, rfl, spo_b h hd hz hm hn hw⟩
theorem spo_a3 {e : Int} (h : C5 w wr sa bm mb X Z m gv pv k D nv tv ns ts) (hd : Below wr.heap.size wr w5) (hm : MtR w5 Z m2 g5 p5) (hn : NewV w1 g5 p5) (hw : wr.heap.size ≤ w1.heap.size) : (∃ bv : Nat, Value.pointer (some ⟨w5.heap.size, 0, none⟩) = .pointer (some ⟨bv, 0, none⟩)) ∧ Value.int .i64 e = .int .i64 e ∧ C5 w (w5.alloc (.cells #[.int .i64 m2.k, .int .i64 m2.q, g5, p5] 31)) sa bm mb X Z m gv pv k D nv tv ns ts :=
  ⟨⟨_, rfl⟩, rfl, (spo_a h hd hm hn hw).c⟩
theorem spo_b3 {e : Int} (h : C5 w wr sa bm mb X Z m gv pv k D nv tv ns ts) (hd : Below wr.heap.size wr w5) (hz : MB w5 Z w.heap.size wr.heap.size mt0 (.slice none 0 0) (.slice none 0 0)) (hm : MtR w5 Z m2 g5 p5) (hn : NewV w1 g5 p5) (hw : wr.heap.size < w1.heap.size) : (∃ bv : Nat, Value.pointer (some ⟨wr.heap.size, 0, none⟩) = .pointer (some ⟨bv, 0, none⟩)) ∧ Value.int .i64 e = .int .i64 e ∧ C5 w ((((w5.setCell ⟨wr.heap.size, 0, none⟩ (.int .i64 m2.k)).setCell ⟨wr.heap.size, 1, none⟩ (.int .i64 m2.q)).setCell ⟨wr.heap.size, 2, none⟩ g5).setCell ⟨wr.heap.size, 3, none⟩ p5) sa bm mb X Z m gv pv k D nv tv ns ts :=
  ⟨⟨_, rfl⟩, rfl, (spo_b h hd hz hm hn hw).c⟩
end
theorem posF_all {acc : List Int} {n : Int} (h : ∀ x ∈ acc, x < n) : posF acc n acc.length = acc.length := by
  rcases hk : acc.length with _ | k
  · rfl
  · have hg : acc[k]? = some (acc[k]'(by omega)) := List.getElem?_eq_getElem _
    have := h _ (List.mem_of_getElem? hg)
    rw [posF, List.getD, hg, if_neg (by simp; omega)]
theorem insR_all {acc : List Int} {n : Int} (h : ∀ x ∈ acc, x < n) : insR acc n = acc ++ [n] := by
  unfold insR
  rw [posF_all h, if_neg, List.take_length, List.drop_length]
  rintro ⟨h0, he⟩
  have hg : acc[acc.length - 1]? = some (acc[acc.length - 1]'(by omega)) := List.getElem?_eq_getElem _
  have := h _ (List.mem_of_getElem? hg)
  rw [List.getD, hg] at he
  simp at he
  omega
theorem ris_foldl : ∀ (l acc : List Int), (acc ++ l).Pairwise (· < ·) → l.foldl insR acc = acc ++ l
  | [], acc, _ => by simp
  | x :: l, acc, h => by
    rw [List.foldl_cons, insR_all (fun y hy => (List.pairwise_append.1 h).2.2 y hy x (List.mem_cons_self ..)), ris_foldl l (acc ++ [x]) (by simpa using h)]
    simp
theorem ris_id {l : List Int} (h : l.Pairwise (· < ·)) : risL l = l := by
  unfold risL
  rw [ris_foldl l [] (by simpa using h)]; rfl
end Go.Proofs.YtanakgbhmmemoaaDoor
