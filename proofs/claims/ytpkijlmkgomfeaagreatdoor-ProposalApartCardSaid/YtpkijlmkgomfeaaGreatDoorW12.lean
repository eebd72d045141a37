import Derived.Test.YtpkijlmkgomfeaaGreatDoorW09
/- proposals: what they come to, in memory; the closures of Apply. -/
namespace Go.Proofs.YtpkijlmkgomfeaaGreatDoor
open Go.RowKit Go.KK Go.Shelf Go.Maps
set_option linter.unusedVariables false
set_option linter.unusedSimpArgs false

def TrV (V : World) (vt : Value) (ts : List TN) : Prop := ∃ A c, vt = .slice A ts.length c ∧ Tr V A ts.length c ts
/-- Rows and a box that have no block in common. -/
structure Ap4 (bo : Nat) (vf vg vp : Value) : Prop where
  f : ∀ b, vf.ownBlock = some b → b ≠ bo ∧ vg.ownBlock ≠ some b ∧ vp.ownBlock ≠ some b
  g : ∀ b, vg.ownBlock = some b → b ≠ bo ∧ vp.ownBlock ≠ some b
  p : ∀ b, vp.ownBlock = some b → b ≠ bo
def ApZ (bo : Nat) (vf vg vp : Value) (b : Nat) : Prop := b ≤ bo ∨ vf.ownBlock = some b ∨ vg.ownBlock = some b ∨ vp.ownBlock = some b
def apO (vt vf vg vp : Value) (x : Int) (hx : Bool) : Obj := .cells #[vt, vf, vg, vp, .int .i64 x, .bool hx] 32 (0, 0)
structure ApV (W0 U : World) (bo : Nat) (a : PA) (vt vf vg vp : Value) : Prop where
  o : U.heap[bo]? = some (apO vt vf vg vp a.x a.hx)
  rf : U.ownsRow W0.heap.size 3 1 vf a.fr.length (a.fr.map (.int .i64))
  rg : U.ownsRow W0.heap.size 3 1 vg a.go.length (a.go.map (.int .i64))
  rp : U.ownsRow W0.heap.size 3 1 vp a.ps.length (a.ps.map (.int .i64))
  s4 : Ap4 bo vf vg vp
  fx : Fx U (ApZ bo vf vg vp) (fun V => TrV V vt a.t)
/-- What the proposals have come to so far. -/
structure ApS (W0 W1 U : World) (bo : Nat) (a : PA) (K : Nat) : Prop where
  bl : Below W0.heap.size W0 U
  kp : ∀ b, b < W1.heap.size → b ≠ bo → U.heap[b]? = W1.heap[b]?
  sz : W0.heap.size ≤ W1.heap.size ∧ W1.heap.size ≤ U.heap.size
  lo : W0.heap.size ≤ bo
  n : a.t.length ≤ 511
  s : shU K a.t
  m : a.fr.length ≤ K ∧ a.go.length ≤ K ∧ a.ps.length ≤ K
  v : ∃ vt vf vg vp, ApV W1 U bo a vt vf vg vp
theorem ap6 {V : World} {bo : Nat} {vt vf vg vp : Value} {x : Int} {hx : Bool} (h : V.heap[bo]? = some (apO vt vf vg vp x hx)) : V.cell? ⟨bo, 0, none⟩ = some vt ∧ V.cell? ⟨bo, 1, none⟩ = some vf ∧ V.cell? ⟨bo, 2, none⟩ = some vg ∧ V.cell? ⟨bo, 3, none⟩ = some vp ∧ V.cell? ⟨bo, 4, none⟩ = some (.int .i64 x) ∧ V.cell? ⟨bo, 5, none⟩ = some (.bool hx) := by
  refine ⟨?_, ?_, ?_, ?_, ?_, ?_⟩ <;> (rw [cell_of_row _ bo _ _ _ (0, 0) h]; rfl)
section
variable {W0 W1 U V V' : World} {bo : Nat} {a : PA} {K K' : Nat} {vt vf vg vp v : Value}
theorem ApV.lt (h : ApV W0 U bo a vt vf vg vp) : bo < U.heap.size := (Array.getElem?_eq_some_iff.1 h.o).1
theorem ApV.zlt (h : ApV W0 U bo a vt vf vg vp) {b : Nat} (hz : ApZ bo vf vg vp b) : b < U.heap.size := by
  rcases hz with e | e | e | e
  · exact Nat.lt_of_le_of_lt e h.lt
  · exact (h.rf.lt b e).2
  · exact (h.rg.lt b e).2
  · exact (h.rp.lt b e).2
theorem ApV.ext (h : ApV W0 U bo a vt vf vg vp) (hb : Below U.heap.size U V) : ApV W0 V bo a vt vf vg vp := by
  obtain ⟨R, r1, r2⟩ := h.fx
  have sz := hb.size
  exact ⟨(hb.block _ h.lt).trans h.o, own_ext h.rf hb, own_ext h.rg hb, own_ext h.rp hb, h.s4, ⟨R, fun b hr => ⟨(r1 b hr).1, Nat.lt_of_lt_of_le (r1 b hr).2 sz⟩, fun V2 hv => r2 V2 fun b hr => (hv b hr).trans (hb.block b (r1 b hr).2)⟩⟩
theorem ApS.ext (h : ApS W0 W1 U bo a K) (hb : Below U.heap.size U V) : ApS W0 W1 V bo a K := by
  obtain ⟨vt, vf, vg, vp, hv⟩ := h.v
  exact ⟨h.bl.trans (hb.mono h.bl.size), fun b hl hn => (hb.block b (Nat.lt_of_lt_of_le hl h.sz.2)).trans (h.kp b hl hn), ⟨h.sz.1, Nat.le_trans h.sz.2 hb.size⟩, h.lo, h.n, h.s, h.m, vt, vf, vg, vp, hv.ext hb⟩
theorem ApS.mono (h : ApS W0 W1 U bo a K) (hk : K ≤ K') : ApS W0 W1 U bo a K' :=
  ⟨h.bl, h.kp, h.sz, h.lo, h.n, h.s.mono hk, ⟨Nat.le_trans h.m.1 hk, Nat.le_trans h.m.2.1 hk, Nat.le_trans h.m.2.2 hk⟩, h.v⟩
/-- A tree that was made behind a world: what it hangs on. -/
theorem OwT.fx {w : World} {base : Nat} {v : Value} {ys : List TN} (h : OwT w base v ys) : ∀ V, (∀ b, base ≤ b → b < w.heap.size → V.heap[b]? = w.heap[b]?) → TrV V v ys := by
  intro V hv
  rcases h with ⟨rfl, rfl⟩ | ⟨g, cap, qs, rfl, ht⟩
  · exact ⟨none, 0, rfl, Tr.nil _⟩
  · have t2 : TrW V base g cap ys qs := by
      refine ⟨own_block ht.row fun b hb => hv b (ht.row.lt b hb).1 (ht.row.lt b hb).2, ht.ql, fun j x q hx hq => ?_, ht.apart⟩
      obtain ⟨h1, h2⟩ := ht.own j x q hx hq
      exact ⟨fun hk => ⟨own_block (h1 hk).1 fun b hb => hv b ((h1 hk).1.lt b hb).1 ((h1 hk).1.lt b hb).2, (h1 hk).2⟩, h2⟩
    exact ⟨_, _, rfl, t2.tr⟩
/-- Another tree. -/
theorem ApS.tree (h : ApS W0 W1 U bo a K) (hb : Below U.heap.size U V) {s : Nat} {ts : List TN} (ht : OwT V s v ts) (hs : U.heap.size ≤ s) (hn : ts.length ≤ 511) (hu : shU K' ts) (hk : K ≤ K') : ApS W0 W1 (V.setCell ⟨bo, 0, none⟩ v) bo { a with t := ts } K' := by
  obtain ⟨vt, vf, vg, vp, hv0⟩ := h.v
  have hv := hv0.ext hb
  have hz : ∀ b, ApZ bo vf vg vp b → b < U.heap.size := fun b hb => hv0.zlt hb
  have turn : ∀ b, b ≠ bo → (V.setCell ⟨bo, 0, none⟩ v).heap[b]? = V.heap[b]? := fun b hne => Below.heap_setCell V ⟨bo, 0, none⟩ v b (fun e => hne (by simpa using e))
  refine ⟨(h.bl.trans (hb.mono h.bl.size)).setCell (p := ⟨bo, 0, none⟩) h.lo v, fun b hl hne => (turn b hne).trans ((hb.block b (Nat.lt_of_lt_of_le hl h.sz.2)).trans (h.kp b hl hne)), ⟨h.sz.1, by simpa [World.setCell] using Nat.le_trans h.sz.2 hb.size⟩, h.lo, hn, hu, ⟨Nat.le_trans h.m.1 hk, Nat.le_trans h.m.2.1 hk, Nat.le_trans h.m.2.2 hk⟩, v, vf, vg, vp, ?_, own_block hv.rf fun b e => turn b (hv.s4.f b e).1, own_block hv.rg fun b e => turn b (hv.s4.g b e).1, own_block hv.rp fun b e => turn b (hv.s4.p b e), hv.s4, ⟨fun b => s ≤ b ∧ b < V.heap.size, fun b hb' => ⟨fun h' => by have := hz b h'; omega, by simpa [World.setCell] using hb'.2⟩, fun V2 h2 => ?_⟩⟩
  · have := hv.o
    unfold apO at this
    rw [heap_setCell_same V bo 0 _ _ _ this]; rfl
  · have hlt := hv0.lt
    exact ht.fx V2 fun b h1 h3 => (h2 b ⟨h1, h3⟩).trans (turn b (by omega))
/-- The extensions are put. -/
theorem ApS.extn (h : ApS W0 W1 U bo a K) (x : Int) : ApS W0 W1 ((U.setCell ⟨bo, 4, none⟩ (.int .i64 x)).setCell ⟨bo, 5, none⟩ (.bool true)) bo { a with x := x, hx := true } K := by
  obtain ⟨vt, vf, vg, vp, hv⟩ := h.v
  have turn : ∀ b, b ≠ bo → ((U.setCell ⟨bo, 4, none⟩ (.int .i64 x)).setCell ⟨bo, 5, none⟩ (.bool true)).heap[b]? = U.heap[b]? := fun b hne =>
    (Below.heap_setCell _ ⟨bo, 5, none⟩ _ b (fun e => hne (by simpa using e))).trans (Below.heap_setCell U ⟨bo, 4, none⟩ _ b (fun e => hne (by simpa using e)))
  obtain ⟨R, r1, r2⟩ := hv.fx
  refine ⟨(h.bl.setCell (p := ⟨bo, 4, none⟩) h.lo _).setCell (p := ⟨bo, 5, none⟩) h.lo _, fun b hl hne => (turn b hne).trans (h.kp b hl hne), ⟨h.sz.1, by simpa [World.setCell] using h.sz.2⟩, h.lo, h.n, h.s, h.m, vt, vf, vg, vp, ?_, own_block hv.rf fun b e => turn b (hv.s4.f b e).1, own_block hv.rg fun b e => turn b (hv.s4.g b e).1, own_block hv.rp fun b e => turn b (hv.s4.p b e), hv.s4, ⟨R, fun b hb' => ⟨(r1 b hb').1, by simpa [World.setCell] using (r1 b hb').2⟩, fun V2 h2 => r2 V2 fun b hr => (h2 b hr).trans (turn b fun e => (r1 b hr).1 (.inl (Nat.le_of_eq e)))⟩⟩
  have := hv.o
  unfold apO at this
  rw [heap_setCell_same _ bo 5 _ _ _ (by rw [heap_setCell_same U bo 4 _ _ _ this])]; rfl
/-- A number more in the row fr. -/
theorem ApV.app1 (h : ApS W0 W1 U bo a K) (hv : ApV W1 U bo a vt vf vg vp) {i : Int} (hn : V.ownsRow W1.heap.size 3 1 v (a.fr.length + 1) ((a.fr ++ [i]).map (.int .i64))) (hg : U.grownBy V vf.ownBlock) (hl : v.ownBlock = vf.ownBlock ∨ v.ownBlock = some U.heap.size) : ApS W0 W1 (V.setCell ⟨bo, 1, none⟩ v) bo { a with fr := a.fr ++ [i] } (K + 9) := by
  have hlt := hv.lt
  have turn : ∀ b, b ≠ bo → (V.setCell ⟨bo, 1, none⟩ v).heap[b]? = V.heap[b]? := fun b hne => Below.heap_setCell V ⟨bo, 1, none⟩ v b (fun e => hne (by simpa using e))
  have old : ∀ b, b < U.heap.size → vf.ownBlock ≠ some b → V.heap[b]? = U.heap[b]? := fun b hb hne => hg.block b hb fun e => hne (by rw [e])
  have new : ∀ b, v.ownBlock = some b → vf.ownBlock = some b ∨ b = U.heap.size := fun b hb => by
    rcases hl with hl | hl
    · exact .inl (hl ▸ hb)
    · rw [hl] at hb; injection hb with hb; exact .inr hb.symm
  have hbV : Below W0.heap.size W0 V := h.bl.grown hg h.bl.size fun b hb => Nat.le_trans h.sz.1 (hv.rf.lt b hb).1
  obtain ⟨R, r1, r2⟩ := hv.fx
  refine ⟨hbV.setCell (p := ⟨bo, 1, none⟩) h.lo v, fun b hl hne => (turn b hne).trans ((old b (Nat.lt_of_lt_of_le hl h.sz.2) fun e => by have := (hv.rf.lt b e).1; omega).trans (h.kp b hl hne)), ⟨h.sz.1, by simpa [World.setCell] using Nat.le_trans h.sz.2 hg.size⟩, h.lo, h.n, h.s.mono (by omega), ⟨?_, ?_, ?_⟩, vt, v, vg, vp, ?_, ?_, ?_, ?_, ⟨?_, ?_, ?_⟩, ⟨R, fun b hr => ⟨?_, ?_⟩, fun V2 h2 => r2 V2 fun b hr => ?_⟩⟩
  · rw [List.length_append, List.length_singleton]; have := h.m.1; omega
  · have := h.m.2.1; exact Nat.le_trans this (by omega)
  · have := h.m.2.2; exact Nat.le_trans this (by omega)
  · have ho : V.heap[bo]? = some (apO vt vf vg vp a.x a.hx) := (old bo hlt fun e => (hv.s4.f bo e).1 rfl).trans hv.o
    unfold apO at ho
    rw [heap_setCell_same V bo 1 _ _ _ ho]; rfl
  · rw [List.length_append]; exact own_block hn fun b e => turn b ((new b e).elim (fun e => (hv.s4.f b e).1) fun e => by omega)
  · exact own_block hv.rg fun b e => (turn b ((hv.s4.g b e).1)).trans (old b (hv.rg.lt b e).2 (fun e2 => (hv.s4.f b e2).2.1 e))
  · exact own_block hv.rp fun b e => (turn b (hv.s4.p b e)).trans (old b (hv.rp.lt b e).2 (fun e2 => (hv.s4.f b e2).2.2 e))
  · exact fun b e1 => ⟨(new b e1).elim (fun e => (hv.s4.f b e).1) fun e3 => by omega, (new b e1).elim (fun e => (hv.s4.f b e).2.1) fun e3 => fun e2 => by have := (hv.rg.lt b e2).2; omega, (new b e1).elim (fun e => (hv.s4.f b e).2.2) fun e3 => fun e2 => by have := (hv.rp.lt b e2).2; omega⟩
  · exact fun b e => ⟨(hv.s4.g b e).1, (hv.s4.g b e).2⟩
  · exact fun b e => hv.s4.p b e
  · have hz := (r1 b hr).1
    have hb := (r1 b hr).2
    rintro (e | e | e | e)
    · exact hz (.inl e)
    · exact (new b e).elim (fun e => hz (.inr (.inl e))) fun e => by omega
    · exact hz (.inr (.inr (.inl e)))
    · exact hz (.inr (.inr (.inr e)))
  · have := (r1 b hr).2
    have := hg.size
    simp [World.setCell]; omega
  · have hz := (r1 b hr).1
    exact ((h2 b hr).trans (turn b fun e => hz (.inl (Nat.le_of_eq e)))).trans (old b (r1 b hr).2 fun e => hz (.inr (.inl e)))
/-- A number more in the row go. -/
theorem ApV.app2 (h : ApS W0 W1 U bo a K) (hv : ApV W1 U bo a vt vf vg vp) {i : Int} (hn : V.ownsRow W1.heap.size 3 1 v (a.go.length + 1) ((a.go ++ [i]).map (.int .i64))) (hg : U.grownBy V vg.ownBlock) (hl : v.ownBlock = vg.ownBlock ∨ v.ownBlock = some U.heap.size) : ApS W0 W1 (V.setCell ⟨bo, 2, none⟩ v) bo { a with go := a.go ++ [i] } (K + 9) := by
  have hlt := hv.lt
  have turn : ∀ b, b ≠ bo → (V.setCell ⟨bo, 2, none⟩ v).heap[b]? = V.heap[b]? := fun b hne => Below.heap_setCell V ⟨bo, 2, none⟩ v b (fun e => hne (by simpa using e))
  have old : ∀ b, b < U.heap.size → vg.ownBlock ≠ some b → V.heap[b]? = U.heap[b]? := fun b hb hne => hg.block b hb fun e => hne (by rw [e])
  have new : ∀ b, v.ownBlock = some b → vg.ownBlock = some b ∨ b = U.heap.size := fun b hb => by
    rcases hl with hl | hl
    · exact .inl (hl ▸ hb)
    · rw [hl] at hb; injection hb with hb; exact .inr hb.symm
  have hbV : Below W0.heap.size W0 V := h.bl.grown hg h.bl.size fun b hb => Nat.le_trans h.sz.1 (hv.rg.lt b hb).1
  obtain ⟨R, r1, r2⟩ := hv.fx
  refine ⟨hbV.setCell (p := ⟨bo, 2, none⟩) h.lo v, fun b hl hne => (turn b hne).trans ((old b (Nat.lt_of_lt_of_le hl h.sz.2) fun e => by have := (hv.rg.lt b e).1; omega).trans (h.kp b hl hne)), ⟨h.sz.1, by simpa [World.setCell] using Nat.le_trans h.sz.2 hg.size⟩, h.lo, h.n, h.s.mono (by omega), ⟨?_, ?_, ?_⟩, vt, vf, v, vp, ?_, ?_, ?_, ?_, ⟨?_, ?_, ?_⟩, ⟨R, fun b hr => ⟨?_, ?_⟩, fun V2 h2 => r2 V2 fun b hr => ?_⟩⟩
  · have := h.m.1; exact Nat.le_trans this (by omega)
  · rw [List.length_append, List.length_singleton]; have := h.m.2.1; omega
  · have := h.m.2.2; exact Nat.le_trans this (by omega)
  · have ho : V.heap[bo]? = some (apO vt vf vg vp a.x a.hx) := (old bo hlt fun e => (hv.s4.g bo e).1 rfl).trans hv.o
    unfold apO at ho
    rw [heap_setCell_same V bo 2 _ _ _ ho]; rfl
  · exact own_block hv.rf fun b e => (turn b ((hv.s4.f b e).1)).trans (old b (hv.rf.lt b e).2 ((hv.s4.f b e).2.1))
  · rw [List.length_append]; exact own_block hn fun b e => turn b ((new b e).elim (fun e => (hv.s4.g b e).1) fun e => by omega)
  · exact own_block hv.rp fun b e => (turn b (hv.s4.p b e)).trans (old b (hv.rp.lt b e).2 (fun e2 => (hv.s4.g b e2).2 e))
  · exact fun b e => ⟨(hv.s4.f b e).1, fun e2 => (new b e2).elim ((hv.s4.f b e).2.1) fun e3 => by have := (hv.rf.lt b e).2; omega, (hv.s4.f b e).2.2⟩
  · exact fun b e1 => ⟨(new b e1).elim (fun e => (hv.s4.g b e).1) fun e3 => by omega, (new b e1).elim (fun e => (hv.s4.g b e).2) fun e3 => fun e2 => by have := (hv.rp.lt b e2).2; omega⟩
  · exact fun b e => hv.s4.p b e
  · have hz := (r1 b hr).1
    have hb := (r1 b hr).2
    rintro (e | e | e | e)
    · exact hz (.inl e)
    · exact hz (.inr (.inl e))
    · exact (new b e).elim (fun e => hz (.inr (.inr (.inl e)))) fun e => by omega
    · exact hz (.inr (.inr (.inr e)))
  · have := (r1 b hr).2
    have := hg.size
    simp [World.setCell]; omega
  · have hz := (r1 b hr).1
    exact ((h2 b hr).trans (turn b fun e => hz (.inl (Nat.le_of_eq e)))).trans (old b (r1 b hr).2 fun e => hz (.inr (.inr (.inl e))))
/-- A number more in the row ps. -/
theorem ApV.app3 (h : ApS W0 W1 U bo a K) (hv : ApV W1 U bo a vt vf vg vp) {i : Int} (hn : V.ownsRow W1.heap.size 3 1 v (a.ps.length + 1) ((a.ps ++ [i]).map (.int .i64))) (hg : U.grownBy V vp.ownBlock) (hl : v.ownBlock = vp.ownBlock ∨ v.ownBlock = some U.heap.size) : ApS W0 W1 (V.setCell ⟨bo, 3, none⟩ v) bo { a with ps := a.ps ++ [i] } (K + 9) := by
  have hlt := hv.lt
  have turn : ∀ b, b ≠ bo → (V.setCell ⟨bo, 3, none⟩ v).heap[b]? = V.heap[b]? := fun b hne => Below.heap_setCell V ⟨bo, 3, none⟩ v b (fun e => hne (by simpa using e))
  have old : ∀ b, b < U.heap.size → vp.ownBlock ≠ some b → V.heap[b]? = U.heap[b]? := fun b hb hne => hg.block b hb fun e => hne (by rw [e])
  have new : ∀ b, v.ownBlock = some b → vp.ownBlock = some b ∨ b = U.heap.size := fun b hb => by
    rcases hl with hl | hl
    · exact .inl (hl ▸ hb)
    · rw [hl] at hb; injection hb with hb; exact .inr hb.symm
  have hbV : Below W0.heap.size W0 V := h.bl.grown hg h.bl.size fun b hb => Nat.le_trans h.sz.1 (hv.rp.lt b hb).1
  obtain ⟨R, r1, r2⟩ := hv.fx
  refine ⟨hbV.setCell (p := ⟨bo, 3, none⟩) h.lo v, fun b hl hne => (turn b hne).trans ((old b (Nat.lt_of_lt_of_le hl h.sz.2) fun e => by have := (hv.rp.lt b e).1; omega).trans (h.kp b hl hne)), ⟨h.sz.1, by simpa [World.setCell] using Nat.le_trans h.sz.2 hg.size⟩, h.lo, h.n, h.s.mono (by omega), ⟨?_, ?_, ?_⟩, vt, vf, vg, v, ?_, ?_, ?_, ?_, ⟨?_, ?_, ?_⟩, ⟨R, fun b hr => ⟨?_, ?_⟩, fun V2 h2 => r2 V2 fun b hr => ?_⟩⟩
  · have := h.m.1; exact Nat.le_trans this (by omega)
  · have := h.m.2.1; exact Nat.le_trans this (by omega)
  · rw [List.length_append, List.length_singleton]; have := h.m.2.2; omega
  · have ho : V.heap[bo]? = some (apO vt vf vg vp a.x a.hx) := (old bo hlt fun e => hv.s4.p bo e rfl).trans hv.o
    unfold apO at ho
    rw [heap_setCell_same V bo 3 _ _ _ ho]; rfl
  · exact own_block hv.rf fun b e => (turn b ((hv.s4.f b e).1)).trans (old b (hv.rf.lt b e).2 ((hv.s4.f b e).2.2))
  · exact own_block hv.rg fun b e => (turn b ((hv.s4.g b e).1)).trans (old b (hv.rg.lt b e).2 ((hv.s4.g b e).2))
  · rw [List.length_append]; exact own_block hn fun b e => turn b ((new b e).elim (fun e => hv.s4.p b e) fun e => by omega)
  · exact fun b e => ⟨(hv.s4.f b e).1, (hv.s4.f b e).2.1, fun e2 => (new b e2).elim ((hv.s4.f b e).2.2) fun e3 => by have := (hv.rf.lt b e).2; omega⟩
  · exact fun b e => ⟨(hv.s4.g b e).1, fun e2 => (new b e2).elim ((hv.s4.g b e).2) fun e3 => by have := (hv.rg.lt b e).2; omega⟩
  · exact fun b e1 => (new b e1).elim (fun e => hv.s4.p b e) fun e3 => by omega
  · have hz := (r1 b hr).1
    have hb := (r1 b hr).2
    rintro (e | e | e | e)
    · exact hz (.inl e)
    · exact hz (.inr (.inl e))
    · exact hz (.inr (.inr (.inl e)))
    · exact (new b e).elim (fun e => hz (.inr (.inr (.inr e)))) fun e => by omega
  · have := (r1 b hr).2
    have := hg.size
    simp [World.setCell]; omega
  · have hz := (r1 b hr).1
    exact ((h2 b hr).trans (turn b fun e => hz (.inl (Nat.le_of_eq e)))).trans (old b (r1 b hr).2 fun e => hz (.inr (.inr (.inr e))))
end
section
variable {W0 W1 U : World} {bo : Nat} {a : PA} {K : Nat} {p : PR} {Ap : Option Addr} {cp : Nat}
set_option maxHeartbeats 4000000 in
set_option maxRecDepth 100000 in
/-- A leaf is put. -/
theorem ap2_any (h : ApS W0 W1 U bo a K) (hK : K ≤ 90000) (hT : ∀ V, Below W0.heap.size W0 V → Tab V) (hc : cp ≤ maxLen) :
    Calls Tryz.prog 44 #[prV p (.slice Ap p.n.u.length cp), .pointer (some ⟨bo, 0, none⟩)] U fun e w' => e = .returned (.int .i64 (paDo 2 a p).2) ∧ ApS W0 W1 w' bo (paDo 2 a p).1 (K + 18) := by
  have HPD := hid (show paDo 2 a p = ({ a with t := up2T a.t p.f p.n }, up2E a.t p.f p.n) from if_pos rfl)
  rw [HPD.out]
  dsimp only
  have H := hid h; have HT := hid hT
  have b1 : Below U.heap.size U (U.alloc (prO p (.slice Ap p.n.u.length cp))) := (Below.refl _ _).alloc (Nat.le_refl _) _
  have HP := hid (And.intro b1 (heap_alloc_new U (prO p (.slice Ap p.n.u.length cp))))
  obtain ⟨ts, hts⟩ : ∃ ts, ts = up2T a.t p.f p.n := ⟨_, rfl⟩
  obtain ⟨er, her⟩ : ∃ er, er = up2E a.t p.f p.n := ⟨_, rfl⟩
  have HTS := hid hts.symm; have HER := hid her.symm
  rw [← hts, ← her]
  clear h hT b1 HPD hts her
  unfold prV
  unfold prO at HP
  go_enter Tryz.func44, Tryz.ntmps44
  go_upto_region 1 with fail
  obtain ⟨bx, hbx⟩ : ∃ bx, bx = U.heap.size := ⟨_, rfl⟩
  rw [← hbx] at HP ⊢
  refine forget (R := fun V => Below bx U V ∧ V.heap[bx]? = some (prO p (.slice Ap p.n.u.length cp))) ?_ HP.out
  clear HP
  rintro V ⟨bv, hx⟩
  rw [hbx] at bv
  have HV := hid (H.out.ext bv)
  obtain ⟨x0, x1, x2, x3, x4, x5, x6, x7, x8, x9⟩ := prA10 hx
  clear bv hx hbx
  obtain ⟨vt, vf, vg, vp, hv⟩ := HV.out.v
  obtain ⟨A, c, rfl, htr⟩ := hv.fx.here
  obtain ⟨k0, -⟩ := ap6 hv.o
  have HU := hid (up2_any A a.t.length c a.t p.f p.n Ap cp V htr (by have := HV.out.n; omega) HV.out.s (by omega) (HT.out V HV.out.bl) hc)
  have HO := hid hv.o
  have HOK := hid (up2T_ok (i := p.f) (l := p.n) HV.out.s)
  have HN := hid HV.out.n
  clear htr hv
  unfold Up2S at HU
  rw [HTS.out, HER.out] at HU
  rw [HTS.out] at HOK
  go_wp2_with fail
  refine HU.out.mono ?_
  rintro e w2 ⟨v, rfl, ot, b2⟩
  have HF := hid ((HV.out.tree b2 ot (Nat.le_refl _) (by have := HOK.out.1; have := HN.out; omega) HOK.out.2 (by omega)).mono (K' := K + 18) (by omega))
  have ho2 := (b2.block bo (Array.getElem?_eq_some_iff.1 HO.out).1).trans HO.out
  obtain ⟨y0, -⟩ := ap6 ho2
  have f0 := frozen_of_row w2 bo 0 _ _ ho2
  obtain ⟨A2, c2, rfl, -⟩ := ot.shape
  clear ot b2 ho2 HU
  go_wp2_with fail
  go_ret
  exact ⟨rfl, HF.out⟩
set_option maxHeartbeats 4000000 in
set_option maxRecDepth 100000 in
/-- A leaf goes. -/
theorem ap3_any (h : ApS W0 W1 U bo a K) (hK : K ≤ 90000) (hT : ∀ V, Below W0.heap.size W0 V → Tab V) (hc : cp ≤ maxLen) :
    Calls Tryz.prog 46 #[prV p (.slice Ap p.n.u.length cp), .pointer (some ⟨bo, 0, none⟩)] U fun e w' => e = .returned (.int .i64 (paDo 3 a p).2) ∧ ApS W0 W1 w' bo (paDo 3 a p).1 (K + 18) := by
  have HPD := hid (show paDo 3 a p = ({ a with t := rm2T a.t p.a, go := a.go ++ [p.a] }, rm2E a.t p.a) from by unfold paDo; rw [if_neg (by decide), if_pos rfl])
  rw [HPD.out]
  dsimp only
  have H := hid h; have HT := hid hT
  have b1 : Below U.heap.size U (U.alloc (prO p (.slice Ap p.n.u.length cp))) := (Below.refl _ _).alloc (Nat.le_refl _) _
  have HP := hid (And.intro b1 (heap_alloc_new U (prO p (.slice Ap p.n.u.length cp))))
  obtain ⟨ts, hts⟩ : ∃ ts, ts = rm2T a.t p.a := ⟨_, rfl⟩
  obtain ⟨er, her⟩ : ∃ er, er = rm2E a.t p.a := ⟨_, rfl⟩
  have HTS := hid hts.symm; have HER := hid her.symm
  rw [← hts, ← her]
  clear hts her
  clear h hT b1 HPD
  obtain ⟨i0, hii, hz0, hz1, hz2⟩ := info_parts Tryz.infoInt
  unfold prV
  unfold prO at HP
  go_enter Tryz.func46, Tryz.ntmps46
  go_upto_region 1 with fail
  obtain ⟨bx, hbx⟩ : ∃ bx, bx = U.heap.size := ⟨_, rfl⟩
  rw [← hbx] at HP ⊢
  refine forget (R := fun V => Below bx U V ∧ V.heap[bx]? = some (prO p (.slice Ap p.n.u.length cp))) ?_ HP.out
  clear HP
  rintro V ⟨bv, hx⟩
  rw [hbx] at bv
  have HV := hid (H.out.ext bv)
  have HBX := hid hx
  obtain ⟨x0, x1, x2, x3, x4, x5, x6, x7, x8, x9⟩ := prA10 hx
  obtain ⟨vt, vf, vg, vp, hv0⟩ := H.out.v
  have HLT := hid (fun (b : Nat) (hz : ApZ bo vf vg vp b) => (show b < bx from by rw [hbx]; exact hv0.zlt hz))
  have hv := hv0.ext bv
  clear bv hx hbx hv0 H
  obtain ⟨Ag, cg, rfl, -⟩ := SlA.owned hv.rg
  have HW := hid (hv.ext ((Below.refl V.heap.size V).alloc (Nat.le_refl _) (.cells #[.int .i64 p.a] 3)))
  have HSW := hid (HV.out.ext ((Below.refl V.heap.size V).alloc (Nat.le_refl _) (.cells #[.int .i64 p.a] 3)))
  obtain ⟨k0, k1, k2, k3, k4, k5⟩ := ap6 hv.o
  have HML := hid (show a.go.length ≤ 100000 from by have := HV.out.m; (try dsimp only at this); omega)
  have HSZ := hid (show W1.heap.size ≤ (V.alloc (.cells #[.int .i64 p.a] 3)).heap.size from HSW.out.sz.2)
  obtain ⟨gl, hgl⟩ : ∃ gl, gl = a.go.length := ⟨_, rfl⟩
  have HGL := hid hgl
  try dsimp only at k0 k1 k2 k3 ⊢
  rw [← hgl] at HML k2
  clear hv hgl
  go_upto_region 2 with (first
    | (at_builtin; refine wpList_append_sl _ rfl _ _ 30 rfl W1.heap.size 3 i0 (.int .i64 0) 1 8 Tryz.underlying30 hii hz0 hz1 hz2 rfl (by decide) (.slice Ag gl cg) gl (a.go.map (.int .i64)) rfl (by rw [HGL.out]; exact HW.out.rg) _ 1 1 [.int .i64 p.a] rfl (SlA.lit1 _) (one_int _ _) (by have := HML.out; unfold maxLen; omega) (by have := HML.out; omega) HSZ.out ?_; intro v8 w8 own8 gr8 loc8; have T8 := hid (ApV.app2 HSW.out HW.out (i := p.a) (by rw [← HGL.out, List.map_append]; exact own8) (by rw [HGL.out] at gr8; exact gr8) (by rw [HGL.out] at loc8; exact loc8)); have HO8 := hid ((gr8.block bo HW.out.lt (fun e => (HW.out.s4.g bo (by rw [HGL.out] at e; exact e.symm)).1 rfl)).trans HW.out.o); have HX8 := hid ((gr8.block bx (Nat.lt_of_lt_of_le (Array.getElem?_eq_some_iff.1 HBX.out).1 (by simp)) (fun e => by have := HLT.out bx (.inr (.inr (.inl (by rw [HGL.out] at e; exact e.symm)))); omega)).trans ((heap_alloc_old _ _ (Array.getElem?_eq_some_iff.1 HBX.out).1).trans HBX.out)); obtain ⟨y0, y1, y2, y3, y4, y5⟩ := ap6 HO8.out; have f8 := frozen_of_row w8 bo 2 _ _ HO8.out; obtain ⟨A8, c8, rfl, -⟩ := SlA.owned own8; clear own8 gr8 loc8))
  have HR8 := hid (show ApS W0 W1 (w8.setCell ⟨bo, 2, none⟩ (.slice A8 (gl + 1) c8)) bo { a with go := a.go ++ [p.a] } (K + 9) ∧ (w8.setCell ⟨bo, 2, none⟩ (.slice A8 (gl + 1) c8)).heap[bx]? = some (prO p (.slice Ap p.n.u.length cp)) from
    ⟨T8.out, (Below.heap_setCell w8 ⟨bo, 2, none⟩ _ bx (fun e => (show bx ≠ bo from by have := HLT.out bo (.inl (Nat.le_refl _)); omega) (by simpa using e))).trans HX8.out⟩)
  refine forget (R := fun V => ApS W0 W1 V bo { a with go := a.go ++ [p.a] } (K + 9) ∧ V.heap[bx]? = some (prO p (.slice Ap p.n.u.length cp))) ?_ HR8.out
  clear HR8 T8 HO8 HX8 y0 y1 y2 y3 y4 y5 f8 HW HSW HV HBX HLT HSZ k0 k1 k2 k3 k4 k5 x0 x1 x2 x3 x4 x5 x6 x7 x8 x9
  rintro V2 ⟨h2, hx⟩
  have HV := hid h2
  obtain ⟨x0, x1, x2, x3, x4, x5, x6, x7, x8, x9⟩ := prA10 hx
  obtain ⟨vt2, vf2, vg2, vp2, hv⟩ := h2.v
  obtain ⟨A, c, rfl, htr⟩ := hv.fx.here
  obtain ⟨k0, -⟩ := ap6 hv.o
  have HU := hid (rm2_any A a.t.length c a.t p.a V2 htr (by have := HV.out.n; dsimp only at this; omega) HV.out.s (by omega) (HT.out V2 HV.out.bl))
  have HO := hid hv.o
  have HOK := hid (rm2T_ok (i := p.a) HV.out.s)
  have HN := hid HV.out.n
  clear htr hv h2 hx
  unfold Rm2S at HU
  dsimp only at HOK HN
  rw [HTS.out, HER.out] at HU
  rw [HTS.out] at HOK
  go_wp2_with fail
  refine HU.out.mono ?_
  rintro e w2 ⟨v, rfl, ot, b2⟩
  have HF := hid (HV.out.tree b2 ot (Nat.le_refl _) (by have := HOK.out.1; have := HN.out; omega) HOK.out.2 (by omega))
  have ho2 := (b2.block bo (Array.getElem?_eq_some_iff.1 HO.out).1).trans HO.out
  obtain ⟨y0, -⟩ := ap6 ho2
  have f0 := frozen_of_row w2 bo 0 _ _ ho2
  obtain ⟨A2, c2, rfl, -⟩ := ot.shape
  clear ot b2 ho2 HU
  go_wp2_with fail
  go_ret
  exact ⟨rfl, HF.out⟩
set_option maxHeartbeats 4000000 in
set_option maxRecDepth 100000 in
/-- A leaf comes in. -/
theorem ap4_any (h : ApS W0 W1 U bo a K) (hK : K ≤ 90000) (hT : ∀ V, Below W0.heap.size W0 V → Tab V) (hc : cp ≤ maxLen) :
    Calls Tryz.prog 48 #[prV p (.slice Ap p.n.u.length cp), .pointer (some ⟨bo, 0, none⟩)] U fun e w' => e = .returned (.int .i64 (paDo 1 a p).2) ∧ ApS W0 W1 w' bo (paDo 1 a p).1 (K + 18) := by
  have HPD := hid (show paDo 1 a p = ({ a with t := ad2T a.t p.n, fr := a.fr ++ [ad2I a.t p.n] }, ad2E a.t p.n) from by unfold paDo; rw [if_neg (by decide), if_neg (by decide), if_pos rfl])
  rw [HPD.out]
  dsimp only
  have H := hid h; have HT := hid hT
  have b1 : Below U.heap.size U (U.alloc (prO p (.slice Ap p.n.u.length cp))) := (Below.refl _ _).alloc (Nat.le_refl _) _
  have HP := hid (And.intro b1 (heap_alloc_new U (prO p (.slice Ap p.n.u.length cp))))
  obtain ⟨ts, hts⟩ : ∃ ts, ts = ad2T a.t p.n := ⟨_, rfl⟩
  obtain ⟨er, her⟩ : ∃ er, er = ad2E a.t p.n := ⟨_, rfl⟩
  obtain ⟨ai, hai⟩ : ∃ ai, ai = ad2I a.t p.n := ⟨_, rfl⟩
  have HTS := hid hts.symm; have HER := hid her.symm; have HAI := hid hai.symm
  rw [← hts, ← her, ← hai]
  clear hts her hai
  clear h hT b1 HPD
  obtain ⟨i0, hii, hz0, hz1, hz2⟩ := info_parts Tryz.infoInt
  unfold prV
  unfold prO at HP
  go_enter Tryz.func48, Tryz.ntmps48
  go_upto_region 2 with fail
  obtain ⟨bx, hbx⟩ : ∃ bx, bx = U.heap.size := ⟨_, rfl⟩
  rw [← hbx] at HP ⊢
  refine forget (R := fun V => Below bx U V ∧ V.heap[bx]? = some (prO p (.slice Ap p.n.u.length cp))) ?_ HP.out
  clear HP
  rintro V ⟨bv, hx⟩
  rw [hbx] at bv
  have HV := hid (H.out.ext bv)
  have HBX := hid hx
  obtain ⟨x0, x1, x2, x3, x4, x5, x6, x7, x8, x9⟩ := prA10 hx
  obtain ⟨vt, vf, vg, vp, hv0⟩ := H.out.v
  have HLT := hid (fun (b : Nat) (hz : ApZ bo vf vg vp b) => (show b < bx from by rw [hbx]; exact hv0.zlt hz))
  have hv := hv0.ext bv
  clear bv hx hbx hv0 H
  obtain ⟨A, c, rfl, htr⟩ := hv.fx.here
  obtain ⟨k0, -⟩ := ap6 hv.o
  have HU := hid (ad2_any A a.t.length c a.t p.n Ap cp V htr (by have := HV.out.n; omega) HV.out.s (by omega) (HT.out V HV.out.bl) hc)
  have HO := hid hv.o
  have HOK := hid (ad2T_ok (l := p.n) HV.out.s)
  clear htr hv HLT
  unfold Ad2S at HU
  rw [HTS.out, HER.out, HAI.out] at HU
  rw [HTS.out] at HOK
  go_wp2_with fail
  refine HU.out.mono ?_
  rintro e w2 ⟨v, rfl, ot, b2⟩
  have HF := hid (HV.out.tree b2 ot (Nat.le_refl _) (by have := HOK.out.1; omega) HOK.out.2 (by omega))
  have ho2 := (b2.block bo (Array.getElem?_eq_some_iff.1 HO.out).1).trans HO.out
  obtain ⟨y0, -⟩ := ap6 ho2
  have f0 := frozen_of_row w2 bo 0 _ _ ho2
  obtain ⟨A2, c2, rfl, -⟩ := ot.shape
  clear ot b2 ho2 HU
  go_upto_region 3 with fail
  refine forget (R := fun V => ApS W0 W1 V bo { a with t := ts } (K + 9)) ?_ HF.out
  clear HF HV HBX y0 f0 k0 x0 x1 x2 x3 x4 x5 x6 x7 x8 x9 HO
  intro V2 hv2
  have HV := hid hv2
  obtain ⟨vt2, vf2, vg2, vp2, hv⟩ := hv2.v
  clear hv2
  obtain ⟨Ag, cg, rfl, -⟩ := SlA.owned hv.rf
  have HW := hid (hv.ext ((Below.refl V2.heap.size V2).alloc (Nat.le_refl _) (.cells #[.int .i64 ai] 3)))
  have HSW := hid (HV.out.ext ((Below.refl V2.heap.size V2).alloc (Nat.le_refl _) (.cells #[.int .i64 ai] 3)))
  obtain ⟨k0, k1, k2, k3, k4, k5⟩ := ap6 hv.o
  have HML := hid (show a.fr.length ≤ 100000 from by have := HV.out.m; (try dsimp only at this); omega)
  have HSZ := hid (show W1.heap.size ≤ (V2.alloc (.cells #[.int .i64 ai] 3)).heap.size from HSW.out.sz.2)
  obtain ⟨gl, hgl⟩ : ∃ gl, gl = a.fr.length := ⟨_, rfl⟩
  have HGL := hid hgl
  try dsimp only at k0 k1 k2 k3 ⊢
  rw [← hgl] at HML k1
  clear hv hgl
  go_upto_region 4 with (first
    | (at_builtin; refine wpList_append_sl _ rfl _ _ 30 rfl W1.heap.size 3 i0 (.int .i64 0) 1 8 Tryz.underlying30 hii hz0 hz1 hz2 rfl (by decide) (.slice Ag gl cg) gl (a.fr.map (.int .i64)) rfl (by rw [HGL.out]; exact HW.out.rf) _ 1 1 [.int .i64 ai] rfl (SlA.lit1 _) (one_int _ _) (by have := HML.out; unfold maxLen; omega) (by have := HML.out; omega) HSZ.out ?_; intro v8 w8 own8 gr8 loc8; have T8 := hid (ApV.app1 (a := { a with t := ts }) HSW.out HW.out (i := ai) (by rw [← HGL.out, List.map_append]; exact own8) (by rw [HGL.out] at gr8; exact gr8) (by rw [HGL.out] at loc8; exact loc8)); have HO8 := hid ((gr8.block bo HW.out.lt (fun e => (HW.out.s4.f bo (by rw [HGL.out] at e; exact e.symm)).1 rfl)).trans HW.out.o); obtain ⟨y0, y1, y2, y3, y4, y5⟩ := ap6 HO8.out; have f8 := frozen_of_row w8 bo 1 _ _ HO8.out; obtain ⟨A8, c8, rfl, -⟩ := SlA.owned own8; clear own8 gr8 loc8))
  clear HO8 HW HSW HV HSZ k0 k1 k2 k3 k4 k5
  go_wp2_with fail
  go_ret
  exact ⟨rfl, T8.out⟩
set_option maxHeartbeats 4000000 in
set_option maxRecDepth 100000 in
/-- A shared secret. -/
theorem ap5_any (h : ApS W0 W1 U bo a K) (hK : K ≤ 90000) (hT : ∀ V, Below W0.heap.size W0 V → Tab V) (hc : cp ≤ maxLen) :
    Calls Tryz.prog 50 #[prV p (.slice Ap p.n.u.length cp), .pointer (some ⟨bo, 0, none⟩)] U fun e w' => e = .returned (.int .i64 (paDo 4 a p).2) ∧ ApS W0 W1 w' bo (paDo 4 a p).1 (K + 18) := by
  have HPD := hid (show paDo 4 a p = ({ a with ps := a.ps ++ [p.t] }, 0) from by unfold paDo; rw [if_neg (by decide), if_neg (by decide), if_neg (by decide), if_pos rfl])
  rw [HPD.out]
  dsimp only
  have H := hid h; have HT := hid hT
  have b1 : Below U.heap.size U (U.alloc (prO p (.slice Ap p.n.u.length cp))) := (Below.refl _ _).alloc (Nat.le_refl _) _
  have HP := hid (And.intro b1 (heap_alloc_new U (prO p (.slice Ap p.n.u.length cp))))
  clear h hT b1 HPD
  obtain ⟨i0, hii, hz0, hz1, hz2⟩ := info_parts Tryz.infoInt
  unfold prV
  unfold prO at HP
  go_enter Tryz.func50, Tryz.ntmps50
  go_upto_region 1 with fail
  obtain ⟨bx, hbx⟩ : ∃ bx, bx = U.heap.size := ⟨_, rfl⟩
  rw [← hbx] at HP ⊢
  refine forget (R := fun V => Below bx U V ∧ V.heap[bx]? = some (prO p (.slice Ap p.n.u.length cp))) ?_ HP.out
  clear HP
  rintro V ⟨bv, hx⟩
  rw [hbx] at bv
  have HV := hid (H.out.ext bv)
  have HBX := hid hx
  obtain ⟨x0, x1, x2, x3, x4, x5, x6, x7, x8, x9⟩ := prA10 hx
  obtain ⟨vt, vf, vg, vp, hv0⟩ := H.out.v
  have HLT := hid (fun (b : Nat) (hz : ApZ bo vf vg vp b) => (show b < bx from by rw [hbx]; exact hv0.zlt hz))
  have hv := hv0.ext bv
  clear bv hx hbx hv0 H
  obtain ⟨Ag, cg, rfl, -⟩ := SlA.owned hv.rp
  have HW := hid (hv.ext ((Below.refl V.heap.size V).alloc (Nat.le_refl _) (.cells #[.int .i64 p.t] 3)))
  have HSW := hid (HV.out.ext ((Below.refl V.heap.size V).alloc (Nat.le_refl _) (.cells #[.int .i64 p.t] 3)))
  obtain ⟨k0, k1, k2, k3, k4, k5⟩ := ap6 hv.o
  have HML := hid (show a.ps.length ≤ 100000 from by have := HV.out.m; (try dsimp only at this); omega)
  have HSZ := hid (show W1.heap.size ≤ (V.alloc (.cells #[.int .i64 p.t] 3)).heap.size from HSW.out.sz.2)
  obtain ⟨gl, hgl⟩ : ∃ gl, gl = a.ps.length := ⟨_, rfl⟩
  have HGL := hid hgl
  try dsimp only at k0 k1 k2 k3 ⊢
  rw [← hgl] at HML k3
  clear hv hgl
  go_upto_region 2 with (first
    | (at_builtin; refine wpList_append_sl _ rfl _ _ 30 rfl W1.heap.size 3 i0 (.int .i64 0) 1 8 Tryz.underlying30 hii hz0 hz1 hz2 rfl (by decide) (.slice Ag gl cg) gl (a.ps.map (.int .i64)) rfl (by rw [HGL.out]; exact HW.out.rp) _ 1 1 [.int .i64 p.t] rfl (SlA.lit1 _) (one_int _ _) (by have := HML.out; unfold maxLen; omega) (by have := HML.out; omega) HSZ.out ?_; intro v8 w8 own8 gr8 loc8; have T8 := hid (ApV.app3 HSW.out HW.out (i := p.t) (by rw [← HGL.out, List.map_append]; exact own8) (by rw [HGL.out] at gr8; exact gr8) (by rw [HGL.out] at loc8; exact loc8)); have HO8 := hid ((gr8.block bo HW.out.lt (fun e => HW.out.s4.p bo (by rw [HGL.out] at e; exact e.symm) rfl)).trans HW.out.o); obtain ⟨y0, y1, y2, y3, y4, y5⟩ := ap6 HO8.out; have f8 := frozen_of_row w8 bo 3 _ _ HO8.out; obtain ⟨A8, c8, rfl, -⟩ := SlA.owned own8; clear own8 gr8 loc8))
  have HFF := hid (T8.out.mono (K' := K + 18) (by omega))
  clear HO8 HW HSW HV HSZ k0 k1 k2 k3 k4 k5 T8 HLT
  go_wp2_with fail
  go_ret
  exact ⟨rfl, HFF.out⟩
set_option maxHeartbeats 4000000 in
set_option maxRecDepth 100000 in
/-- The extensions. -/
theorem ap6_any (h : ApS W0 W1 U bo a K) (hK : K ≤ 90000) (hT : ∀ V, Below W0.heap.size W0 V → Tab V) (hc : cp ≤ maxLen) :
    Calls Tryz.prog 51 #[prV p (.slice Ap p.n.u.length cp), .pointer (some ⟨bo, 0, none⟩)] U fun e w' => e = .returned (.int .i64 (paDo 5 a p).2) ∧ ApS W0 W1 w' bo (paDo 5 a p).1 (K + 18) := by
  have HPD := hid (show paDo 5 a p = ({ a with x := p.t, hx := true }, 0) from by unfold paDo; rw [if_neg (by decide), if_neg (by decide), if_neg (by decide), if_neg (by decide)])
  rw [HPD.out]
  dsimp only
  have H := hid h; have HT := hid hT
  have b1 : Below U.heap.size U (U.alloc (prO p (.slice Ap p.n.u.length cp))) := (Below.refl _ _).alloc (Nat.le_refl _) _
  have HP := hid (And.intro b1 (heap_alloc_new U (prO p (.slice Ap p.n.u.length cp))))
  clear h hT b1 HPD
  obtain ⟨i0, hii, hz0, hz1, hz2⟩ := info_parts Tryz.infoInt
  unfold prV
  unfold prO at HP
  go_enter Tryz.func51, Tryz.ntmps51
  go_upto_region 1 with fail
  obtain ⟨bx, hbx⟩ : ∃ bx, bx = U.heap.size := ⟨_, rfl⟩
  rw [← hbx] at HP ⊢
  refine forget (R := fun V => Below bx U V ∧ V.heap[bx]? = some (prO p (.slice Ap p.n.u.length cp))) ?_ HP.out
  clear HP
  rintro V ⟨bv, hx⟩
  rw [hbx] at bv
  have HV := hid (H.out.ext bv)
  have HBX := hid hx
  obtain ⟨x0, x1, x2, x3, x4, x5, x6, x7, x8, x9⟩ := prA10 hx
  obtain ⟨vt, vf, vg, vp, hv0⟩ := H.out.v
  have HLT := hid (fun (b : Nat) (hz : ApZ bo vf vg vp b) => (show b < bx from by rw [hbx]; exact hv0.zlt hz))
  have hv := hv0.ext bv
  clear bv hx hbx hv0 H
  have HFF := hid ((HV.out.extn p.t).mono (K' := K + 18) (by omega))
  obtain ⟨k0, k1, k2, k3, k4, k5⟩ := ap6 hv.o
  have f4 := frozen_of_row V bo 4 _ _ hv.o
  have f5 := frozen_of_row V bo 5 _ _ hv.o
  clear hv HLT
  go_wp2_with fail
  go_ret
  exact ⟨rfl, HFF.out⟩
end
end Go.Proofs.YtpkijlmkgomfeaaGreatDoor

/- proposals: each of a kind. -/
namespace Go.Proofs.YtpkijlmkgomfeaaGreatDoor
open Go.RowKit Go.KK Go.Shelf Go.Maps
set_option linter.unusedVariables false
set_option linter.unusedSimpArgs false

theorem paE_cons (k : Int) (p : PR) (l : List PR) (a : PA) : paE k (p :: l) a = if p.k = k then (if (paDo k a p).2 = 0 then paE k l (paDo k a p).1 else paDo k a p) else paE k l a := rfl
section
variable {W0 W1 U : World} {bo : Nat} {a : PA} {K : Nat} {A : Option Addr} {n c : Nat} {l : List PR}
set_option maxHeartbeats 4000000 in
set_option maxRecDepth 100000 in
theorem each2 (h : ApS W0 W1 U bo a K) (hK : K + 18 * n ≤ 80000) (hT : ∀ V, Below W0.heap.size W0 V → Tab V) (hP : ∀ V, Below W0.heap.size W0 V → Pr V A n c l) :
    Calls Tryz.prog 52 #[.slice A n c, .int .i64 2, .func (.func 44) #[] #[.pointer (some ⟨bo, 0, none⟩)]] U fun e w' => e = .returned (.int .i64 (paE 2 l a).2) ∧ ApS W0 W1 w' bo (paE 2 l a).1 (K + 18 * n) := by
  have HL := hid (hP U h.bl).len
  have H0 := hid (show ApS W0 W1 U bo a (K + 18 * 0) from h)
  have HT := hid hT; have HP := hid hP
  obtain ⟨r, hr⟩ : ∃ r, r = paE 2 l a := ⟨_, rfl⟩
  have HR := hid hr
  rw [← hr]
  clear h hT hP hr
  go_enter Tryz.func52, Tryz.ntmps52
  go_wp2_with fail
  go_loopw [12] (fun i wr => ∃ (j : Nat) (a' : PA), i = .int .i64 j ∧ j ≤ n ∧ Hid (r = paE 2 (l.drop j) a') ∧ Hid (ApS W0 W1 wr bo a' (K + 18 * j))) (fun i _ => n - (intOf i).toNat)
  case atStart => exact ⟨0, a, rfl, by omega, HR, H0⟩
  case round =>
    clear H0
    obtain ⟨j, a', hij, hj, HJ, HS⟩ := hrel
    subst hij
    by_cases hlt : j < n
    · obtain ⟨b, o, p, A', c', rfl, hp, hsl, d0, d1, d2, d3, d4, d5, d6, d7, d8, d9⟩ := (HP.out wr HS.out.bl).at hlt
      have hlt' : (j : Int) < (n : Int) := by omega
      have HD := hid (show l.drop j = p :: l.drop (j + 1) from drop_get hp)
      have HCM := hid hsl.cm
      have HB1 := hid (show Below wr.heap.size wr (wr.alloc (prO p (.slice A' p.n.u.length c'))) from (Below.refl _ _).alloc (Nat.le_refl _) _)
      have HHO := hid (heap_alloc_new wr (prO p (.slice A' p.n.u.length c')))
      clear hp hsl
      unfold prO at HB1 HHO
      go_upto_region 4 with fail
      obtain ⟨bx, hbx⟩ : ∃ bx, bx = wr.heap.size := ⟨_, rfl⟩
      rw [← hbx] at HHO ⊢
      clear d0 d1 d2 d3 d4 d5 d6 d7 d8 d9
      refine forget (R := fun V => Below wr.heap.size wr V ∧ V.heap[bx]? = some (prO p (.slice A' p.n.u.length c'))) ?_ ⟨HB1.out, HHO.out⟩
      clear HB1 HHO
      rintro V ⟨bv, ho⟩
      have HV := hid (HS.out.ext bv)
      obtain ⟨x0, x1, x2, x3, x4, x5, x6, x7, x8, x9⟩ := prA10 ho
      clear bv ho HS hbx
      by_cases hk : p.k = 2
      · have hk' : (p.k != 2) = false := by rw [hk]; rfl
        have HC := hid (ap2_any (p := p) (Ap := A') (cp := c') HV.out (by omega) HT.out HCM.out)
        have HJ1 := hid (show r = if (paDo 2 a' p).2 = 0 then paE 2 (l.drop (j + 1)) (paDo 2 a' p).1 else paDo 2 a' p from by rw [HJ.out, HD.out, paE_cons, if_pos hk])
        obtain ⟨⟨a2, er⟩, hq⟩ : ∃ q, q = paDo 2 a' p := ⟨_, rfl⟩
        rw [← hq] at HC HJ1
        unfold prV at HC
        dsimp only at HC HJ1
        clear hk hq HJ HD
        go_wp2_with fail
        refine HC.out.mono ?_
        rintro e w2 ⟨rfl, h2⟩
        have H2 := hid h2
        clear h2 HC HV
        by_cases he : er = 0
        · subst he
          have HJ2 := hid (show r = paE 2 (l.drop (j + 1)) a2 from by rw [HJ1.out, if_pos rfl])
          go_wp2_with fail
          go_roundw
          case rel => exact ⟨j + 1, a2, by go_num, by omega, HJ2, hid (H2.out.mono (by omega))⟩
          case measure => simp [intOf]; omega
        · have he' : (er != 0) = true := bne_iff_ne.2 he
          have HJ2 := hid (show r = (a2, er) from by rw [HJ1.out, if_neg he])
          clear he
          go_wp2_with fail
          go_ret
          exact ⟨by rw [HJ2.out]; rfl, by rw [HJ2.out]; exact H2.out.mono (by omega)⟩
      · have hk' : (p.k != 2) = true := bne_iff_ne.2 hk
        have HJ1 := hid (show r = paE 2 (l.drop (j + 1)) a' from by rw [HJ.out, HD.out, paE_cons, if_neg hk])
        clear hk
        go_wp2_with fail
        go_roundw
        case rel => exact ⟨j + 1, a', by go_num, by omega, HJ1, hid (HV.out.mono (by omega))⟩
        case measure => simp [intOf]; omega
    · have HF := hid (show r = (a', 0) from by rw [HJ.out, List.drop_of_length_le (by have := HL.out; omega)]; rfl)
      go_wp2_with fail
      go_ret
      exact ⟨by rw [HF.out]; rfl, by rw [HF.out]; exact HS.out.mono (by omega)⟩
set_option maxHeartbeats 4000000 in
set_option maxRecDepth 100000 in
theorem each3 (h : ApS W0 W1 U bo a K) (hK : K + 18 * n ≤ 80000) (hT : ∀ V, Below W0.heap.size W0 V → Tab V) (hP : ∀ V, Below W0.heap.size W0 V → Pr V A n c l) :
    Calls Tryz.prog 52 #[.slice A n c, .int .i64 3, .func (.func 46) #[] #[.pointer (some ⟨bo, 0, none⟩)]] U fun e w' => e = .returned (.int .i64 (paE 3 l a).2) ∧ ApS W0 W1 w' bo (paE 3 l a).1 (K + 18 * n) := by
  have HL := hid (hP U h.bl).len
  have H0 := hid (show ApS W0 W1 U bo a (K + 18 * 0) from h)
  have HT := hid hT; have HP := hid hP
  obtain ⟨r, hr⟩ : ∃ r, r = paE 3 l a := ⟨_, rfl⟩
  have HR := hid hr
  rw [← hr]
  clear h hT hP hr
  go_enter Tryz.func52, Tryz.ntmps52
  go_wp2_with fail
  go_loopw [12] (fun i wr => ∃ (j : Nat) (a' : PA), i = .int .i64 j ∧ j ≤ n ∧ Hid (r = paE 3 (l.drop j) a') ∧ Hid (ApS W0 W1 wr bo a' (K + 18 * j))) (fun i _ => n - (intOf i).toNat)
  case atStart => exact ⟨0, a, rfl, by omega, HR, H0⟩
  case round =>
    clear H0
    obtain ⟨j, a', hij, hj, HJ, HS⟩ := hrel
    subst hij
    by_cases hlt : j < n
    · obtain ⟨b, o, p, A', c', rfl, hp, hsl, d0, d1, d2, d3, d4, d5, d6, d7, d8, d9⟩ := (HP.out wr HS.out.bl).at hlt
      have hlt' : (j : Int) < (n : Int) := by omega
      have HD := hid (show l.drop j = p :: l.drop (j + 1) from drop_get hp)
      have HCM := hid hsl.cm
      have HB1 := hid (show Below wr.heap.size wr (wr.alloc (prO p (.slice A' p.n.u.length c'))) from (Below.refl _ _).alloc (Nat.le_refl _) _)
      have HHO := hid (heap_alloc_new wr (prO p (.slice A' p.n.u.length c')))
      clear hp hsl
      unfold prO at HB1 HHO
      go_upto_region 4 with fail
      obtain ⟨bx, hbx⟩ : ∃ bx, bx = wr.heap.size := ⟨_, rfl⟩
      rw [← hbx] at HHO ⊢
      clear d0 d1 d2 d3 d4 d5 d6 d7 d8 d9
      refine forget (R := fun V => Below wr.heap.size wr V ∧ V.heap[bx]? = some (prO p (.slice A' p.n.u.length c'))) ?_ ⟨HB1.out, HHO.out⟩
      clear HB1 HHO
      rintro V ⟨bv, ho⟩
      have HV := hid (HS.out.ext bv)
      obtain ⟨x0, x1, x2, x3, x4, x5, x6, x7, x8, x9⟩ := prA10 ho
      clear bv ho HS hbx
      by_cases hk : p.k = 3
      · have hk' : (p.k != 3) = false := by rw [hk]; rfl
        have HC := hid (ap3_any (p := p) (Ap := A') (cp := c') HV.out (by omega) HT.out HCM.out)
        have HJ1 := hid (show r = if (paDo 3 a' p).2 = 0 then paE 3 (l.drop (j + 1)) (paDo 3 a' p).1 else paDo 3 a' p from by rw [HJ.out, HD.out, paE_cons, if_pos hk])
        obtain ⟨⟨a2, er⟩, hq⟩ : ∃ q, q = paDo 3 a' p := ⟨_, rfl⟩
        rw [← hq] at HC HJ1
        unfold prV at HC
        dsimp only at HC HJ1
        clear hk hq HJ HD
        go_wp2_with fail
        refine HC.out.mono ?_
        rintro e w2 ⟨rfl, h2⟩
        have H2 := hid h2
        clear h2 HC HV
        by_cases he : er = 0
        · subst he
          have HJ2 := hid (show r = paE 3 (l.drop (j + 1)) a2 from by rw [HJ1.out, if_pos rfl])
          go_wp2_with fail
          go_roundw
          case rel => exact ⟨j + 1, a2, by go_num, by omega, HJ2, hid (H2.out.mono (by omega))⟩
          case measure => simp [intOf]; omega
        · have he' : (er != 0) = true := bne_iff_ne.2 he
          have HJ2 := hid (show r = (a2, er) from by rw [HJ1.out, if_neg he])
          clear he
          go_wp2_with fail
          go_ret
          exact ⟨by rw [HJ2.out]; rfl, by rw [HJ2.out]; exact H2.out.mono (by omega)⟩
      · have hk' : (p.k != 3) = true := bne_iff_ne.2 hk
        have HJ1 := hid (show r = paE 3 (l.drop (j + 1)) a' from by rw [HJ.out, HD.out, paE_cons, if_neg hk])
        clear hk
        go_wp2_with fail
        go_roundw
        case rel => exact ⟨j + 1, a', by go_num, by omega, HJ1, hid (HV.out.mono (by omega))⟩
        case measure => simp [intOf]; omega
    · have HF := hid (show r = (a', 0) from by rw [HJ.out, List.drop_of_length_le (by have := HL.out; omega)]; rfl)
      go_wp2_with fail
      go_ret
      exact ⟨by rw [HF.out]; rfl, by rw [HF.out]; exact HS.out.mono (by omega)⟩
set_option maxHeartbeats 4000000 in
set_option maxRecDepth 100000 in
theorem each1 (h : ApS W0 W1 U bo a K) (hK : K + 18 * n ≤ 80000) (hT : ∀ V, Below W0.heap.size W0 V → Tab V) (hP : ∀ V, Below W0.heap.size W0 V → Pr V A n c l) :
    Calls Tryz.prog 52 #[.slice A n c, .int .i64 1, .func (.func 48) #[] #[.pointer (some ⟨bo, 0, none⟩)]] U fun e w' => e = .returned (.int .i64 (paE 1 l a).2) ∧ ApS W0 W1 w' bo (paE 1 l a).1 (K + 18 * n) := by
  have HL := hid (hP U h.bl).len
  have H0 := hid (show ApS W0 W1 U bo a (K + 18 * 0) from h)
  have HT := hid hT; have HP := hid hP
  obtain ⟨r, hr⟩ : ∃ r, r = paE 1 l a := ⟨_, rfl⟩
  have HR := hid hr
  rw [← hr]
  clear h hT hP hr
  go_enter Tryz.func52, Tryz.ntmps52
  go_wp2_with fail
  go_loopw [12] (fun i wr => ∃ (j : Nat) (a' : PA), i = .int .i64 j ∧ j ≤ n ∧ Hid (r = paE 1 (l.drop j) a') ∧ Hid (ApS W0 W1 wr bo a' (K + 18 * j))) (fun i _ => n - (intOf i).toNat)
  case atStart => exact ⟨0, a, rfl, by omega, HR, H0⟩
  case round =>
    clear H0
    obtain ⟨j, a', hij, hj, HJ, HS⟩ := hrel
    subst hij
    by_cases hlt : j < n
    · obtain ⟨b, o, p, A', c', rfl, hp, hsl, d0, d1, d2, d3, d4, d5, d6, d7, d8, d9⟩ := (HP.out wr HS.out.bl).at hlt
      have hlt' : (j : Int) < (n : Int) := by omega
      have HD := hid (show l.drop j = p :: l.drop (j + 1) from drop_get hp)
      have HCM := hid hsl.cm
      have HB1 := hid (show Below wr.heap.size wr (wr.alloc (prO p (.slice A' p.n.u.length c'))) from (Below.refl _ _).alloc (Nat.le_refl _) _)
      have HHO := hid (heap_alloc_new wr (prO p (.slice A' p.n.u.length c')))
      clear hp hsl
      unfold prO at HB1 HHO
      go_upto_region 4 with fail
      obtain ⟨bx, hbx⟩ : ∃ bx, bx = wr.heap.size := ⟨_, rfl⟩
      rw [← hbx] at HHO ⊢
      clear d0 d1 d2 d3 d4 d5 d6 d7 d8 d9
      refine forget (R := fun V => Below wr.heap.size wr V ∧ V.heap[bx]? = some (prO p (.slice A' p.n.u.length c'))) ?_ ⟨HB1.out, HHO.out⟩
      clear HB1 HHO
      rintro V ⟨bv, ho⟩
      have HV := hid (HS.out.ext bv)
      obtain ⟨x0, x1, x2, x3, x4, x5, x6, x7, x8, x9⟩ := prA10 ho
      clear bv ho HS hbx
      by_cases hk : p.k = 1
      · have hk' : (p.k != 1) = false := by rw [hk]; rfl
        have HC := hid (ap4_any (p := p) (Ap := A') (cp := c') HV.out (by omega) HT.out HCM.out)
        have HJ1 := hid (show r = if (paDo 1 a' p).2 = 0 then paE 1 (l.drop (j + 1)) (paDo 1 a' p).1 else paDo 1 a' p from by rw [HJ.out, HD.out, paE_cons, if_pos hk])
        obtain ⟨⟨a2, er⟩, hq⟩ : ∃ q, q = paDo 1 a' p := ⟨_, rfl⟩
        rw [← hq] at HC HJ1
        unfold prV at HC
        dsimp only at HC HJ1
        clear hk hq HJ HD
        go_wp2_with fail
        refine HC.out.mono ?_
        rintro e w2 ⟨rfl, h2⟩
        have H2 := hid h2
        clear h2 HC HV
        by_cases he : er = 0
        · subst he
          have HJ2 := hid (show r = paE 1 (l.drop (j + 1)) a2 from by rw [HJ1.out, if_pos rfl])
          go_wp2_with fail
          go_roundw
          case rel => exact ⟨j + 1, a2, by go_num, by omega, HJ2, hid (H2.out.mono (by omega))⟩
          case measure => simp [intOf]; omega
        · have he' : (er != 0) = true := bne_iff_ne.2 he
          have HJ2 := hid (show r = (a2, er) from by rw [HJ1.out, if_neg he])
          clear he
          go_wp2_with fail
          go_ret
          exact ⟨by rw [HJ2.out]; rfl, by rw [HJ2.out]; exact H2.out.mono (by omega)⟩
      · have hk' : (p.k != 1) = true := bne_iff_ne.2 hk
        have HJ1 := hid (show r = paE 1 (l.drop (j + 1)) a' from by rw [HJ.out, HD.out, paE_cons, if_neg hk])
        clear hk
        go_wp2_with fail
        go_roundw
        case rel => exact ⟨j + 1, a', by go_num, by omega, HJ1, hid (HV.out.mono (by omega))⟩
        case measure => simp [intOf]; omega
    · have HF := hid (show r = (a', 0) from by rw [HJ.out, List.drop_of_length_le (by have := HL.out; omega)]; rfl)
      go_wp2_with fail
      go_ret
      exact ⟨by rw [HF.out]; rfl, by rw [HF.out]; exact HS.out.mono (by omega)⟩
set_option maxHeartbeats 4000000 in
set_option maxRecDepth 100000 in
theorem each4 (h : ApS W0 W1 U bo a K) (hK : K + 18 * n ≤ 80000) (hT : ∀ V, Below W0.heap.size W0 V → Tab V) (hP : ∀ V, Below W0.heap.size W0 V → Pr V A n c l) :
    Calls Tryz.prog 52 #[.slice A n c, .int .i64 4, .func (.func 50) #[] #[.pointer (some ⟨bo, 0, none⟩)]] U fun e w' => e = .returned (.int .i64 (paE 4 l a).2) ∧ ApS W0 W1 w' bo (paE 4 l a).1 (K + 18 * n) := by
  have HL := hid (hP U h.bl).len
  have H0 := hid (show ApS W0 W1 U bo a (K + 18 * 0) from h)
  have HT := hid hT; have HP := hid hP
  obtain ⟨r, hr⟩ : ∃ r, r = paE 4 l a := ⟨_, rfl⟩
  have HR := hid hr
  rw [← hr]
  clear h hT hP hr
  go_enter Tryz.func52, Tryz.ntmps52
  go_wp2_with fail
  go_loopw [12] (fun i wr => ∃ (j : Nat) (a' : PA), i = .int .i64 j ∧ j ≤ n ∧ Hid (r = paE 4 (l.drop j) a') ∧ Hid (ApS W0 W1 wr bo a' (K + 18 * j))) (fun i _ => n - (intOf i).toNat)
  case atStart => exact ⟨0, a, rfl, by omega, HR, H0⟩
  case round =>
    clear H0
    obtain ⟨j, a', hij, hj, HJ, HS⟩ := hrel
    subst hij
    by_cases hlt : j < n
    · obtain ⟨b, o, p, A', c', rfl, hp, hsl, d0, d1, d2, d3, d4, d5, d6, d7, d8, d9⟩ := (HP.out wr HS.out.bl).at hlt
      have hlt' : (j : Int) < (n : Int) := by omega
      have HD := hid (show l.drop j = p :: l.drop (j + 1) from drop_get hp)
      have HCM := hid hsl.cm
      have HB1 := hid (show Below wr.heap.size wr (wr.alloc (prO p (.slice A' p.n.u.length c'))) from (Below.refl _ _).alloc (Nat.le_refl _) _)
      have HHO := hid (heap_alloc_new wr (prO p (.slice A' p.n.u.length c')))
      clear hp hsl
      unfold prO at HB1 HHO
      go_upto_region 4 with fail
      obtain ⟨bx, hbx⟩ : ∃ bx, bx = wr.heap.size := ⟨_, rfl⟩
      rw [← hbx] at HHO ⊢
      clear d0 d1 d2 d3 d4 d5 d6 d7 d8 d9
      refine forget (R := fun V => Below wr.heap.size wr V ∧ V.heap[bx]? = some (prO p (.slice A' p.n.u.length c'))) ?_ ⟨HB1.out, HHO.out⟩
      clear HB1 HHO
      rintro V ⟨bv, ho⟩
      have HV := hid (HS.out.ext bv)
      obtain ⟨x0, x1, x2, x3, x4, x5, x6, x7, x8, x9⟩ := prA10 ho
      clear bv ho HS hbx
      by_cases hk : p.k = 4
      · have hk' : (p.k != 4) = false := by rw [hk]; rfl
        have HC := hid (ap5_any (p := p) (Ap := A') (cp := c') HV.out (by omega) HT.out HCM.out)
        have HJ1 := hid (show r = if (paDo 4 a' p).2 = 0 then paE 4 (l.drop (j + 1)) (paDo 4 a' p).1 else paDo 4 a' p from by rw [HJ.out, HD.out, paE_cons, if_pos hk])
        obtain ⟨⟨a2, er⟩, hq⟩ : ∃ q, q = paDo 4 a' p := ⟨_, rfl⟩
        rw [← hq] at HC HJ1
        unfold prV at HC
        dsimp only at HC HJ1
        clear hk hq HJ HD
        go_wp2_with fail
        refine HC.out.mono ?_
        rintro e w2 ⟨rfl, h2⟩
        have H2 := hid h2
        clear h2 HC HV
        by_cases he : er = 0
        · subst he
          have HJ2 := hid (show r = paE 4 (l.drop (j + 1)) a2 from by rw [HJ1.out, if_pos rfl])
          go_wp2_with fail
          go_roundw
          case rel => exact ⟨j + 1, a2, by go_num, by omega, HJ2, hid (H2.out.mono (by omega))⟩
          case measure => simp [intOf]; omega
        · have he' : (er != 0) = true := bne_iff_ne.2 he
          have HJ2 := hid (show r = (a2, er) from by rw [HJ1.out, if_neg he])
          clear he
          go_wp2_with fail
          go_ret
          exact ⟨by rw [HJ2.out]; rfl, by rw [HJ2.out]; exact H2.out.mono (by omega)⟩
      · have hk' : (p.k != 4) = true := bne_iff_ne.2 hk
        have HJ1 := hid (show r = paE 4 (l.drop (j + 1)) a' from by rw [HJ.out, HD.out, paE_cons, if_neg hk])
        clear hk
        go_wp2_with fail
        go_roundw
        case rel => exact ⟨j + 1, a', by go_num, by omega, HJ1, hid (HV.out.mono (by omega))⟩
        case measure => simp [intOf]; omega
    · have HF := hid (show r = (a', 0) from by rw [HJ.out, List.drop_of_length_le (by have := HL.out; omega)]; rfl)
      go_wp2_with fail
      go_ret
      exact ⟨by rw [HF.out]; rfl, by rw [HF.out]; exact HS.out.mono (by omega)⟩
set_option maxHeartbeats 4000000 in
set_option maxRecDepth 100000 in
theorem each5 (h : ApS W0 W1 U bo a K) (hK : K + 18 * n ≤ 80000) (hT : ∀ V, Below W0.heap.size W0 V → Tab V) (hP : ∀ V, Below W0.heap.size W0 V → Pr V A n c l) :
    Calls Tryz.prog 52 #[.slice A n c, .int .i64 5, .func (.func 51) #[] #[.pointer (some ⟨bo, 0, none⟩)]] U fun e w' => e = .returned (.int .i64 (paE 5 l a).2) ∧ ApS W0 W1 w' bo (paE 5 l a).1 (K + 18 * n) := by
  have HL := hid (hP U h.bl).len
  have H0 := hid (show ApS W0 W1 U bo a (K + 18 * 0) from h)
  have HT := hid hT; have HP := hid hP
  obtain ⟨r, hr⟩ : ∃ r, r = paE 5 l a := ⟨_, rfl⟩
  have HR := hid hr
  rw [← hr]
  clear h hT hP hr
  go_enter Tryz.func52, Tryz.ntmps52
  go_wp2_with fail
  go_loopw [12] (fun i wr => ∃ (j : Nat) (a' : PA), i = .int .i64 j ∧ j ≤ n ∧ Hid (r = paE 5 (l.drop j) a') ∧ Hid (ApS W0 W1 wr bo a' (K + 18 * j))) (fun i _ => n - (intOf i).toNat)
  case atStart => exact ⟨0, a, rfl, by omega, HR, H0⟩
  case round =>
    clear H0
    obtain ⟨j, a', hij, hj, HJ, HS⟩ := hrel
    subst hij
    by_cases hlt : j < n
    · obtain ⟨b, o, p, A', c', rfl, hp, hsl, d0, d1, d2, d3, d4, d5, d6, d7, d8, d9⟩ := (HP.out wr HS.out.bl).at hlt
      have hlt' : (j : Int) < (n : Int) := by omega
      have HD := hid (show l.drop j = p :: l.drop (j + 1) from drop_get hp)
      have HCM := hid hsl.cm
      have HB1 := hid (show Below wr.heap.size wr (wr.alloc (prO p (.slice A' p.n.u.length c'))) from (Below.refl _ _).alloc (Nat.le_refl _) _)
      have HHO := hid (heap_alloc_new wr (prO p (.slice A' p.n.u.length c')))
      clear hp hsl
      unfold prO at HB1 HHO
      go_upto_region 4 with fail
      obtain ⟨bx, hbx⟩ : ∃ bx, bx = wr.heap.size := ⟨_, rfl⟩
      rw [← hbx] at HHO ⊢
      clear d0 d1 d2 d3 d4 d5 d6 d7 d8 d9
      refine forget (R := fun V => Below wr.heap.size wr V ∧ V.heap[bx]? = some (prO p (.slice A' p.n.u.length c'))) ?_ ⟨HB1.out, HHO.out⟩
      clear HB1 HHO
      rintro V ⟨bv, ho⟩
      have HV := hid (HS.out.ext bv)
      obtain ⟨x0, x1, x2, x3, x4, x5, x6, x7, x8, x9⟩ := prA10 ho
      clear bv ho HS hbx
      by_cases hk : p.k = 5
      · have hk' : (p.k != 5) = false := by rw [hk]; rfl
        have HC := hid (ap6_any (p := p) (Ap := A') (cp := c') HV.out (by omega) HT.out HCM.out)
        have HJ1 := hid (show r = if (paDo 5 a' p).2 = 0 then paE 5 (l.drop (j + 1)) (paDo 5 a' p).1 else paDo 5 a' p from by rw [HJ.out, HD.out, paE_cons, if_pos hk])
        obtain ⟨⟨a2, er⟩, hq⟩ : ∃ q, q = paDo 5 a' p := ⟨_, rfl⟩
        rw [← hq] at HC HJ1
        unfold prV at HC
        dsimp only at HC HJ1
        clear hk hq HJ HD
        go_wp2_with fail
        refine HC.out.mono ?_
        rintro e w2 ⟨rfl, h2⟩
        have H2 := hid h2
        clear h2 HC HV
        by_cases he : er = 0
        · subst he
          have HJ2 := hid (show r = paE 5 (l.drop (j + 1)) a2 from by rw [HJ1.out, if_pos rfl])
          go_wp2_with fail
          go_roundw
          case rel => exact ⟨j + 1, a2, by go_num, by omega, HJ2, hid (H2.out.mono (by omega))⟩
          case measure => simp [intOf]; omega
        · have he' : (er != 0) = true := bne_iff_ne.2 he
          have HJ2 := hid (show r = (a2, er) from by rw [HJ1.out, if_neg he])
          clear he
          go_wp2_with fail
          go_ret
          exact ⟨by rw [HJ2.out]; rfl, by rw [HJ2.out]; exact H2.out.mono (by omega)⟩
      · have hk' : (p.k != 5) = true := bne_iff_ne.2 hk
        have HJ1 := hid (show r = paE 5 (l.drop (j + 1)) a' from by rw [HJ.out, HD.out, paE_cons, if_neg hk])
        clear hk
        go_wp2_with fail
        go_roundw
        case rel => exact ⟨j + 1, a', by go_num, by omega, HJ1, hid (HV.out.mono (by omega))⟩
        case measure => simp [intOf]; omega
    · have HF := hid (show r = (a', 0) from by rw [HJ.out, List.drop_of_length_le (by have := HL.out; omega)]; rfl)
      go_wp2_with fail
      go_ret
      exact ⟨by rw [HF.out]; rfl, by rw [HF.out]; exact HS.out.mono (by omega)⟩
end
end Go.Proofs.YtpkijlmkgomfeaaGreatDoor

