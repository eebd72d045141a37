/- token's law: what is carried from call to call. -/
import Derived.Test.YtanakgbhmmemoaaDoorTA
namespace Go.Proofs.YtanakgbhmmemoaaDoor
open Go.RowKit Go.KK Go.Shelf Go.Maps
set_option linter.unusedVariables false
set_option linter.unusedSimpArgs false

/-- The law's arena, and what the call has left alone. -/
structure LA (w0 W : World) (Z : Nat → Prop) (sa : Nat) (xs : List ND) : Prop where
  ar : AR W Z sa xs
  z : ∀ b, Z b → w0.heap.size ≤ b
  bl : Below w0.heap.size w0 W
/-- From one world to the next. -/
structure Mv (Z : Nat → Prop) (W : World) (Z' : Nat → Prop) (W' : World) : Prop where
  t : Turn Z W W'
  n : ∀ b, Z' b → Z b ∨ W.heap.size ≤ b
theorem Mv.below {Z : Nat → Prop} {W W' : World} (hb : Below W.heap.size W W') : Mv Z W Z W' := ⟨.of_below hb, fun _ h => .inl h⟩
section
variable {w0 W W' : World} {Z Z' : Nat → Prop} {sa : Nat} {xs xs' : List ND}
theorem LA.mv (h : LA w0 W Z sa xs) (m : Mv Z W Z' W') (ha : AR W' Z' sa xs') : LA w0 W' Z' sa xs' :=
  ⟨ha, fun b hb => (m.n b hb).elim (h.z b) fun h' => Nat.le_trans h.bl.size h', h.bl.trans (m.t.below h.z h.bl.size)⟩
theorem LA.ext (h : LA w0 W Z sa xs) (hb : Below W.heap.size W W') : LA w0 W' Z sa xs := h.mv (.below hb) (h.ar.ext hb)
theorem LA.alloc (h : LA w0 W Z sa xs) (o : Obj) : LA w0 (W.alloc o) Z sa xs := h.ext ((Below.refl _ _).alloc (Nat.le_refl _) o)
theorem LA.cx (h : LA w0 W Z sa xs) (hT : Tb w0.heap.size w0) : Cx w0.heap.size W Z := ⟨hT.on h.bl, h.bl.size, h.z⟩
theorem LA.sz (h : LA w0 W Z sa xs) : w0.heap.size ≤ W.heap.size := h.bl.size
theorem LA.of_two {n : Nat} {sb : Nat} (h : TwoI w0 sa sb n W) : ∃ Z, LA w0 W Z sa (atoms n) := by
  obtain ⟨Z, Z', h1, h2, h3, h4, h5, h6⟩ := h
  exact ⟨Z, h1, h4, h6⟩
end
/-- A mint in a variable. -/
structure MB (W : World) (Z : Nat → Prop) (b0 bm : Nat) (m : MT) (g p : Value) : Prop where
  row : W.ownsRow b0 31 4 (.slice (some ⟨bm, 0, none⟩) 1 1) 1 [.int .i64 m.k, .int .i64 m.q, g, p]
  mt : MtR W Z m g p
  nz : ¬ Z bm
section
variable {W W' : World} {Z Z' : Nat → Prop} {b0 bm : Nat} {m : MT} {g p : Value}
theorem MB.mv (h : MB W Z b0 bm m g p) (v : Mv Z W Z' W') : MB W' Z' b0 bm m g p :=
  ⟨own_block h.row fun b hb => v.t.block b (h.row.lt b hb).2 (fun hz => h.nz (by injection hb with hb; simp only at hb; rw [hb]; exact hz)), h.mt.turn v.t v.n, fun hz => (v.n bm hz).elim h.nz fun h' => by have := (h.row.lt bm rfl).2; omega⟩
theorem MB.ext (h : MB W Z b0 bm m g p) (hb : Below W.heap.size W W') : MB W' Z b0 bm m g p := h.mv (.below hb)
theorem MB.alloc (h : MB W Z b0 bm m g p) (o : Obj) : MB (W.alloc o) Z b0 bm m g p := h.ext ((Below.refl _ _).alloc (Nat.le_refl _) o)
theorem MB.new (h : MtR W Z m g p) (hz : ∀ b, Z b → b < W.heap.size) (hb : b0 ≤ W.heap.size) : MB (W.alloc (.cells #[.int .i64 m.k, .int .i64 m.q, g, p] 31)) Z b0 W.heap.size m g p :=
  ⟨⟨by simp, .inr ⟨W.heap.size, 1, _, rfl, hb, heap_alloc_new W _, Nat.le_refl _, by decide, rfl, by simp⟩⟩, h.ext ((Below.refl _ _).alloc (Nat.le_refl _) _), fun h => by have := hz _ h; omega⟩
theorem MB.cells (h : MB W Z b0 bm m g p) : W.cell? ⟨bm, 0, none⟩ = some (.int .i64 m.k) ∧ W.cell? ⟨bm, 1, none⟩ = some (.int .i64 m.q) ∧ W.cell? ⟨bm, 2, none⟩ = some g ∧ W.cell? ⟨bm, 3, none⟩ = some p := (box4 h.row).1
end
/-- Another mint is laid into the variable. -/
def put4 (W : World) (bm : Nat) (m : MT) (g p : Value) : World := (((W.setCell ⟨bm, 0, none⟩ (.int .i64 m.k)).setCell ⟨bm, 1, none⟩ (.int .i64 m.q)).setCell ⟨bm, 2, none⟩ g).setCell ⟨bm, 3, none⟩ p
section
variable {w0 W : World} {Z : Nat → Prop} {b0 bm sa : Nat} {xs : List ND} {m m' : MT} {g p g' p' : Value}
theorem put4_turn : Turn (fun b => b = bm) W (put4 W bm m g p) := ⟨rfl, rfl, rfl, by simp [put4], fun b _ hn => far4 W bm _ _ _ _ b hn⟩
theorem SlZ.put {size : Nat} {A : Option Addr} {n c : Nat} {cs : List Value} (h : SlZ W Z size A n c cs) (hn : ∀ b o, A = some ⟨b, o, none⟩ → b ≠ bm) : SlZ (put4 W bm m g p) Z size A n c cs := by
  refine ⟨⟨h.1.nc, h.1.cm, h.1.len, fun j u hj => ?_⟩, h.2⟩
  obtain ⟨b, off, rfl, hc⟩ := h.1.cells j u hj
  refine ⟨b, off, rfl, ?_⟩
  rw [World.cell?_of_block (a := ⟨b, off + j, none⟩) (show (put4 W bm m g p).heap[b]? = W.heap[b]? from far4 W bm _ _ _ _ b (hn b off rfl))]
  exact hc
theorem LA.put (h : LA w0 W Z sa xs) (hz : ¬ Z bm) (hb : w0.heap.size ≤ bm) : LA w0 (put4 W bm m g p) Z sa xs :=
  ⟨h.ar.turn put4_turn fun b h1 e => hz (e ▸ h1), h.z, h.bl.trans (put4_turn.below (fun b e => e ▸ hb) h.bl.size)⟩
theorem MB.put (h : MB W Z b0 bm m g p) (hm : MtR W Z m' g' p') (hn : ∀ b, g'.ownBlock = some b ∨ p'.ownBlock = some b → b ≠ bm) : MB (put4 W bm m' g' p') Z b0 bm m' g' p' := by
  refine ⟨?_, ?_, h.nz⟩
  · exact ((((h.row.stored 0 (.int .i64 m'.k)).1.stored 1 (.int .i64 m'.q)).1.stored 2 g').1.stored 3 p').1
  · obtain ⟨Ag, cg, Ap, cp, rfl, rfl, h1, h2⟩ := hm
    exact ⟨Ag, cg, Ap, cp, rfl, rfl, h1.put fun b o e => hn b (.inl (by subst e; rfl)), h2.put fun b o e => hn b (.inr (by subst e; rfl))⟩
/-- A mint elsewhere stays. -/
theorem MB.beside {bo : Nat} {mo : MT} {go po : Value} (h : MB W Z b0 bo mo go po) (hne : bo ≠ bm) (hn : ∀ b, go.ownBlock = some b ∨ po.ownBlock = some b → b ≠ bm) : MB (put4 W bm m g p) Z b0 bo mo go po := by
  refine ⟨own_block h.row fun b hb => far4 W bm _ _ _ _ b (by injection hb with hb; simp only at hb; omega), ?_, h.nz⟩
  obtain ⟨Ag, cg, Ap, cp, rfl, rfl, h1, h2⟩ := h.mt
  exact ⟨Ag, cg, Ap, cp, rfl, rfl, h1.put fun b o e => hn b (.inl (by subst e; rfl)), h2.put fun b o e => hn b (.inr (by subst e; rfl))⟩
theorem map_put {P : Program} {K : TypeId} {R : Value → Option (MD × List MemPlace)} {mb n : Nat} {D : MD} (h : W.ownsMap P K R mb n D) (hne : mb ≠ bm) : (put4 W bm m g p).ownsMap P K R mb n D := map_block h (far4 W bm _ _ _ _ mb hne)
end
/-- What the calls of the law leave. -/
def AfS (w0 W : World) (Z : Nat → Prop) (sa : Nat) (xs : List ND) (i er : Int) (e : Ending) (w' : World) : Prop := ∃ Z', e = .returned (.tuple #[.int .i64 i, .int .i64 er]) ∧ LA w0 w' Z' sa xs ∧ Mv Z W Z' w'
def AfI (w0 W : World) (Z : Nat → Prop) (sa : Nat) (xs : List ND) (i : Int) (m : MT) (er : Int) (e : Ending) (w' : World) : Prop := ∃ Z' g p, e = .returned (.tuple #[.int .i64 i, .agg #[.int .i64 m.k, .int .i64 m.q, g, p], .int .i64 er]) ∧ LA w0 w' Z' sa xs ∧ Mv Z W Z' w' ∧ MtR w' Z' m g p ∧ NewV W g p
def AfM (w0 W : World) (Z : Nat → Prop) (sa : Nat) (xs : List ND) (m : MT) (er : Int) (e : Ending) (w' : World) : Prop := ∃ g p, e = .returned (.tuple #[.agg #[.int .i64 m.k, .int .i64 m.q, g, p], .int .i64 er]) ∧ LA w0 w' Z sa xs ∧ Mv Z W Z w' ∧ MtR w' Z m g p ∧ NewV W g p
section
variable {w0 W : World} {Z : Nat → Prop} {sa : Nat} {xs : List ND}
theorem l_new (h : LA w0 W Z sa xs) {sk quota : Int} {m : MT} {er : Int} (hr : newF xs sk quota = (m, er)) (hg : m.g = []) (hp : m.p = []) :
    Calls Tryd.prog 10 #[.pointer (some ⟨sa, 0, none⟩), .int .i64 sk, .int .i64 quota] W (AfM w0 W Z sa xs m er) := by
  refine (tnew_any sa xs W sk quota h.ar.vw).mono ?_
  rintro e w' ⟨rfl, hb⟩
  rw [hr]
  obtain ⟨k, q, g, p⟩ := m
  subst hg; subst hp
  exact ⟨_, _, rfl, h.ext hb, .below hb, MtR.mt _ _ _ _, newV_nil _ _ _ _ _⟩
theorem l_ask (h : LA w0 W Z sa xs) (hT : Tb w0.heap.size w0) {nonce draw : Int} (hd : I64 draw) {xs' : List ND} {i er : Int} (hr : askF xs nonce draw = (xs', i, er)) :
    Calls Tryd.prog 15 #[.pointer (some ⟨sa, 0, none⟩), .int .i64 nonce, .int .i64 draw] W (AfS w0 W Z sa xs' i er) := by
  refine (ask_any Z sa xs w0.heap.size W nonce draw h.ar (h.cx hT) hd).mono ?_
  rintro e w' ⟨rfl, Z', h1, h2, h3⟩
  rw [hr] at h1 ⊢
  exact ⟨Z', rfl, h.mv ⟨h2, h3⟩ h1, ⟨h2, h3⟩⟩
theorem l_fin (h : LA w0 W Z sa xs) (hT : Tb w0.heap.size w0) {sig draw : Int} (hd : I64 draw) {xs' : List ND} {i er : Int} (hr : finF xs sig draw = (xs', i, er)) :
    Calls Tryd.prog 20 #[.pointer (some ⟨sa, 0, none⟩), .int .i64 sig, .int .i64 draw] W (AfS w0 W Z sa xs' i er) := by
  refine (fin_any Z sa xs w0.heap.size W sig draw h.ar (h.cx hT) hd).mono ?_
  rintro e w' ⟨rfl, Z', h1, h2, h3⟩
  rw [hr] at h1 ⊢
  exact ⟨Z', rfl, h.mv ⟨h2, h3⟩ h1, ⟨h2, h3⟩⟩
theorem l_iss (h : LA w0 W Z sa xs) (hT : Tb w0.heap.size w0) {m : MT} {g p : Value} {who asked : Int} (hm : MtR W Z m g p) (ho : MtO m) (ha : I64 asked) (hw : I64 who) {xs' : List ND} {i er : Int} {m' : MT} (hr : issF xs m who asked = (xs', i, m', er)) :
    Calls Tryd.prog 17 #[.pointer (some ⟨sa, 0, none⟩), .agg #[.int .i64 m.k, .int .i64 m.q, g, p], .int .i64 who, .int .i64 asked] W (AfI w0 W Z sa xs' i m' er) := by
  refine (issue_any Z sa xs w0.heap.size W m g p who asked h.ar (h.cx hT) hm ho ha hw).mono ?_
  rintro e w' ⟨Z', g', p', rfl, h1, h2, h3, h4, hnw⟩
  rw [hr] at h1 h4 ⊢
  exact ⟨Z', g', p', rfl, h.mv ⟨h2, h3⟩ h1, ⟨h2, h3⟩, h4, hnw⟩
theorem l_spend (h : LA w0 W Z sa xs) {m : MT} {g p : Value} {nonce sig : Int} (hm : MtR W Z m g p) (ho : MtO m) {er : Int} {m' : MT} (hr : spF xs m nonce sig = (m', er)) :
    Calls Tryd.prog 22 #[.pointer (some ⟨sa, 0, none⟩), .agg #[.int .i64 m.k, .int .i64 m.q, g, p], .int .i64 nonce, .int .i64 sig] W (AfM w0 W Z sa xs m' er) := by
  refine (spend_any Z sa xs W m g p nonce sig h.ar hm ho).mono ?_
  rintro e w' ⟨g', p', rfl, hb, h4, hnw⟩
  rw [hr] at h4 ⊢
  exact ⟨g', p', rfl, h.ext hb, .below hb, h4, hnw⟩
theorem l_had {m : MT} {g p : Value} (hm : MtR W Z m g p) (ho : MtO m) {A' : Option Addr} {n' c' : Nat} {l : List Int} (hl : SlA W 1 A' n' c' (l.map (.int .i64))) (hln : n' ≤ 1000) {r : Int} (hr : hadF m.g l = r) :
    Calls Tryd.prog 26 #[.agg #[.int .i64 m.k, .int .i64 m.q, g, p], .slice A' n' c'] W fun e w' => e = .returned (.int .i64 r) ∧ Below W.heap.size W w' := by
  obtain ⟨Ag, cg, Ap, cp, rfl, rfl, h1, h2⟩ := hm
  rw [← hr]
  exact had_any m Ag cg (.slice Ap m.p.length cp) A' n' c' l W h1.1 ho.s ho.b (by have := ho.n; omega) hl hln
end
theorem MtR.sh {w : World} {Z : Nat → Prop} {m : MT} {g p : Value} (h : MtR w Z m g p) (a b : Nat) (ha : m.g.length = a) (hb : m.p.length = b) : ∃ A c B d, g = .slice A a c ∧ p = .slice B b d := by
  obtain ⟨A, c, B, d, h1, h2, -⟩ := h
  exact ⟨A, c, B, d, by rw [h1, ha], by rw [h2, hb]⟩
theorem mtO_mt {k q : Int} (hk : I64 k) (hq : I64 q) : MtO ⟨k, q, [], []⟩ := ⟨hk, hq, .nil, fun c h => by simp at h, by simp, .nil, by simp, fun i h => by simp at h⟩
theorem mtO_one {k q a b : Int} {p : List Int} (hk : I64 k) (hq : I64 q) (hb : 0 ≤ b ∧ b ≤ 1000000) (hp : p.Pairwise (· < ·)) (hpn : p.length ≤ 1000) (hpi : ∀ i ∈ p, I64 i) : MtO ⟨k, q, [(a, b)], p⟩ :=
  ⟨hk, hq, .cons (fun c h => by simp at h) .nil, fun c h => by simp only [List.mem_singleton] at h; subst h; exact hb, by simp, hp, hpn, hpi⟩
end Go.Proofs.YtanakgbhmmemoaaDoor
