import Derived.Test.YtadbgmfdbahcbaaDoorZa
import Derived.Test.YtadbgmfdbahcbaaDoorZA7
import Derived.Test.YtadbgmfdbahcbaaDoorZM3
/- deduce: a space of terms in memory; add. -/
namespace Go.Proofs.YtadbgmfdbahcbaaDoor
open Go.RowKit Go.KK Go.Shelf Go.Maps
set_option linter.unusedVariables false
set_option linter.unusedSimpArgs false

/-- A space: its terms and what each is looked at for (which only read, in R), and which are in and open (all else of it in G). -/
structure SpA (W : World) (G R : Nat → Prop) (sp : Nat) (lv uv : Value) (xs : List ND) (s : SD) : Prop where
  go : ∃ iv ov, W.heap[sp]? = some (.cells #[lv, iv, uv, ov] 80 (0, 0)) ∧ W.ownsRow 0 4 1 iv s.i.length (s.i.map .bool) ∧ W.ownsRow 0 3 1 ov s.o.length (s.o.map (.int .i64)) ∧ (∀ b, iv.ownBlock = some b → G b ∧ b ≠ sp) ∧ (∀ b, ov.ownBlock = some b → G b ∧ b ≠ sp)
  gs : G sp
  glt : ∀ b, G b → b < W.heap.size
  gr : ∀ b, R b → ¬ G b
  rlt : ∀ b, R b → b < W.heap.size
  rdl : ∃ A c qs, lv = .slice A xs.length c ∧ qs.length = xs.length ∧ ∀ W' : World, (∀ b, R b → W'.heap[b]? = W.heap[b]?) → SlA W' 4 A xs.length c (nds xs qs) ∧ ∀ (j : Nat) x q, xs[j]? = some x → qs[j]? = some q → In1 W' q x.l
  rdu : ∃ A c qs, uv = .slice A xs.length c ∧ qs.length = xs.length ∧ ∀ W' : World, (∀ b, R b → W'.heap[b]? = W.heap[b]?) → SlA W' 1 A xs.length c qs ∧ ∀ (j : Nat) q, qs[j]? = some q → In1 W' q (uses xs (j : Int))
  ok : Okay xs
  len : s.i.length = xs.length
  ol : s.o.length + s.i.count false ≤ xs.length
/-- What a call on a space leaves. -/
def SpS (W : World) (G R : Nat → Prop) (sp : Nat) (lv uv : Value) (xs : List ND) (s : SD) (W' : World) : Prop := ∃ G', SpA W' G' R sp lv uv xs s ∧ Turn G W W' ∧ ∀ b, G' b → G b ∨ W.heap.size ≤ b
section
variable {W W' W'' : World} {G G' R : Nat → Prop} {sp : Nat} {lv uv : Value} {xs : List ND} {s s' : SD}
theorem rdl_kept (h : ∃ A c qs, lv = .slice A xs.length c ∧ qs.length = xs.length ∧ ∀ W' : World, (∀ b, R b → W'.heap[b]? = W.heap[b]?) → SlA W' 4 A xs.length c (nds xs qs) ∧ ∀ (j : Nat) x q, xs[j]? = some x → qs[j]? = some q → In1 W' q x.l) (hb : ∀ b, R b → W'.heap[b]? = W.heap[b]?) :
    ∃ A c qs, lv = .slice A xs.length c ∧ qs.length = xs.length ∧ ∀ W2 : World, (∀ b, R b → W2.heap[b]? = W'.heap[b]?) → SlA W2 4 A xs.length c (nds xs qs) ∧ ∀ (j : Nat) x q, xs[j]? = some x → qs[j]? = some q → In1 W2 q x.l := by
  obtain ⟨A, c, qs, h1, h2, h3⟩ := h
  exact ⟨A, c, qs, h1, h2, fun W2 hW => h3 W2 fun b hr => (hW b hr).trans (hb b hr)⟩
theorem rdu_kept (h : ∃ A c qs, uv = .slice A xs.length c ∧ qs.length = xs.length ∧ ∀ W' : World, (∀ b, R b → W'.heap[b]? = W.heap[b]?) → SlA W' 1 A xs.length c qs ∧ ∀ (j : Nat) q, qs[j]? = some q → In1 W' q (uses xs (j : Int))) (hb : ∀ b, R b → W'.heap[b]? = W.heap[b]?) :
    ∃ A c qs, uv = .slice A xs.length c ∧ qs.length = xs.length ∧ ∀ W2 : World, (∀ b, R b → W2.heap[b]? = W'.heap[b]?) → SlA W2 1 A xs.length c qs ∧ ∀ (j : Nat) q, qs[j]? = some q → In1 W2 q (uses xs (j : Int)) := by
  obtain ⟨A, c, qs, h1, h2, h3⟩ := h
  exact ⟨A, c, qs, h1, h2, fun W2 hW => h3 W2 fun b hr => (hW b hr).trans (hb b hr)⟩
theorem SpA.kept (h : SpA W G R sp lv uv xs s) (hb : ∀ b, G b ∨ R b → W'.heap[b]? = W.heap[b]?) (hs : W.heap.size ≤ W'.heap.size) : SpA W' G R sp lv uv xs s := by
  obtain ⟨iv, ov, h1, h2, h3, h4, h5⟩ := h.go
  exact ⟨⟨iv, ov, (hb _ (.inl h.gs)).trans h1, own_block h2 fun b e => hb b (.inl (h4 b e).1), own_block h3 fun b e => hb b (.inl (h5 b e).1), h4, h5⟩, h.gs, fun b hb' => Nat.lt_of_lt_of_le (h.glt b hb') hs, h.gr, fun b hb' => Nat.lt_of_lt_of_le (h.rlt b hb') hs,
    rdl_kept h.rdl fun b hr => hb b (.inr hr), rdu_kept h.rdu fun b hr => hb b (.inr hr), h.ok, h.len, h.ol⟩
theorem SpA.ext (h : SpA W G R sp lv uv xs s) (hb : Below W.heap.size W W') : SpA W' G R sp lv uv xs s :=
  h.kept (fun b hz => hb.block b (hz.elim (h.glt b) (h.rlt b))) hb.size
theorem SpA.turn {F : Nat → Prop} (h : SpA W G R sp lv uv xs s) (ht : Turn F W W') (hd : ∀ b, F b → ¬ G b ∧ ¬ R b) : SpA W' G R sp lv uv xs s :=
  h.kept (fun b hz => ht.block b (hz.elim (h.glt b) (h.rlt b)) fun hf => hz.elim (hd b hf).1 (hd b hf).2) ht.size
theorem SpA.stay (h : SpA W G R sp lv uv xs s) (hb : Below W.heap.size W W') : SpS W G R sp lv uv xs s W' := ⟨G, h.ext hb, .of_below hb, fun _ h => .inl h⟩
theorem SpS.chain (ht : Turn G W W') (hz : ∀ b, G' b → G b ∨ W.heap.size ≤ b) (h : SpS W' G' R sp lv uv xs s W'') : SpS W G R sp lv uv xs s W'' := by
  obtain ⟨G2, h1, h2, h3⟩ := h
  exact ⟨G2, h1, ht.trans h2 hz, fun b hb => (h3 b hb).elim (hz b) fun h => .inr (Nat.le_trans ht.size h)⟩
theorem SpS.first (hb : Below W.heap.size W W') (h : SpS W' G R sp lv uv xs s W'') : SpS W G R sp lv uv xs s W'' := .chain (.of_below hb) (fun _ h => .inl h) h
theorem SpS.next (h : SpS W G R sp lv uv xs s W') (hb : Below W'.heap.size W' W'') : SpS W G R sp lv uv xs s W'' := by
  obtain ⟨G2, h1, h2, h3⟩ := h
  exact ⟨G2, h1.ext hb, h2.trans (.of_below (F := G2) hb) h3, h3⟩
/-- The box's cells. -/
theorem SpA.cells (h : SpA W G R sp lv uv xs s) : ∃ iv ov, (W.cell? ⟨sp, 0, none⟩ = some lv ∧ W.cell? ⟨sp, 1, none⟩ = some iv ∧ W.cell? ⟨sp, 2, none⟩ = some uv ∧ W.cell? ⟨sp, 3, none⟩ = some ov) ∧ W.frozen? ⟨sp, 3, none⟩ = false ∧ W.ownsRow 0 4 1 iv s.i.length (s.i.map .bool) ∧ W.ownsRow 0 3 1 ov s.o.length (s.o.map (.int .i64)) ∧ (∀ b, iv.ownBlock = some b → G b ∧ b ≠ sp) ∧ (∀ b, ov.ownBlock = some b → G b ∧ b ≠ sp) := by
  obtain ⟨iv, ov, h1, h2, h3, h4, h5⟩ := h.go
  have hr : W.ownsRow 0 80 4 (.slice (some ⟨sp, 0, none⟩) 1 1) 1 [lv, iv, uv, ov] := ⟨by simp, .inr ⟨sp, 1, _, rfl, Nat.zero_le _, h1, Nat.le_refl _, by decide, rfl, by simp⟩⟩
  obtain ⟨hc, _, _, _, hf⟩ := box4 hr
  exact ⟨iv, ov, hc, hf, h2, h3, h4, h5⟩
/-- A term's cell among those that are in. -/
theorem in_cell {iv : Value} {I : List Bool} (h : W.ownsRow 0 4 1 iv I.length (I.map .bool)) {t : Nat} (ht : t < I.length) : ∃ ib cap, iv = .slice (some ⟨ib, 0, none⟩) I.length cap ∧ W.cell? ⟨ib, t, none⟩ = some (.bool (inB I t)) ∧ W.frozen? ⟨ib, t, none⟩ = false := by
  rcases h.2 with ⟨_, h0⟩ | ⟨g, cap, cur, rfl, _⟩
  · omega
  · refine ⟨g, cap, rfl, ?_, h.frozenAt t⟩
    have := h.cells rfl t (.bool I[t]) (by rw [List.getElem?_map, List.getElem?_eq_getElem ht]; rfl)
    rw [add_lit, Nat.zero_add] at this
    rw [this]
    unfold inB
    rw [Int.toNat_natCast, List.getD, List.getElem?_eq_getElem ht]
    rfl
/-- One more is in. -/
theorem SpA.mark (h : SpA W G R sp lv uv xs s) {iv : Value} (hc : W.cell? ⟨sp, 1, none⟩ = some iv) {ib cap t : Nat} (hiv : iv = .slice (some ⟨ib, 0, none⟩) s.i.length cap) (ht : t < xs.length) (hf : inB s.i t = false) :
    SpA (W.setCell ⟨ib, t, none⟩ (.bool true)) G R sp lv uv xs ⟨s.i.set t true, s.o⟩ ∧ s.o.length + 1 + (s.i.set t true).count false ≤ xs.length ∧ G ib := by
  obtain ⟨iv', ov', h1, h2, h3, h4, h5⟩ := h.go
  have e : iv' = iv := by
    have := cell_of_row W sp 1 _ _ (0, 0) h1
    rw [hc] at this
    injection this with this
    exact this.symm
  subst e
  subst hiv
  have hib := h4 ib rfl
  have hl := h.len
  have hne : ∀ b, b ≠ ib → (W.setCell ⟨ib, t, none⟩ (.bool true)).heap[b]? = W.heap[b]? := fun b hb => Below.heap_setCell W ⟨ib, t, none⟩ _ b hb
  have hov : ∀ b, ov'.ownBlock = some b → b ≠ ib := fun b hb e => own_apart h2 h3 (by decide) ib rfl (e ▸ hb)
  have hcnt : (s.i.set t true).count false + 1 = s.i.count false := by
    have hlt : t < s.i.length := by omega
    have hf' : s.i[t] = false := by
      unfold inB at hf
      rw [Int.toNat_natCast, List.getD, List.getElem?_eq_getElem hlt] at hf
      simpa using hf
    rw [List.count_set (h := hlt), hf']
    have := List.count_pos_iff.2 (hf' ▸ List.getElem_mem hlt)
    simp; omega
  have hol := h.ol
  refine ⟨⟨⟨_, ov', (hne sp hib.2.symm).trans h1, ?_, own_block h3 fun b hb => hne b (hov b hb), h4, h5⟩, h.gs, fun b hb => by simpa using h.glt b hb, h.gr, fun b hb => by simpa using h.rlt b hb, rdl_kept h.rdl fun b hb => hne b fun e => h.gr b hb (e ▸ hib.1), rdu_kept h.rdu fun b hb => hne b fun e => h.gr b hb (e ▸ hib.1), h.ok, by simp [hl], by show s.o.length + (s.i.set t true).count false ≤ _; omega⟩, by omega, hib.1⟩
  have := (h2.stored t (.bool true)).1
  rw [← List.map_set] at this
  simpa using this
/-- One more is open. -/
theorem SpA.push (h : SpA W G R sp lv uv xs s) {ov ov' : Value} {t : Int} (hc : W.cell? ⟨sp, 3, none⟩ = some ov) (hb1 : Below W.heap.size W W') (hg : W'.grownBy W'' ov.ownBlock) (hr : W''.ownsRow 0 3 1 ov' (s.o.length + 1) ((s.o ++ [t]).map (.int .i64))) (hl : ov'.ownBlock = ov.ownBlock ∨ ov'.ownBlock = some W'.heap.size) (hol : s.o.length + 1 + s.i.count false ≤ xs.length) :
    SpS W G R sp lv uv xs ⟨s.i, s.o ++ [t]⟩ (W''.setCell ⟨sp, 3, none⟩ ov') := by
  obtain ⟨iv, ov2, h1, h2, h3, h4, h5⟩ := h.go
  have e : ov2 = ov := by
    have := cell_of_row W sp 3 _ _ (0, 0) h1
    rw [hc] at this
    injection this with this
    exact this.symm
  subst e
  have hsl := h.glt sp h.gs
  have hs1 := hb1.size
  have hs2 := hg.size
  have old : ∀ b, b < W.heap.size → ov2.ownBlock ≠ some b → b ≠ sp → (W''.setCell ⟨sp, 3, none⟩ ov').heap[b]? = W.heap[b]? := fun b hb hn hsp => by
    rw [Below.heap_setCell W'' ⟨sp, 3, none⟩ _ b hsp, hg.block b (by omega) (fun e => hn e.symm), hb1.block b hb]
  have hbox : W''.heap[sp]? = some (.cells #[lv, iv, uv, ov2] 80 (0, 0)) := by
    rw [hg.block sp (by omega) (fun e => (h5 sp e.symm).2 rfl), hb1.block sp hsl]
    exact h1
  have hvn : ∀ b, ov'.ownBlock = some b → b ≠ sp ∧ (G b ∨ (W.heap.size ≤ b ∧ b < W''.heap.size)) := fun b hb => by
    have hlt := (hr.lt b hb).2
    rcases hl with e | e
    · rw [e] at hb
      exact ⟨(h5 b hb).2, .inl (h5 b hb).1⟩
    · rw [e] at hb
      injection hb with hb
      exact ⟨by omega, .inr ⟨by omega, by omega⟩⟩
  refine ⟨fun b => G b ∨ (W.heap.size ≤ b ∧ b < W''.heap.size), ⟨⟨iv, ov', ?_, own_block h2 fun b hb => old b (h.glt b (h4 b hb).1) (fun e => own_apart h2 h3 (by decide) b hb e) (h4 b hb).2, ?_, fun b hb => ⟨.inl (h4 b hb).1, (h4 b hb).2⟩, fun b hb => ⟨(hvn b hb).2, (hvn b hb).1⟩⟩, .inl h.gs, fun b hb => ?_, fun b hb hb' => ?_, fun b hb => ?_, rdl_kept h.rdl fun b hb => old b (h.rlt b hb) (fun e => h.gr b hb (h5 b e).1) (fun e => h.gr b hb (e ▸ h.gs)), rdu_kept h.rdu fun b hb => old b (h.rlt b hb) (fun e => h.gr b hb (h5 b e).1) (fun e => h.gr b hb (e ▸ h.gs)), h.ok, h.len, by show (s.o ++ [t]).length + _ ≤ _; rw [List.length_append]; simpa using hol⟩, ?_, fun b hb => hb.imp id fun h => h.1⟩
  · rw [heap_setCell_same W'' sp 3 _ _ ov' hbox]; rfl
  · rw [show (s.o ++ [t]).length = s.o.length + 1 by simp]
    exact own_block hr fun b hb => Below.heap_setCell W'' ⟨sp, 3, none⟩ _ b (hvn b hb).1
  · have : (W''.setCell ⟨sp, 3, none⟩ ov').heap.size = W''.heap.size := by simp
    rw [this]
    rcases hb with hb | hb
    · have := h.glt b hb; omega
    · exact hb.2
  · rcases hb' with hb' | hb'
    · exact h.gr b hb hb'
    · have := h.rlt b hb; omega
  · have : (W''.setCell ⟨sp, 3, none⟩ ov').heap.size = W''.heap.size := by simp
    rw [this]
    have := h.rlt b hb; omega
  · have t1 : Turn G W W'' := (Turn.of_below (F := G) hb1).trans (Turn.grown (F := G) hg fun b e => .inl (h5 b e).1) (fun _ h => .inl h)
    exact t1.trans (Turn.setCell (F := G) (w := W'') (a := ⟨sp, 3, none⟩) ov' (.inl h.gs)) (fun _ h => .inl h)
end
/-- A list that reads, whatever turns in G. -/
def KeepL (W : World) (G : Nat → Prop) (A : Option Addr) (n c : Nat) (l : List Int) : Prop := ∀ W' : World, W.heap.size ≤ W'.heap.size → (∀ b, b < W.heap.size → ¬ G b → W'.heap[b]? = W.heap[b]?) → SlA W' 1 A n c (l.map (.int .i64))
section
variable {W W' : World} {G G' R : Nat → Prop} {sp : Nat} {lv uv : Value} {xs : List ND} {s : SD} {A : Option Addr} {n c : Nat} {l : List Int}
theorem KeepL.here (h : KeepL W G A n c l) : SlA W 1 A n c (l.map (.int .i64)) := h W (Nat.le_refl _) fun _ _ _ => rfl
theorem KeepL.turn (h : KeepL W G A n c l) (ht : Turn G W W') : SlA W' 1 A n c (l.map (.int .i64)) := h W' ht.size ht.block
/-- A list whose cells lie where nothing turns. -/
theorem keepL_of (h : SlA W 1 A n c (l.map (.int .i64))) (hg : ∀ b o, A = some ⟨b, o, none⟩ → ¬ G b) : KeepL W G A n c l := fun W' _ hk =>
  ⟨h.nc, h.cm, h.len, fun j u hj => by
    obtain ⟨b, off, e, hc⟩ := h.cells j u hj
    refine ⟨b, off, e, ?_⟩
    rw [World.cell?_of_block (a := ⟨b, off + j, none⟩) (hk b (block_lt_of_cell hc) (hg b off e))]
    exact hc⟩
theorem keepL_new (x : Int) (hg : ∀ b, G b → b < W.heap.size) : KeepL (W.alloc (.cells #[.int .i64 x] 3)) G (some ⟨W.heap.size, 0, none⟩) 1 1 [x] :=
  keepL_of (SlA.lit1 _) fun b o e hb => by injection e with e; injection e with e _; have := hg b hb; omega
/-- A term's list. -/
theorem SpA.keep (h : SpA W G R sp lv uv xs s) {t : Nat} {x : ND} (hx : xs[t]? = some x) : ∃ bn on c0 A' c', lv = .slice (some ⟨bn, on, none⟩) xs.length c0 ∧ (∀ W' : World, W.heap.size ≤ W'.heap.size → (∀ b, b < W.heap.size → ¬ G b → W'.heap[b]? = W.heap[b]?) →
    W'.cell? ⟨bn, on + t * 4, none⟩ = some (.int .i64 x.o) ∧ W'.cell? ⟨bn, on + t * 4 + 1, none⟩ = some (.int .i64 x.n) ∧ W'.cell? ⟨bn, on + t * 4 + 2, none⟩ = some (.string x.s) ∧ W'.cell? ⟨bn, on + t * 4 + 3, none⟩ = some (.slice A' x.l.length c')) ∧ KeepL W G A' x.l.length c' x.l := by
  have ht := (List.getElem?_eq_some_iff.1 hx).1
  obtain ⟨A, c0, qs, rfl, hq, hrd⟩ := h.rdl
  have hqt : qs[t]? = some (qs[t]'(by omega)) := List.getElem?_eq_getElem (by omega)
  generalize qs[t]'(by omega) = q at hqt
  obtain ⟨hs0, hi0⟩ := hrd W fun _ _ => rfl
  obtain ⟨A', c', rfl, -⟩ := hi0 t x q hx hqt
  obtain ⟨bn, on, rfl, -⟩ := hs0.cells (t * 4 + 0) _ (nds_get hx hqt (by decide))
  have all : ∀ W' : World, (∀ b, b < W.heap.size → ¬ G b → W'.heap[b]? = W.heap[b]?) → (W'.cell? ⟨bn, on + t * 4, none⟩ = some (.int .i64 x.o) ∧ W'.cell? ⟨bn, on + t * 4 + 1, none⟩ = some (.int .i64 x.n) ∧ W'.cell? ⟨bn, on + t * 4 + 2, none⟩ = some (.string x.s) ∧ W'.cell? ⟨bn, on + t * 4 + 3, none⟩ = some (.slice A' x.l.length c')) ∧ SlA W' 1 A' x.l.length c' (x.l.map (.int .i64)) := fun W' hk => by
    obtain ⟨hs, hi⟩ := hrd W' fun b hb => hk b (h.rlt b hb) (h.gr b hb)
    obtain ⟨A2, c2, e2, hs2⟩ := hi t x _ hx hqt
    injection e2 with e2 _ e3
    subst e2; subst e3
    have cell : ∀ k, k < 4 → ∀ u, (x.cells (.slice A' x.l.length c'))[k]? = some u → W'.cell? ⟨bn, on + (t * 4 + k), none⟩ = some u := fun k hk u hu => by
      obtain ⟨b, off, e, hc⟩ := hs.cells (t * 4 + k) u ((nds_get hx hqt hk).trans hu)
      injection e with e
      injection e with e e'
      subst e; subst e'
      exact hc
    exact ⟨⟨cell 0 (by decide) _ rfl, by have := cell 1 (by decide) _ rfl; rwa [← Nat.add_assoc] at this, by have := cell 2 (by decide) _ rfl; rwa [← Nat.add_assoc] at this, by have := cell 3 (by decide) _ rfl; rwa [← Nat.add_assoc] at this⟩, hs2⟩
  exact ⟨bn, on, c0, A', c', rfl, fun W' _ hk => (all W' hk).1, fun W' _ hk => (all W' hk).2⟩
/-- What a term is looked at again for. -/
theorem SpA.keepU (h : SpA W G R sp lv uv xs s) {t : Nat} (ht : t < xs.length) : ∃ bu ou c0 A' c', uv = .slice (some ⟨bu, ou, none⟩) xs.length c0 ∧ (∀ W' : World, W.heap.size ≤ W'.heap.size → (∀ b, b < W.heap.size → ¬ G b → W'.heap[b]? = W.heap[b]?) → W'.cell? ⟨bu, ou + t, none⟩ = some (.slice A' (uses xs (t : Int)).length c')) ∧ KeepL W G A' (uses xs (t : Int)).length c' (uses xs (t : Int)) := by
  obtain ⟨A, c0, qs, rfl, hq, hrd⟩ := h.rdu
  have hqt : qs[t]? = some (qs[t]'(by omega)) := List.getElem?_eq_getElem (by omega)
  generalize qs[t]'(by omega) = q at hqt
  obtain ⟨hs0, hi0⟩ := hrd W fun _ _ => rfl
  obtain ⟨A', c', rfl, -⟩ := hi0 t q hqt
  obtain ⟨bn, on, rfl, -⟩ := hs0.cells t _ hqt
  have all : ∀ W' : World, (∀ b, b < W.heap.size → ¬ G b → W'.heap[b]? = W.heap[b]?) → W'.cell? ⟨bn, on + t, none⟩ = some (.slice A' (uses xs (t : Int)).length c') ∧ SlA W' 1 A' (uses xs (t : Int)).length c' ((uses xs (t : Int)).map (.int .i64)) := fun W' hk => by
    obtain ⟨hs, hi⟩ := hrd W' fun b hb => hk b (h.rlt b hb) (h.gr b hb)
    obtain ⟨A2, c2, e2, hs2⟩ := hi t _ hqt
    injection e2 with e2 _ e3
    subst e2; subst e3
    obtain ⟨b, off, e, hc⟩ := hs.cells t _ hqt
    injection e with e
    injection e with e e'
    subst e; subst e'
    exact ⟨hc, hs2⟩
  exact ⟨bn, on, c0, A', c', rfl, fun W' _ hk => (all W' hk).1, fun W' _ hk => (all W' hk).2⟩
end
set_option maxHeartbeats 4000000 in
set_option maxRecDepth 100000 in
theorem add_any (W : World) (G R : Nat → Prop) (sp : Nat) (lv uv : Value) (xs : List ND) (s : SD) (A : Option Addr) (n c : Nat) (l : List Int) (h : SpA W G R sp lv uv xs s) (hl : KeepL W G A n c l) (hh : ∀ t ∈ l, hasB xs t = true) (hn : n ≤ 1000000) :
    Calls Tryd.prog 65 #[.pointer (some ⟨sp, 0, none⟩), .slice A n c] W fun e w' => e = .returned (.tuple #[]) ∧ SpS W G R sp lv uv xs (addL s l) w' := by
  obtain ⟨i0, hi, hz0, hz1, hz2⟩ := info_parts Tryd.infoInt
  have H := hid h; have HL := hid hl; have HH := hid hh
  have hln := hl.here.lenI
  clear h hl hh
  go_enter Tryd.func65, Tryd.ntmps65
  go_wp2_with fail
  go_loopw [8] (fun v wr => ∃ (j : Nat) (G' : Nat → Prop), v = .int .i64 j ∧ j ≤ n ∧ Hid (SpA wr G' R sp lv uv xs (addL s (l.take j)) ∧ Turn G W wr ∧ ∀ b, G' b → G b ∨ W.heap.size ≤ b)) (fun v _ => n - (intOf v).toNat)
  case atStart => exact ⟨0, G, rfl, Nat.zero_le _, hid ⟨H.out, Turn.refl _ _, fun _ h => .inl h⟩⟩
  case round =>
    obtain ⟨j, G', hv, hj, HR⟩ := hrel
    subst hv
    obtain ⟨hs, ht, hg⟩ := HR.out
    have HS := hid hs; have HT := hid ht; have HG := hid hg
    clear hs ht hg HR
    by_cases hlt : j < n
    · obtain ⟨b1, o1, t, rfl, htj, hct⟩ := (HL.out.turn HT.out).elemI hlt
      have hth := HH.out t (List.mem_of_getElem? htj)
      have HLT := hid (show addL s (l.take (j + 1)) = add1 (addL s (l.take j)) t by rw [take_one htj]; unfold addL; rw [List.foldl_append]; rfl)
      have hlt' : (j : Int) < (n : Int) := by omega
      have h2 := has_iff.1 hth
      obtain ⟨k, rfl⟩ := Int.eq_ofNat_of_zero_le h2.1
      have hkx : k < xs.length := by omega
      have hlen := HS.out.len
      have hxn : xs.length ≤ 100000 := HS.out.ok.len
      have hol := HS.out.ol
      generalize addL s (l.take j) = sj at *
      obtain ⟨iv, ov, ⟨c0, c1, c2, c3⟩, f3, own1, own3, -, g3⟩ := HS.out.cells
      obtain ⟨ib, cap, rfl, hcb, hfb⟩ := in_cell own1 (t := k) (by omega)
      have hki : (k : Int) < (sj.i.length : Int) := by omega
      have HO3 := hid own3
      rcases hb : inB sj.i (k : Int) with _ | _
      · rw [hb] at hcb
        have HM := hid (HS.out.mark c1 rfl hkx hb)
        have HAD := hid (show add1 sj (k : Int) = ⟨sj.i.set k true, sj.o ++ [(k : Int)]⟩ by unfold add1; rw [hb, if_neg (by decide), Int.toNat_natCast])
        clear hth h2 htj own1 own3 hb
        go_upto_region 5 with fail
        obtain ⟨hm1, hm2, hm3⟩ := HM.out
        refine forget (R := fun V => SpA V G' R sp lv uv xs ⟨sj.i.set k true, sj.o⟩ ∧ Turn G' wr V) ?_ ⟨hm1, Turn.setCell (F := G') (w := wr) (a := ⟨ib, k, none⟩) _ (.inl hm3)⟩
        clear c0 c1 c2 c3 f3 hcb hfb hm1 hm3 HM HO3 g3 hct
        rintro V ⟨hv1, hv2⟩
        have HV := hid hv1; have HVT := hid hv2
        clear hv1 hv2
        obtain ⟨iv2, ov2, ⟨c0, c1, c2, c3⟩, f3, -, own3, -, g3⟩ := HV.out.cells
        obtain ⟨Ao, co, rfl, -⟩ := SlA.owned own3
        have HO3 := hid own3; have HG3 := hid g3
        have hspl := HV.out.glt sp HV.out.gs
        have c3' : (V.alloc (.cells #[.int .i64 k] 3)).cell? ⟨sp, 3, none⟩ = some (.slice Ao sj.o.length co) := (World.cell?_alloc_past _ _ _ hspl).trans c3
        have C3 := hid c3
        have hboxV : ∀ V' : World, V'.heap[sp]? = V.heap[sp]? → V'.cell? ⟨sp, 3, none⟩ = some (.slice Ao sj.o.length co) ∧ V'.frozen? ⟨sp, 3, none⟩ = false := fun V' hV => by
          obtain ⟨iv3, ov3, h31, -⟩ := HV.out.go
          have h32 := cell_of_row V sp 3 _ _ (0, 0) h31
          rw [C3.out] at h32
          injection h32 with h32
          subst h32
          have hr : V'.ownsRow 0 80 4 (.slice (some ⟨sp, 0, none⟩) 1 1) 1 [lv, iv3, uv, .slice Ao sj.o.length co] := ⟨by simp, .inr ⟨sp, 1, _, rfl, Nat.zero_le _, hV.trans h31, Nat.le_refl _, by decide, rfl, by simp⟩⟩
          exact ⟨(box4 hr).1.2.2.2, (box4 hr).2.2.2.2⟩
        have HBV := hid hboxV
        have hne3 : (Value.slice Ao sj.o.length co).ownBlock ≠ some sp := fun e => (HG3.out sp e).2 rfl
        have HN3 := hid hne3
        clear own3 g3 hboxV hne3
        go_wp2_with (first
          | (at_builtin; refine wpList_append_sl _ rfl _ _ 23 rfl 0 3 i0 (.int .i64 0) 1 8 Tryd.underlying23 hi hz0 hz1 hz2 rfl (by decide) (.slice Ao sj.o.length co) sj.o.length (sj.o.map (.int .i64)) rfl (HO3.out.alloc _) _ 1 1 [.int .i64 k] rfl (SlA.lit1 _) (one_int _ _) (by unfold maxLen; omega) (by omega) (Nat.zero_le _) ?_; intro v5 w5 own5 gr5 loc5; obtain ⟨A5, c5, rfl, -⟩ := SlA.owned own5; have HP := hid (HV.out.push (t := (k : Int)) C3.out ((Below.refl _ _).alloc (Nat.le_refl _) (.cells #[.int .i64 k] 3)) gr5 (by rw [List.map_append]; exact own5) loc5 hm2); have hq5 := HBV.out w5 ((gr5.block sp (by simp; omega) (fun e => HN3.out e.symm)).trans (heap_alloc_old _ _ hspl)); obtain ⟨q5, qf5⟩ := hq5; clear own5 gr5 loc5)
          | fail)
        obtain ⟨G2, p1, p2, p3⟩ := HP.out
        have hvs := HVT.out.size
        go_roundw
        case rel =>
          refine ⟨j + 1, G2, by go_num, by omega, hid ⟨by rw [HLT.out, HAD.out]; exact p1, (HT.out.trans (HVT.out.trans p2 (fun _ h => .inl h)) HG.out), fun b hb => ?_⟩⟩
          have := HT.out.size
          rcases p3 b hb with h' | h'
          · exact HG.out b h'
          · exact .inr (by omega)
        case measure => simp [intOf]; omega
      · rw [hb] at hcb
        have HAD := hid (show add1 sj (k : Int) = sj by unfold add1; rw [hb]; rfl)
        clear hth h2 htj own1 own3 hb
        go_wp2_with fail
        go_roundw
        case rel => exact ⟨j + 1, G', by go_num, by omega, hid ⟨by rw [HLT.out, HAD.out]; exact HS.out, HT.out, HG.out⟩⟩
        case measure => simp [intOf]; omega
    · have hjn : j = n := by omega
      have HTK := hid (show l.take j = l from List.take_of_length_le (by omega))
      have hlt' : ¬ (j : Int) < (n : Int) := by omega
      go_wp2_with fail
      go_end0
      exact ⟨rfl, G', by rw [← HTK.out]; exact HS.out, HT.out, HG.out⟩
end Go.Proofs.YtadbgmfdbahcbaaDoor

