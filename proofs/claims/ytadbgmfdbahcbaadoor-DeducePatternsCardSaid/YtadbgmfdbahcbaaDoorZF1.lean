import Derived.Test.YtadbgmfdbahcbaaDoorZE9
import Derived.Laws.MakeOwn
import Derived.Laws.Entries
/- deduce: look (the terms, copied). -/
namespace Go.Proofs.YtadbgmfdbahcbaaDoor
open Go.RowKit Go.KK Go.Shelf Go.Maps
set_option linter.unusedVariables false
set_option linter.unusedSimpArgs false

theorem use_le {xs : List ND} {t : Nat} (ht : t < xs.length) {m1 m2 : List Int} (h : links xs (nodeF xs (t : Int)) = m1 ++ m2) (q : Int) : (useOf (pairs xs t ++ m1.map fun y => ((t : Int), y)) q).length ≤ (uses xs q).length := by
  have hp : ∀ n, t + 1 ≤ n → ∃ r, pairs xs n = pairs xs (t + 1) ++ r := by
    intro n hn
    induction n with
    | zero => omega
    | succ n ih =>
      rcases Nat.lt_or_ge t n with h1 | h1
      · obtain ⟨r, hr⟩ := ih (by omega)
        exact ⟨r ++ pairsT xs n, by rw [pairs_succ, hr, List.append_assoc]⟩
      · have : n = t := by omega
        subst this
        exact ⟨[], by simp⟩
  obtain ⟨r, hr⟩ := hp xs.length (by omega)
  unfold uses
  rw [hr, pairs_succ]
  unfold pairsT
  rw [h]
  unfold useOf
  simp only [List.map_append, List.filter_append, List.length_append]
  omega
/-- The terms that are copied, so far. -/
structure LkS (w0 w : World) (sp sv B : Nat) (lv : Value) (xs : List ND) (j : Nat) (qs : List Value) : Prop where
  var : w.heap[sv]? = some (.cells #[.pointer (some ⟨sp, 0, none⟩)] 60 (0, 0))
  box : w.heap[sp]? = some (.cells #[lv, .slice none 0 0, .slice none 0 0, .slice none 0 0] 80 (0, 0))
  row : w.ownsRow B 32 4 lv j (nds (xs.take j) qs)
  ql : qs.length = j
  qr : ∀ (i : Nat) x q, (xs.take j)[i]? = some x → qs[i]? = some q → w.ownsRow B 3 1 q x.l.length (x.l.map (.int .i64))
  lo : sp < B ∧ sv < B ∧ sp ≠ sv ∧ B ≤ w.heap.size ∧ w0.heap.size ≤ sp ∧ w0.heap.size ≤ sv
  low : Below w0.heap.size w0 w
section
variable {w0 w w1 w4 : World} {sp sv B : Nat} {lv : Value} {xs : List ND} {j : Nat} {qs : List Value}
theorem LkS.ext (h : LkS w0 w sp sv B lv xs j qs) (hb : Below w.heap.size w w1) : LkS w0 w1 sp sv B lv xs j qs := by
  obtain ⟨l1, l2, l3, l4, l5, l6⟩ := h.lo
  exact ⟨(hb.block sv (by omega)).trans h.var, (hb.block sp (by omega)).trans h.box, own_ext h.row hb, h.ql, fun i x q hx hq => own_ext (h.qr i x q hx hq) hb, ⟨l1, l2, l3, Nat.le_trans l4 hb.size, l5, l6⟩, h.low.trans (hb.mono (by omega))⟩
theorem LkS.cell (h : LkS w0 w sp sv B lv xs j qs) (hb : Below w.heap.size w w1) (hg : w1.grownBy w4 lv.ownBlock) : w4.cell? ⟨sv, 0, none⟩ = some (.pointer (some ⟨sp, 0, none⟩)) ∧ w4.cell? ⟨sp, 0, none⟩ = some lv ∧ w4.frozen? ⟨sp, 0, none⟩ = false := by
  obtain ⟨l1, l2, l3, l4, l5, l6⟩ := h.lo
  have low : ∀ b, b < B → w4.heap[b]? = w.heap[b]? := fun b hb' => (hg.block b (by have := hb.size; omega) (fun e => by have := (h.row.lt b e.symm).1; omega)).trans (hb.block b (by omega))
  have hbox := (low sp l1).trans h.box
  exact ⟨cell_of_row w4 sv 0 _ _ (0, 0) ((low sv l2).trans h.var), cell_of_row w4 sp 0 _ _ (0, 0) hbox, by simp [World.frozen?, hbox]⟩
theorem LkS.put (h : LkS w0 w sp sv B lv xs j qs) {x : ND} {q v : Value} (hx : xs[j]? = some x) (hb : Below w.heap.size w w1) (hq : w1.ownsRow B 3 1 q x.l.length (x.l.map (.int .i64)))
    (hg : w1.grownBy w4 lv.ownBlock) (ho : w4.ownsRow B 32 4 v (j + 1) (nds (xs.take j) qs ++ x.cells q)) : LkS w0 (w4.setCell ⟨sp, 0, none⟩ v) sp sv B v xs (j + 1) (qs ++ [q]) := by
  obtain ⟨l1, l2, l3, l4, l5, l6⟩ := h.lo
  have hs1 := hb.size
  have hs2 := hg.size
  have hr1 := own_ext h.row hb
  have low : ∀ b, b < B → w4.heap[b]? = w.heap[b]? := fun b hb' => (hg.block b (by omega) (fun e => by have := (h.row.lt b e.symm).1; omega)).trans (hb.block b (by omega))
  have hst : ∀ b, b ≠ sp → (w4.setCell ⟨sp, 0, none⟩ v).heap[b]? = w4.heap[b]? := fun b hn => Below.heap_setCell w4 ⟨sp, 0, none⟩ _ b hn
  have htk : xs.take (j + 1) = xs.take j ++ [x] := take_one hx
  have hjx : (xs.take j).length = j := by
    have := (List.getElem?_eq_some_iff.1 hx).1
    rw [List.length_take]; omega
  have keepq : ∀ {u : Value} {m : Nat} {l : List Value}, w1.ownsRow B 3 1 u m l → (w4.setCell ⟨sp, 0, none⟩ v).ownsRow B 3 1 u m l := fun {u m l} hu => own_block hu fun b e => by
    have := hu.lt b e
    rw [hst b (by omega)]
    exact hg.block b this.2 fun e' => own_apart hu hr1 (by decide) b e e'.symm
  refine ⟨(hst sv (fun e => l3 e.symm)).trans ((low sv l2).trans h.var), ?_, ?_, by simp [h.ql], ?_, ⟨l1, l2, l3, by simp; omega, l5, l6⟩, ?_⟩
  · rw [heap_setCell_same w4 sp 0 _ _ v ((low sp l1).trans h.box)]; rfl
  · rw [htk, nds_snoc (by rw [h.ql, hjx])]
    exact own_block ho fun b e => hst b (by have := (ho.lt b e).1; omega)
  · intro i y u hy hu
    rw [htk] at hy
    by_cases hi : i < j
    · rw [List.getElem?_append_left (by omega)] at hy
      rw [List.getElem?_append_left (by rw [h.ql]; exact hi)] at hu
      exact keepq (own_ext (h.qr i y u hy hu) hb)
    · have hij : i = j := by
        have := (List.getElem?_eq_some_iff.1 hy).1
        simp at this
        omega
      subst hij
      rw [List.getElem?_append_right (by omega), hjx, Nat.sub_self] at hy
      rw [List.getElem?_append_right (by rw [h.ql]; exact Nat.le_refl _), h.ql, Nat.sub_self] at hu
      injection hy with hy
      injection hu with hu
      subst hy; subst hu
      exact keepq hq
  · have b1 : Below w0.heap.size w0 w1 := h.low.trans (hb.mono (by omega))
    have b2 : Below w0.heap.size w0 w4 := below_append b1 hg hr1 (by omega) (by omega)
    exact b2.setCell (p := ⟨sp, 0, none⟩) l5 v
end
theorem made1 (v : Value) (n : Nat) : (madeCells #[v] n).toList = List.replicate n v := by
  apply List.ext_getElem
  · simp [madeCells]
  · intro i h1 h2
    simp [madeCells, Nat.mod_one]
theorem own_mono {w : World} {b b' : Nat} {e : TypeId} {size n : Nat} {v : Value} {cs : List Value} (h : w.ownsRow b e size v n cs) (hb : b' ≤ b) : w.ownsRow b' e size v n cs := by
  refine ⟨h.1, ?_⟩
  rcases h.2 with h2 | ⟨g, cap, cur, rfl, hg, r⟩
  · exact .inl h2
  · exact .inr ⟨g, cap, cur, rfl, Nat.le_trans hb hg, r⟩
theorem UsS.ext {w w1 : World} {sp sv B bu cu : Nat} {lv iv : Value} {n : Nat} {ps : List (Int × Int)} {us : List Value} (h : UsS w sp sv B bu cu lv iv n ps us) (hb : Below w.heap.size w w1) : UsS w1 sp sv B bu cu lv iv n ps us := by
  obtain ⟨l1, l2, l3, l4⟩ := h.lo
  exact ⟨(hb.block sv (by omega)).trans h.var, (hb.block sp (by omega)).trans h.box, own_ext h.row hb, fun x u hx => own_ext (h.rows x u hx) hb, h.sep, h.ne, l1, l2, l3, Nat.le_trans l4 hb.size⟩
/-- The copied terms, as they read. -/
theorem rd_at {w w' : World} {B : Nat} {lv : Value} {xs : List ND} {qs : List Value} (hr : w.ownsRow B 32 4 lv xs.length (nds xs qs)) (hq : qs.length = xs.length)
    (hqr : ∀ (i : Nat) x q, xs[i]? = some x → qs[i]? = some q → w.ownsRow B 3 1 q x.l.length (x.l.map (.int .i64)))
    (hk : ∀ b, B ≤ b → b < w.heap.size → (∀ c t f, w.heap[b]? = some (.cells c t f) → t = 32 ∨ t = 3) → w'.heap[b]? = w.heap[b]?) : ∃ A c, lv = .slice A xs.length c ∧ SlA w' 4 A xs.length c (nds xs qs) ∧ ∀ (j : Nat) x q, xs[j]? = some x → qs[j]? = some q → In1 w' q x.l := by
  have kp : ∀ {e : TypeId} {size n : Nat} {v : Value} {cs : List Value}, w.ownsRow B e size v n cs → (e = 32 ∨ e = 3) → w'.ownsRow B e size v n cs := fun {e size n v cs} h he => own_block h fun b hb => by
    have hl := h.lt b hb
    refine hk b hl.1 hl.2 fun c t f hc => ?_
    rcases h.2 with ⟨rfl, _⟩ | ⟨g, cap, cur, rfl, hg, hh, r⟩
    · cases hb
    · have hb' : g = b := by injection hb
      subst hb'
      rw [hh] at hc
      injection hc with hc
      injection hc with _ hc
      rw [← hc]
      exact he
  obtain ⟨A, c, rfl, hs⟩ := SlA.owned (kp hr (.inl rfl))
  refine ⟨A, c, rfl, hs, fun j x q hx hq' => ?_⟩
  obtain ⟨A', c', rfl, hs'⟩ := SlA.owned (kp (hqr j x q hx hq') (.inr rfl))
  exact ⟨A', c', rfl, hs'⟩
/-- What stays as it is while the rows of uses are noted. -/
structure LkR (w0 w : World) (B : Nat) (lv iv : Value) (xs : List ND) (qs : List Value) : Prop where
  row : w.ownsRow B 32 4 lv xs.length (nds xs qs)
  ql : qs.length = xs.length
  qr : ∀ (i : Nat) x q, xs[i]? = some x → qs[i]? = some q → w.ownsRow B 3 1 q x.l.length (x.l.map (.int .i64))
  inr : w.ownsRow B 4 1 iv xs.length ((List.replicate xs.length false).map .bool)
  low : Below w0.heap.size w0 w
  lo : w0.heap.size ≤ B
section
variable {w0 w w' : World} {sp sv B B3 bu cu : Nat} {lv iv : Value} {xs : List ND} {qs us : List Value} {bc : Array Value}
theorem own_new {T : TypeId} {n : Nat} {v : Value} (hb : bc.toList = List.replicate n v) (hn : n ≤ 100000) : (w.alloc (.cells bc T)).ownsRow w.heap.size T 1 (.slice (some ⟨w.heap.size, 0, none⟩) n n) n (List.replicate n v) :=
  ⟨by simp, .inr ⟨w.heap.size, n, bc, rfl, Nat.le_refl _, heap_alloc_new w _, Nat.le_refl _, by unfold maxLen; omega, by rw [← Array.length_toList, hb]; simp, by rw [hb]; simp⟩⟩
theorem LkS.made (h : LkS w0 w sp sv B lv xs xs.length qs) (hn : xs.length ≤ 100000) (hb : bc.toList = List.replicate xs.length (.bool false)) :
    LkR w0 (((w.alloc (.cells bc 4)).setCell ⟨sp, 1, none⟩ (.slice (some ⟨w.heap.size, 0, none⟩) xs.length xs.length)).drew) B lv (.slice (some ⟨w.heap.size, 0, none⟩) xs.length xs.length) xs qs ∧
    (((w.alloc (.cells bc 4)).setCell ⟨sp, 1, none⟩ (.slice (some ⟨w.heap.size, 0, none⟩) xs.length xs.length)).drew).heap[sv]? = some (.cells #[.pointer (some ⟨sp, 0, none⟩)] 60 (0, 0)) ∧
    (((w.alloc (.cells bc 4)).setCell ⟨sp, 1, none⟩ (.slice (some ⟨w.heap.size, 0, none⟩) xs.length xs.length)).drew).heap[sp]? = some (.cells #[lv, .slice (some ⟨w.heap.size, 0, none⟩) xs.length xs.length, .slice none 0 0, .slice none 0 0] 80 (0, 0)) ∧ B < (((w.alloc (.cells bc 4)).setCell ⟨sp, 1, none⟩ (.slice (some ⟨w.heap.size, 0, none⟩) xs.length xs.length)).drew).heap.size := by
  obtain ⟨l1, l2, l3, l4, l5, l6⟩ := h.lo
  have htk : xs.take xs.length = xs := List.take_length
  have hrow := h.row; have hqr := h.qr
  rw [htk] at hrow hqr
  have old : ∀ b, b < w.heap.size → b ≠ sp → (((w.alloc (.cells bc 4)).setCell ⟨sp, 1, none⟩ (.slice (some ⟨w.heap.size, 0, none⟩) xs.length xs.length)).drew).heap[b]? = w.heap[b]? := fun b hb hn =>
    (Below.heap_setCell _ ⟨sp, 1, none⟩ _ b hn).trans (Below.heap_alloc w _ b hb)
  refine ⟨⟨own_block hrow fun b e => old b (hrow.lt b e).2 (by have := (hrow.lt b e).1; omega), h.ql, fun i x q hx hq => own_block (hqr i x q hx hq) fun b e => old b ((hqr i x q hx hq).lt b e).2 (by have := ((hqr i x q hx hq).lt b e).1; omega), ?_, ?_, by omega⟩, (old sv (by omega) fun e => l3 e.symm).trans h.var, ?_, by show _ < ((w.alloc _).setCell _ _).heap.size; simp; omega⟩
  · rw [List.map_replicate]
    exact own_mono (own_block (own_new hb hn) fun b e => (Below.heap_setCell (w.alloc (.cells bc 4)) ⟨sp, 1, none⟩ _ b (fun e' => by have e2 : w.heap.size = b := (by injection e); have e3 : b = sp := e'; omega))) l4
  · exact below_drew ((h.low.alloc h.low.size _).setCell (p := ⟨sp, 1, none⟩) l5 _)
  · exact (heap_setCell_same (w.alloc (.cells bc 4)) sp 1 _ _ _ ((Below.heap_alloc w _ sp (by omega)).trans h.box)).trans rfl
theorem LkR.made (h : LkR w0 w B lv iv xs qs) (hv : w.heap[sv]? = some (.cells #[.pointer (some ⟨sp, 0, none⟩)] 60 (0, 0))) (hx : w.heap[sp]? = some (.cells #[lv, iv, .slice none 0 0, .slice none 0 0] 80 (0, 0)))
    (hs : sp < B) (hsv : sv < B) (hne : sp ≠ sv) (h0 : w0.heap.size ≤ sp) (hB : B ≤ w.heap.size) (hn : xs.length ≤ 100000) (hb : bc.toList = List.replicate xs.length (.slice none 0 0)) :
    LkR w0 (((w.alloc (.cells bc 23)).setCell ⟨sp, 2, none⟩ (.slice (some ⟨w.heap.size, 0, none⟩) xs.length xs.length)).drew) B lv iv xs qs ∧
    UsS (((w.alloc (.cells bc 23)).setCell ⟨sp, 2, none⟩ (.slice (some ⟨w.heap.size, 0, none⟩) xs.length xs.length)).drew) sp sv (w.heap.size + 1) w.heap.size xs.length lv iv xs.length [] (List.replicate xs.length (.slice none 0 0)) := by
  have old : ∀ b, b < w.heap.size → b ≠ sp → (((w.alloc (.cells bc 23)).setCell ⟨sp, 2, none⟩ (.slice (some ⟨w.heap.size, 0, none⟩) xs.length xs.length)).drew).heap[b]? = w.heap[b]? := fun b hb hn =>
    (Below.heap_setCell _ ⟨sp, 2, none⟩ _ b hn).trans (Below.heap_alloc w _ b hb)
  have kp : ∀ {e : TypeId} {size n : Nat} {v : Value} {cs : List Value}, w.ownsRow B e size v n cs → (((w.alloc (.cells bc 23)).setCell ⟨sp, 2, none⟩ (.slice (some ⟨w.heap.size, 0, none⟩) xs.length xs.length)).drew).ownsRow B e size v n cs := fun h => own_block h fun b e => old b (h.lt b e).2 (by have := (h.lt b e).1; omega)
  refine ⟨⟨kp h.row, h.ql, fun i x q hx hq => kp (h.qr i x q hx hq), kp h.inr, below_drew ((h.low.alloc h.low.size _).setCell (p := ⟨sp, 2, none⟩) h0 _), h.lo⟩, ⟨(old sv (by omega) fun e => hne e.symm).trans hv, (heap_setCell_same (w.alloc (.cells bc 23)) sp 2 _ _ _ ((Below.heap_alloc w _ sp (by omega)).trans hx)).trans rfl, ?_, ?_, ?_, ⟨by omega, by omega, hne⟩, by omega, by omega, by omega, by show _ ≤ ((w.alloc _).setCell _ _).heap.size; simp⟩⟩
  · exact own_mono (own_block (own_new hb hn) fun b e => (Below.heap_setCell (w.alloc (.cells bc 23)) ⟨sp, 2, none⟩ _ b (fun e' => by have e2 : w.heap.size = b := (by injection e); have e3 : b = sp := e'; omega))) (Nat.zero_le _)
  · intro x u hu
    rw [List.getElem?_replicate] at hu
    split at hu
    · injection hu with hu
      subst hu
      exact World.ownsRow_nil _ _ _ _
    · cases hu
  · intro x y u v b _ hu hv e
    rw [List.getElem?_replicate] at hu
    split at hu
    · injection hu with hu
      subst hu
      cases e
    · cases hu
/-- A copied term, as it reads whatever is noted. -/
theorem LkR.keep (h : LkR w0 w B lv iv xs qs) (hV : w.heap[bu]? = some (.cells bc 23 (0, 0))) {t : Nat} {x : ND} (hx : xs[t]? = some x) : ∃ bn on c0 A' c', lv = .slice (some ⟨bn, on, none⟩) xs.length c0 ∧ ∀ W' : World, Turn (fun b => b = bu ∨ w.heap.size ≤ b) w W' →
    (W'.cell? ⟨bn, on + t * 4, none⟩ = some (.int .i64 x.o) ∧ W'.cell? ⟨bn, on + t * 4 + 1, none⟩ = some (.int .i64 x.n) ∧ W'.cell? ⟨bn, on + t * 4 + 2, none⟩ = some (.string x.s) ∧ W'.cell? ⟨bn, on + t * 4 + 3, none⟩ = some (.slice A' x.l.length c')) ∧ SlA W' 1 A' x.l.length c' (x.l.map (.int .i64)) := by
  have ht := (List.getElem?_eq_some_iff.1 hx).1
  have hq := h.ql
  have hqt : qs[t]? = some (qs[t]'(by omega)) := List.getElem?_eq_getElem (by omega)
  generalize qs[t]'(by omega) = q at hqt
  obtain ⟨A, c0, rfl, hs0, hi0⟩ := rd_at (w' := w) h.row h.ql h.qr fun _ _ _ _ => rfl
  obtain ⟨A', c', rfl, -⟩ := hi0 t x q hx hqt
  obtain ⟨bn, on, rfl, -⟩ := hs0.cells (t * 4 + 0) _ (nds_get hx hqt (by decide))
  refine ⟨bn, on, c0, A', c', rfl, fun W' hk => ?_⟩
  obtain ⟨A3, c3, e3, hs, hi⟩ := rd_at (w' := W') h.row h.ql h.qr fun b h1 h2 hty => hk.block b h2 fun e => e.elim (fun e => by subst e; exact absurd (hty _ _ _ hV) (by decide)) (by omega)
  injection e3 with e3 _ e4
  subst e3; subst e4
  obtain ⟨A2, c2, e2, hs2⟩ := hi t x _ hx hqt
  injection e2 with e2 _ e3
  subst e2; subst e3
  have cell : ∀ k, k < 4 → ∀ u, (x.cells (.slice A' x.l.length c'))[k]? = some u → W'.cell? ⟨bn, on + (t * 4 + k), none⟩ = some u := fun k hk u hu => by
    obtain ⟨b, off, e, hc⟩ := hs.cells (t * 4 + k) u ((nds_get hx hqt hk).trans hu)
    injection e with e
    injection e with e e'
    subst e; subst e'
    exact hc
  exact ⟨⟨cell 0 (by decide) _ rfl, by have := cell 1 (by decide) _ rfl; rwa [← Nat.add_assoc] at this, by have := cell 2 (by decide) _ rfl; rwa [← Nat.add_assoc] at this, by have := cell 3 (by decide) _ rfl; rwa [← Nat.add_assoc] at this⟩, hs2⟩
/-- The space, once all is noted. -/
theorem LkR.done (h : LkR w0 w B lv iv xs qs) (hV : w.heap[bu]? = some (.cells bc 23 (0, 0))) (hB3 : B3 ≤ w.heap.size) (hBB : B ≤ B3) (hsp : sp < B) (h0 : w0.heap.size ≤ sp) (ok : Okay xs) (hu : UsS w' sp sv B3 bu cu lv iv xs.length (pairs xs xs.length) us) (ht : Turn (fun b => b = bu ∨ B3 ≤ b) w w') (hold : ∀ b, iv.ownBlock = some b → b < B3) (hrl : ∀ b, B ≤ b → B3 ≤ b → b < w.heap.size → False) :
    ∃ G R, SpA w' G R sp lv (.slice (some ⟨bu, 0, none⟩) xs.length cu) xs ⟨List.replicate xs.length false, []⟩ ∧ ∀ b, G b → w0.heap.size ≤ b := by
  have hsz := ht.size
  have hiv := h.inr.lt
  have tkeep : ∀ b, b < B3 → b ≠ bu → w'.heap[b]? = w.heap[b]? := fun b hb hn => ht.block b (by omega) fun e => e.elim hn (by omega)
  have hinr : w'.ownsRow 0 4 1 iv xs.length ((List.replicate xs.length false).map .bool) := own_mono (own_block h.inr fun b e => tkeep b (hold b e) fun e' => by
    subst e'
    rcases h.inr.2 with ⟨rfl, _⟩ | ⟨g, cap, cur, rfl, hg, hh, r⟩
    · cases e
    · have hb' : g = b := by injection e
      subst hb'
      rw [hV] at hh
      injection hh with hh
      injection hh with _ hh
      exact absurd hh (by decide)) (Nat.zero_le _)
  obtain ⟨m1, m2, m3, m4⟩ := hu.lo
  obtain ⟨q1, q2, q3⟩ := hu.ne
  refine ⟨fun b => b = sp ∨ iv.ownBlock = some b, fun b => b < w'.heap.size ∧ b ≠ sp ∧ iv.ownBlock ≠ some b, ⟨⟨iv, .slice none 0 0, hu.box, by simpa using hinr, World.ownsRow_nil _ _ _ _, fun b e => ⟨.inr e, fun e' => by have := (hiv b e).1; omega⟩, fun b e => by cases e⟩, .inl rfl, fun b hb => hb.elim (fun e => by omega) fun e => (hinr.lt b e).2, fun b hb hg => hg.elim hb.2.1 hb.2.2, fun b hb => hb.1, ?_, ?_, ok, by simp, by simp⟩, fun b hb => hb.elim (fun e => by omega) fun e => by have := (hiv b e).1; have := h.lo; omega⟩
  · obtain ⟨A, c, e, -, -⟩ := rd_at (w' := w) h.row h.ql h.qr fun _ _ _ _ => rfl
    refine ⟨A, c, qs, e, h.ql, fun W' hW => ?_⟩
    obtain ⟨A', c', e', hs, hi⟩ := rd_at (w' := W') h.row h.ql h.qr fun b h1 h2 hty => by
      have hb3 : b < B3 := by
        rcases Nat.lt_or_ge b B3 with h | h
        · exact h
        · exact (hrl b h1 h h2).elim
      have hnb : b ≠ bu := fun e => by
        subst e
        exact absurd (hty _ _ _ hV) (by decide)
      have hni : iv.ownBlock ≠ some b := fun e => by
        rcases h.inr.2 with ⟨rfl, _⟩ | ⟨g, cap, cur, rfl, hg, hh, r⟩
        · cases e
        · have hb' : g = b := by injection e
          subst hb'
          exact absurd (hty _ _ _ hh) (by decide)
      exact (hW b ⟨by omega, by omega, hni⟩).trans (tkeep b hb3 hnb)
    rw [e] at e'
    injection e' with e1 _ e3
    subst e1; subst e3
    exact ⟨hs, hi⟩
  · refine ⟨some ⟨bu, 0, none⟩, cu, us, rfl, hu.len, fun W' hW => ⟨?_, fun j q hq => ?_⟩⟩
    · have hr := own_block (w' := W') hu.row fun b e => hW b ⟨(hu.row.lt b e).2, fun e' => by (have e2 : bu = b := by injection e); omega, fun e' => own_apart hinr hu.row (by decide) b e' e⟩
      obtain ⟨A, c, e, hs⟩ := SlA.owned hr
      injection e with e1 _ e3
      subst e1; subst e3
      exact hs
    · have h1 := hu.rows j q hq
      have hr := own_block (w' := W') h1 fun b e => hW b ⟨(h1.lt b e).2, fun e' => by have := (h1.lt b e).1; omega, fun e' => own_apart hinr h1 (by decide) b e' e⟩
      obtain ⟨A, c, rfl, hs⟩ := SlA.owned hr
      exact ⟨A, c, rfl, hs⟩
end
theorem infoBool : (Tryd.prog.info? 4).map (fun i => (i.zero, i.size, i.bytes)) = some (some (.bool false), 1, 1) := by kernel_rfl
theorem infoInts : (Tryd.prog.info? 23).map (fun i => (i.zero, i.size, i.bytes)) = some (some (.slice none 0 0), 1, 24) := by kernel_rfl
theorem make1 {P : Program} {t e : TypeId} {i : TypeInfo} {z : Value} {bytes : Nat} (ht : P.underlying t = some (.slice e)) (hi : P.info? e = some i) (hz : i.zero = some z) (hs : i.size = 1) (hb : i.bytes = bytes) (hbb : bytes ≤ 24) (hzc : z.cells = #[z]) {n : Nat} (hn : n ≤ 100000) (U : World) :
    (Instr.makeSlice t (.int .i64 (n : Int)) (.int .i64 (n : Int))).run P U = .ok (.slice (some ⟨U.heap.size, 0, none⟩) n n) (U.alloc (.cells (madeCells #[z] n) e)) := by
  have hbn : bytes * n ≤ 24 * n := Nat.mul_le_mul_right _ hbb
  have hb' : (i.bytes : Int) * (n : Int) ≤ 281474976710656 := by
    have h : ((i.bytes * n : Nat) : Int) ≤ 281474976710656 := by rw [hb]; omega
    rwa [Int.natCast_mul] at h
  have hr := run_make (P := P) U t e i z ht hi hz .i64 .i64 n n (by omega) (by omega) hb' (by omega)
  simp only [Int.toNat_natCast, hs, Nat.mul_one, hzc] at hr
  exact hr
end Go.Proofs.YtadbgmfdbahcbaaDoor

