import Derived.Test.YtadbgmfdbahcbaaDoorZE8
import Derived.Test.YtadbgmfdbahcbaaDoorZK6
/- deduce: what each term is looked at for, in memory; the closure that notes one more. -/
namespace Go.Proofs.YtadbgmfdbahcbaaDoor
open Go.RowKit Go.KK Go.Shelf Go.Maps
set_option linter.unusedVariables false
set_option linter.unusedSimpArgs false

/-- The rows of what each term is looked at for, while they are noted. -/
structure UsS (w : World) (sp sv B bu cu : Nat) (lv iv : Value) (n : Nat) (ps : List (Int × Int)) (us : List Value) : Prop where
  var : w.heap[sv]? = some (.cells #[.pointer (some ⟨sp, 0, none⟩)] 60 (0, 0))
  box : w.heap[sp]? = some (.cells #[lv, iv, .slice (some ⟨bu, 0, none⟩) n cu, .slice none 0 0] 80 (0, 0))
  row : w.ownsRow 0 23 1 (.slice (some ⟨bu, 0, none⟩) n cu) n us
  rows : ∀ (x : Nat) u, us[x]? = some u → w.ownsRow B 3 1 u (useOf ps (x : Int)).length ((useOf ps (x : Int)).map (.int .i64))
  sep : ∀ (x y : Nat) u v b, x ≠ y → us[x]? = some u → us[y]? = some v → u.ownBlock = some b → v.ownBlock ≠ some b
  ne : sp ≠ bu ∧ sv ≠ bu ∧ sp ≠ sv
  lo : sp < B ∧ sv < B ∧ bu < B ∧ B ≤ w.heap.size
section
variable {w w1 w4 : World} {sp sv B bu cu : Nat} {lv iv : Value} {n : Nat} {ps : List (Int × Int)} {us : List Value}
theorem UsS.len (h : UsS w sp sv B bu cu lv iv n ps us) : us.length = n := by have := h.row.1; omega
theorem UsS.cell (h : UsS w sp sv B bu cu lv iv n ps us) {x : Nat} {u : Value} (hx : us[x]? = some u) (hb : Below w.heap.size w w1) (hg : w1.grownBy w4 u.ownBlock) : (w4.cell? ⟨bu, x, none⟩ = some u ∧ w4.frozen? ⟨bu, x, none⟩ = false) ∧ w4.cell? ⟨sv, 0, none⟩ = some (.pointer (some ⟨sp, 0, none⟩)) ∧ w4.cell? ⟨sp, 2, none⟩ = some (.slice (some ⟨bu, 0, none⟩) n cu) := by
  obtain ⟨l1, l2, l3, l4⟩ := h.lo
  have hub := (h.rows x u hx).lt
  have hr := own_block (w' := w4) h.row fun b e => by
    have e' : bu = b := by injection e
    subst e'
    exact (hg.block bu (by have := hb.size; omega) (fun e => by have := (hub bu e.symm).1; omega)).trans (hb.block bu (by omega))
  have := hr.cells rfl x _ hx
  rw [add_lit, Nat.zero_add] at this
  have low : ∀ b, b < B → w4.heap[b]? = w.heap[b]? := fun b hb' => (hg.block b (by have := hb.size; omega) (fun e => by have := (hub b e.symm).1; omega)).trans (hb.block b (by omega))
  exact ⟨⟨this, hr.frozenAt x⟩, cell_of_row w4 sv 0 _ _ (0, 0) ((low sv l2).trans h.var), cell_of_row w4 sp 2 _ _ (0, 0) ((low sp l1).trans h.box)⟩
theorem UsS.put (h : UsS w sp sv B bu cu lv iv n ps us) {x : Nat} {t : Int} {u v : Value} (hx : us[x]? = some u) (hb : Below w.heap.size w w1) (hg : w1.grownBy w4 u.ownBlock)
    (ho : w4.ownsRow B 3 1 v ((useOf ps (x : Int)).length + 1) ((useOf ps (x : Int)).map (.int .i64) ++ [.int .i64 t])) (hl : v.ownBlock = u.ownBlock ∨ v.ownBlock = some w1.heap.size) :
    UsS (w4.setCell ⟨bu, x, none⟩ v) sp sv B bu cu lv iv n (ps ++ [(t, (x : Int))]) (us.set x v) ∧ Turn (fun b => b = bu ∨ ∃ (x : Nat) (u : Value), us[x]? = some u ∧ u.ownBlock = some b) w (w4.setCell ⟨bu, x, none⟩ v) := by
  obtain ⟨l1, l2, l3, l4⟩ := h.lo
  obtain ⟨n1, n2, n3⟩ := h.ne
  have hub := (h.rows x u hx).lt
  have hs1 := hb.size
  have hs2 := hg.size
  have old : ∀ b, b < w.heap.size → u.ownBlock ≠ some b → w4.heap[b]? = w.heap[b]? := fun b hb' hn => (hg.block b (by omega) (fun e => hn e.symm)).trans (hb.block b hb')
  have low : ∀ b, b < B → w4.heap[b]? = w.heap[b]? := fun b hb' => old b (by omega) fun e => by have := (hub b e).1; omega
  have hst : ∀ b, b ≠ bu → (w4.setCell ⟨bu, x, none⟩ v).heap[b]? = w4.heap[b]? := fun b hn => Below.heap_setCell w4 ⟨bu, x, none⟩ _ b hn
  have hvb := ho.lt
  refine ⟨⟨(hst sv n2).trans ((low sv l2).trans h.var), (hst sp n1).trans ((low sp l1).trans h.box), ?_, ?_, ?_, h.ne, l1, l2, l3, by simp; omega⟩, ?_⟩
  · exact ((own_block h.row fun b e => by injection e with e; subst e; exact low _ l3).stored x v).1
  · intro y z hz
    rw [useOf_snoc]
    by_cases hy : y = x
    · subst hy
      have hyl := (List.getElem?_eq_some_iff.1 hx).1
      rw [List.getElem?_set_self hyl] at hz
      injection hz with hz
      subst hz
      rw [if_pos rfl, List.length_append, List.length_singleton, List.map_append]
      exact own_block ho fun b e => hst b (by have := (hvb b e).1; omega)
    · rw [List.getElem?_set_ne (fun e => hy e.symm)] at hz
      rw [if_neg (by omega)]
      have hr := h.rows y z hz
      refine own_block hr fun b e => ?_
      have := hr.lt b e
      rw [hst b (by omega)]
      exact old b this.2 (fun e' => h.sep x y u z b (fun e => hy e.symm) hx hz e' e)
  · intro a b u' v' k hab ha hb' e
    have olds : ∀ (c : Nat) z k, us[c]? = some z → z.ownBlock = some k → k < w.heap.size := fun c z k hc e => ((h.rows c z hc).lt k e).2
    by_cases h1 : a = x
    · subst h1
      have hyl := (List.getElem?_eq_some_iff.1 hx).1
      rw [List.getElem?_set_self hyl] at ha
      injection ha with ha
      subst ha
      rw [List.getElem?_set_ne hab] at hb'
      intro e2
      rcases hl with hl | hl
      · exact h.sep a b u v' k hab hx hb' (hl ▸ e) e2
      · have := olds b v' k hb' e2
        rw [hl] at e
        injection e with e
        omega
    · rw [List.getElem?_set_ne (fun e => h1 e.symm)] at ha
      by_cases h2 : b = x
      · subst h2
        have hyl := (List.getElem?_eq_some_iff.1 hx).1
        rw [List.getElem?_set_self hyl] at hb'
        injection hb' with hb'
        subst hb'
        intro e2
        rcases hl with hl | hl
        · exact h.sep a b u' u k hab ha hx e (hl ▸ e2)
        · have := olds a u' k ha e
          rw [hl] at e2
          injection e2 with e2
          omega
      · rw [List.getElem?_set_ne (fun e => h2 e.symm)] at hb'
        exact h.sep a b u' v' k hab ha hb' e
  · have t1 : Turn (fun b => b = bu ∨ ∃ (x : Nat) (u : Value), us[x]? = some u ∧ u.ownBlock = some b) w w4 := (Turn.of_below (F := fun b => b = bu ∨ ∃ (x : Nat) (u : Value), us[x]? = some u ∧ u.ownBlock = some b) hb).trans (Turn.grown (F := fun b => b = bu ∨ ∃ (x : Nat) (u : Value), us[x]? = some u ∧ u.ownBlock = some b) hg fun b e => .inl (.inr ⟨x, u, hx, e⟩)) (fun _ h => .inl h)
    exact t1.trans (Turn.setCell (F := fun b => b = bu ∨ ∃ (x : Nat) (u : Value), us[x]? = some u ∧ u.ownBlock = some b) (w := w4) (a := ⟨bu, x, none⟩) v (.inl (.inl rfl))) (fun _ h => .inl h)
/-- What lies low is kept. -/
theorem UsS.lo_turn (h : UsS w sp sv B bu cu lv iv n ps us) (ht : Turn (fun b => b = bu ∨ ∃ (x : Nat) (u : Value), us[x]? = some u ∧ u.ownBlock = some b) w w1) : Turn (fun b => b = bu ∨ B ≤ b) w w1 :=
  ht.mono fun b hb => hb.imp id fun ⟨x, u, hx, e⟩ => ((h.rows x u hx).lt b e).1
/-- A row of nodes is kept. -/
theorem UsS.node (h : UsS w sp sv B bu cu lv iv n ps us) (ht : Turn (fun b => b = bu ∨ ∃ (x : Nat) (u : Value), us[x]? = some u ∧ u.ownBlock = some b) w w1) {b0 m : Nat} {v : Value} {cs : List Value} (ho : w.ownsRow b0 32 4 v m cs) : w1.ownsRow b0 32 4 v m cs :=
  own_block ho fun b e => ht.block b (ho.lt b e).2 fun hb => hb.elim (fun e' => own_apart ho h.row (by decide) b e (by subst e'; rfl)) fun ⟨x, u, hx, e'⟩ => own_apart ho (h.rows x u hx) (by decide) b e e'
end
set_option maxHeartbeats 4000000 in
set_option maxRecDepth 100000 in
theorem look1_any (w : World) (sp sv B bu cu : Nat) (lv iv : Value) (n : Nat) (ps : List (Int × Int)) (us : List Value) (x : Nat) (t : Int) (h : UsS w sp sv B bu cu lv iv n ps us) (hx : x < n) (hlen : (useOf ps (x : Int)).length ≤ 100000000) :
    Calls Tryd.prog 63 #[.int .i64 x, .int .i64 t, .pointer (some ⟨sv, 0, none⟩)] w fun e w' => e = .returned (.tuple #[]) ∧ ∃ us', UsS w' sp sv B bu cu lv iv n (ps ++ [(t, (x : Int))]) us' ∧ Turn (fun b => b = bu ∨ ∃ (x : Nat) (u : Value), us[x]? = some u ∧ u.ownBlock = some b) w w' := by
  obtain ⟨i0, hi, hz0, hz1, hz2⟩ := info_parts Tryd.infoInt
  have H := hid h
  have hxl : x < us.length := by rw [h.len]; exact hx
  have hux := List.getElem?_eq_getElem hxl
  generalize us[x] = u at hux
  have HUX := hid hux
  have hur := h.rows x u hux
  have HUR := hid hur
  have HLE := hid hlen
  obtain ⟨A0, c0, rfl, -⟩ := SlA.owned hur
  obtain ⟨l1, l2, l3, l4⟩ := h.lo
  have hxn : (x : Int) < (n : Int) := by omega
  have r0 : w.cell? ⟨sv, 0, none⟩ = some (.pointer (some ⟨sp, 0, none⟩)) := cell_of_row w sv 0 _ _ (0, 0) h.var
  have r1 : w.cell? ⟨sp, 2, none⟩ = some (.slice (some ⟨bu, 0, none⟩) n cu) := cell_of_row w sp 2 _ _ (0, 0) h.box
  have r2 : w.cell? ⟨bu, x, none⟩ = some (.slice A0 (useOf ps (x : Int)).length c0) := by
    have := h.row.cells rfl x _ hux
    rwa [add_lit, Nat.zero_add] at this
  have f2 : w.frozen? ⟨bu, x, none⟩ = false := h.row.frozenAt x
  have r0' : (w.alloc (.cells #[.int .i64 t] 3)).cell? ⟨sv, 0, none⟩ = some (.pointer (some ⟨sp, 0, none⟩)) := (World.cell?_alloc_old _ _ _ (show sv ≠ w.heap.size by omega)).trans r0
  have r1' : (w.alloc (.cells #[.int .i64 t] 3)).cell? ⟨sp, 2, none⟩ = some (.slice (some ⟨bu, 0, none⟩) n cu) := (World.cell?_alloc_old _ _ _ (show sp ≠ w.heap.size by omega)).trans r1
  have r2' : (w.alloc (.cells #[.int .i64 t] 3)).cell? ⟨bu, x, none⟩ = some (.slice A0 (useOf ps (x : Int)).length c0) := (World.cell?_alloc_old _ _ _ (show bu ≠ w.heap.size by omega)).trans r2
  have HOW := hid (show ((w.alloc (.cells #[.int .i64 t] 3)).drew).ownsRow B 3 1 (.slice A0 (useOf ps (x : Int)).length c0) (useOf ps (x : Int)).length ((useOf ps (x : Int)).map (.int .i64)) from own_block (hur.alloc _) (fun _ _ => rfl))
  have HLO := hid (show B ≤ ((w.alloc (.cells #[.int .i64 t] 3)).drew).heap.size by simp; omega)
  have HBB := hid (show Below w.heap.size w ((w.alloc (.cells #[.int .i64 t] 3)).drew) from below_drew ((Below.refl _ _).alloc (Nat.le_refl _) _))
  clear h hux hur hlen l1 l2 l3 l4
  have HCL := hid (fun (w4 : World) (hg : ((w.alloc (.cells #[.int .i64 t] 3)).drew).grownBy w4 (Value.slice A0 (useOf ps (x : Int)).length c0).ownBlock) => H.out.cell HUX.out HBB.out hg)
  have HPT := hid (fun (v : Value) (w4 : World) (hg : ((w.alloc (.cells #[.int .i64 t] 3)).drew).grownBy w4 (Value.slice A0 (useOf ps (x : Int)).length c0).ownBlock) (ho : w4.ownsRow B 3 1 v ((useOf ps (x : Int)).length + 1) ((useOf ps (x : Int)).map (Value.int .i64) ++ [Value.int .i64 t])) (hl : v.ownBlock = (Value.slice A0 (useOf ps (x : Int)).length c0).ownBlock ∨ v.ownBlock = some ((w.alloc (.cells #[.int .i64 t] 3)).drew).heap.size) => H.out.put (v := v) (t := t) HUX.out HBB.out hg ho hl)
  generalize (useOf ps (x : Int)).map (Value.int .i64) = ul at *
  generalize (useOf ps (x : Int)).length = m at *
  go_enter Tryd.func63, Tryd.ntmps63
  go_region_law (refine step_append_sl _ rfl (.tmp 16) (.tmp 18) 23 rfl B 3 i0 (.int .i64 0) 1 8 Tryd.underlying23 hi hz0 hz1 hz2 rfl (by decide) (.slice A0 m c0) m ul (by rfl) HOW.out (some ⟨w.heap.size, 0, none⟩) 1 1 [.int .i64 t] (by rfl) (SlA.lit1 (w := w) (T := 3) (.int .i64 t)).drew (one_int _ _) (by have := HLE.out; unfold maxLen; omega) (by have := HLE.out; omega) HLO.out ?_; intro v4 w4 h4 g4 l4; obtain ⟨A4, c4, rfl, -⟩ := SlA.owned h4; have HP4 := hid (HPT.out _ _ g4 h4 l4); obtain ⟨⟨s4, f4⟩, s5, s6⟩ := HCL.out _ g4; clear h4 g4 l4)
  all_goals
    go_wp2_with fail
    go_end0
    exact ⟨rfl, _, HP4.out⟩
end Go.Proofs.YtadbgmfdbahcbaaDoor

