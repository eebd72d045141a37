/- ratchet: Add. -/
import Derived.Test.YtimdohjlhbpmhaaDoorR10
namespace Go.Proofs.YtimdohjlhbpmhaaDoor
open Go.RowKit Go.KK Go.Shelf
set_option linter.unusedVariables false
set_option linter.unusedSimpArgs false

/-- The first place that is free. -/
def freeN (xs : List TN) : Nat := ((List.range (lvN xs.length)).takeWhile fun j : Nat => pres xs (j : Int)).length
theorem freeN_is {xs : List TN} {j : Nat} (h1 : ∀ k, k < j → pres xs (k : Int) = true) (h2 : pres xs (j : Int) = false) (h3 : j ≤ lvN xs.length) : freeN xs = j := by
  unfold freeN
  have e : List.range (lvN xs.length) = List.range j ++ (List.range (lvN xs.length)).drop j := by
    rw [← List.take_append_drop j (List.range (lvN xs.length)), List.take_range, Nat.min_eq_left h3, List.drop_append, List.length_range]
    simp
  rw [e, List.takeWhile_append_of_pos (by intro k hk; exact h1 k (List.mem_range.1 hk)), List.length_append, List.length_range]
  by_cases hj : j < lvN xs.length
  · rw [List.drop_eq_getElem_cons (by simpa using hj), List.takeWhile_cons_of_neg (by rw [List.getElem_range, h2]; decide)]
    rfl
  · rw [List.drop_of_length_le (by simpa using by omega)]; rfl
def growL (xs : List TN) (f : Nat) : List TN := if f = lvN xs.length then xs ++ List.replicate (2 * f) zeroN else xs
/-- A tree with one more leaf. -/
def addL (xs : List TN) (l : TN) : List TN := updAll (addN (freeN xs)) ((growL xs (freeN xs)).set (2 * freeN xs) l) (pathL (2 * (freeN xs : Int)) (lvN (growL xs (freeN xs)).length))

theorem add_no1 (A : Option Addr) (n c : Nat) (xs : List TN) (l : Value) (k i e s h : Int) (B : Option Addr) (m d : Nat) (w : World) (ht : Tr w A n c xs) (hnm : n ≤ 600) (hT : Tab w) (hu : Shorts xs) (hc : chkB xs = false) :
    Calls Tryd.prog 11 #[.slice A n c, .agg #[.int .i64 k, .int .i64 i, .int .i64 e, .int .i64 s, .int .i64 h, .slice B m d]] w fun r w' => r = .returned (.tuple #[.slice none 0 0, .int .i64 0, .int .i64 1]) ∧ Below w.heap.size w w' := by
  have he : chkE xs = 1 := by unfold chkE; rw [hc]; rfl
  have hb0 : Below w.heap.size w (w.alloc (.cells #[.int .i64 k, .int .i64 i, .int .i64 e, .int .i64 s, .int .i64 h, .slice B m d] 25)) := (Below.refl _ _).alloc (Nat.le_refl _) _
  have HT := hid (hT.ext hb0); have HU := hid hu; have H := hid (ht.ext hb0)
  clear hT hu ht hc
  go_enter Tryd.func11, Tryd.ntmps11
  go_wp2_with (go_at_call 29; refine (chk_any _ n c xs _ H.out hnm HT.out HU.out).mono ?_; rintro e1 w1 ⟨rfl, hb1⟩; rw [he]; have HB := hid hb1; clear hb1)
  go_ret3
  exact ⟨rfl, (below_new (Below.refl _ _) (Nat.le_refl _) HB.out).1⟩
theorem add_no2 (A : Option Addr) (n c : Nat) (xs : List TN) (k i e s h : Int) (B : Option Addr) (m d : Nat) (w : World) (ht : Tr w A n c xs) (hnm : n ≤ 600) (hT : Tab w) (hu : Shorts xs) (hc : chkB xs = true) (hl : (k == 1 && (m : Int) == 0) = false) :
    Calls Tryd.prog 11 #[.slice A n c, .agg #[.int .i64 k, .int .i64 i, .int .i64 e, .int .i64 s, .int .i64 h, .slice B m d]] w fun r w' => r = .returned (.tuple #[.slice none 0 0, .int .i64 0, .int .i64 1]) ∧ Below w.heap.size w w' := by
  have he : chkE xs = 0 := by unfold chkE; rw [hc]; rfl
  have hb0 : Below w.heap.size w (w.alloc (.cells #[.int .i64 k, .int .i64 i, .int .i64 e, .int .i64 s, .int .i64 h, .slice B m d] 25)) := (Below.refl _ _).alloc (Nat.le_refl _) _
  have HT := hid (hT.ext hb0); have HU := hid hu; have H := hid (ht.ext hb0); have HL := hid hl
  clear hT hu ht hc hl
  go_enter Tryd.func11, Tryd.ntmps11
  go_wp2_with (first
    | (go_at_call 29; refine (chk_any _ n c xs _ H.out hnm HT.out HU.out).mono ?_; rintro e1 w1 ⟨rfl, hb1⟩; rw [he]; have k20 := new_cell hb1 0; have k21 := new_cell hb1 1; have k22 := new_cell hb1 2; have k23 := new_cell hb1 3; have k24 := new_cell hb1 4; have k25 := new_cell hb1 5; have HB := hid (below_new (Below.refl _ _) (Nat.le_refl _) hb1).1; clear hb1)
    | (go_at_call 33; refine (leaf_any _ _ _ _ _ _ _ _ _).mono ?_; rintro e2 w2 ⟨rfl, hb2⟩; rw [HL.out]; have HB2 := hid (HB.out.trans (hb2.mono HB.out.size)); clear hb2))
  go_ret3
  exact ⟨rfl, HB2.out⟩

/-- What holds while the first free place is looked for. -/
structure AddR (w wr : World) (g cap bi : Nat) (xs : List TN) (qs : List Value) (lb : Array Value) (j : Nat) : Prop where
  cell : wr.cell? ⟨bi, 0, none⟩ = some (.int .i64 j)
  froz : wr.frozen? ⟨bi, 0, none⟩ = false
  tr : TrW wr w.heap.size g cap xs qs
  far : Far wr g xs qs bi
  box : wr.heap[w.heap.size]? = some (.cells lb 25 (0, 0))
  bfar : Far wr g xs qs w.heap.size
  below : Below w.heap.size w wr
  bne : w.heap.size < bi
theorem AddR.drewN {w wr : World} {g cap bi : Nat} {xs : List TN} {qs : List Value} {lb : Array Value} {j : Nat} (h : AddR w wr g cap bi xs qs lb j) (k : Nat) : AddR w (wr.drewN k) g cap bi xs qs lb j :=
  ⟨h.cell, h.froz, h.tr.drewN k, ⟨h.far.lt, h.far.ne, h.far.far⟩, h.box, ⟨h.bfar.lt, h.bfar.ne, h.bfar.far⟩, below_drewN h.below k, h.bne⟩
theorem far_set {w : World} {base g cap : Nat} {xs : List TN} {qs : List Value} {b : Nat} (h : TrW w base g cap xs qs) (hf : Far w g xs qs b) (u : Value) : TrW (w.setCell ⟨b, 0, none⟩ u) base g cap xs qs := by
  have hg : w.grownBy (w.setCell ⟨b, 0, none⟩ u) (some b) := ⟨rfl, rfl, rfl, by simp, fun k _ hk => Below.heap_setCell w ⟨b, 0, none⟩ u k (fun e => hk (by rw [e]))⟩
  exact h.grown hg (fun e => hf.ne (by injection e)) (fun j x q hx hq hk => .inr (hf.far j x q hx hq hk))
theorem AddR.step {w wr : World} {g cap bi : Nat} {xs : List TN} {qs : List Value} {lb : Array Value} {j : Nat} (h : AddR w wr g cap bi xs qs lb j) (k : Nat) (v : Value) (hv : v = .int .i64 (k : Int)) : AddR w (wr.setCell ⟨bi, 0, none⟩ v) g cap bi xs qs lb k := by
  subst hv
  exact ⟨World.cell?_setCell_same _ _ _ h.cell, by simpa using h.froz, far_set h.tr h.far _, ⟨by simpa using h.far.lt, h.far.ne, h.far.far⟩, by rw [Below.heap_setCell _ _ _ _ (by have := h.bne; show w.heap.size ≠ bi; omega)]; exact h.box, ⟨by simpa using h.bfar.lt, h.bfar.ne, h.bfar.far⟩, h.below.setCell (Nat.le_of_lt h.bne) _, h.bne⟩
theorem AddR.start {w w1 w2 : World} {g cap : Nat} {xs : List TN} {qs : List Value} {lb : Array Value} (htr : TrW w2 w1.heap.size g cap xs qs) (hlt : w.heap.size < w1.heap.size) (hbox : w2.heap[w.heap.size]? = some (.cells lb 25 (0, 0))) (hb : Below w.heap.size w w2) (hz : w1.heap.size ≤ w2.heap.size) :
    AddR w (w2.alloc (.cells #[.int .i64 0] 3)) g cap w2.heap.size xs qs lb 0 := by
  have hgl := htr.lt
  refine ⟨by rw [World.cell?_alloc_at _ _ _ _ rfl]; rfl, by rw [World.frozen?_alloc_at _ _ _ _ rfl], (htr.alloc _).mono (Nat.le_of_lt hlt), Far.new htr (Nat.le_refl _) (by simp), ?_, ⟨by simp; omega, by omega, fun j x q hx hq hk e => ?_⟩, hb.alloc (by omega) _, by omega⟩
  · exact (World.grownBy_alloc w2 _ none).block _ (by omega) (by simp) |>.trans hbox
  · have := (((htr.own j x q hx hq).1 hk).1.lt _ e).1
    omega
/-- What a node's cells are, and that they may be written. -/
theorem _root_.Go.KK.TrW.six {w : World} {base g cap : Nat} {xs : List TN} {qs : List Value} (h : TrW w base g cap xs qs) {j : Nat} (hj : j < xs.length) : ∃ x q, xs[j]? = some x ∧ qs[j]? = some q ∧
    w.cell? ⟨g, j * 6, none⟩ = some (.int .i64 x.k) ∧ w.cell? ⟨g, j * 6 + 1, none⟩ = some (.int .i64 x.i) ∧ w.cell? ⟨g, j * 6 + 2, none⟩ = some (.int .i64 x.e) ∧ w.cell? ⟨g, j * 6 + 3, none⟩ = some (.int .i64 x.s) ∧ w.cell? ⟨g, j * 6 + 4, none⟩ = some (.int .i64 x.h) ∧ w.cell? ⟨g, j * 6 + 5, none⟩ = some q ∧
    w.frozen? ⟨g, j * 6, none⟩ = false ∧ w.frozen? ⟨g, j * 6 + 1, none⟩ = false ∧ w.frozen? ⟨g, j * 6 + 2, none⟩ = false ∧ w.frozen? ⟨g, j * 6 + 3, none⟩ = false ∧ w.frozen? ⟨g, j * 6 + 4, none⟩ = false ∧ w.frozen? ⟨g, j * 6 + 5, none⟩ = false := by
  have hx : xs[j]? = some xs[j] := List.getElem?_eq_getElem hj
  have hq : qs[j]? = some (qs[j]'(by rw [h.ql]; exact hj)) := List.getElem?_eq_getElem _
  refine ⟨_, _, hx, hq, ?_, ?_, ?_, ?_, ?_, ?_, h.row.frozenAt _, h.row.frozenAt _, h.row.frozenAt _, h.row.frozenAt _, h.row.frozenAt _, h.row.frozenAt _⟩
  · rw [h.row.cellAt (j * 6) (by omega), show j * 6 = j * 6 + 0 from rfl, ncs_get hx hq (by omega)]; rfl
  all_goals (rw [h.row.cellAt _ (by omega), ncs_get hx hq (by omega)]; rfl)
theorem ord_app {xs : List TN} {B : Nat} (h : Ord B xs) (k : Nat) : Ord B (xs ++ List.replicate k zeroN) := by
  intro j x hx
  by_cases hj : j < xs.length
  · rw [List.getElem?_append_left hj] at hx; exact h j x hx
  · rw [List.getElem?_append_right (by omega), List.getElem?_replicate] at hx
    split at hx
    · injection hx with hx; subst hx; exact ⟨List.Pairwise.nil, by simp [zeroN]⟩
    · cases hx
theorem fullN_dbl {j : Nat} (h : fullN (j : Int) = true) (h2 : j ≠ 256) : fullN ((2 * j : Nat) : Int) = true := by
  have := of_decide_eq_true h
  exact decide_eq_true (by omega)
theorem far_more {w w' : World} {base g cap g' : Nat} {xs : List TN} {qs : List Value} {b : Nat} (ht : TrW w base g cap xs qs) (h : Far w g xs qs b) (hw : w.grownBy w' (some g)) (hg' : g' = g ∨ g' = w.heap.size) (k : Nat) :
    Far w' g' (xs ++ List.replicate k zeroN) (qs ++ List.replicate k (.slice none 0 0)) b ∧ w'.heap[b]? = w.heap[b]? := by
  refine ⟨⟨Nat.lt_of_lt_of_le h.lt hw.size, ?_, fun j x q hx hq hk => ?_⟩, hw.block b h.lt (fun e => h.ne (by injection e))⟩
  · rcases hg' with e | e
    · rw [e]; exact h.ne
    · have := h.lt; omega
  · by_cases hj : j < xs.length
    · rw [List.getElem?_append_left hj] at hx
      rw [List.getElem?_append_left (by rw [ht.ql]; exact hj)] at hq
      exact h.far j x q hx hq hk
    · rw [List.getElem?_append_right (by omega), List.getElem?_replicate] at hx
      split at hx
      · injection hx with hx; subst hx; exact absurd hk (by decide)
      · cases hx
def cellN (w : World) (b : Nat) : Nat := match w.cell? ⟨b, 0, none⟩ with | some v => (intOf v).toNat | none => 0
theorem cellN_is {w : World} {b j : Nat} (h : w.cell? ⟨b, 0, none⟩ = some (.int .i64 (j : Int))) : cellN w b = j := by unfold cellN; rw [h]; simp [intOf]
theorem ord_set {xs : List TN} {B : Nat} (h : Ord B xs) (j : Nat) (y : TN) (h1 : y.u.Pairwise (· ≤ ·)) (h2 : y.u.length ≤ B) : Ord B (xs.set j y) := by
  intro k x hx
  rcases set_get hx with ⟨rfl, rfl⟩ | ⟨_, hx'⟩
  · exact ⟨h1, h2⟩
  · exact h k x hx'
/-- What Add answers. -/
def AddP (w : World) (xs : List TN) (l : TN) (r : Ending) (w' : World) : Prop :=
  (freeN xs = 256 ∧ lvN xs.length = 256 ∧ r = .returned (.tuple #[.slice none 0 0, .int .i64 0, .int .i64 2]) ∧ Below w.heap.size w w') ∨
  (¬ (freeN xs = 256 ∧ lvN xs.length = 256) ∧ ∃ g cap qs, r = .returned (.tuple #[.slice (some ⟨g, 0, none⟩) (addL xs l).length cap, .int .i64 (freeN xs), .int .i64 0]) ∧ TrW w' w.heap.size g cap (addL xs l) qs ∧ Below w.heap.size w w')
theorem pres_ge {xs : List TN} {j : Nat} (h : lvN xs.length ≤ j) : pres xs (j : Int) = false := pres_out (by omega)
set_option maxHeartbeats 2000000 in
theorem add_go (b0 o0 n c : Nat) (xs : List TN) (i e s h : Int) (B : Option Addr) (d : Nat) (w : World) (ht : Tr w (some ⟨b0, o0, none⟩) n c xs) (hnm : n ≤ 600) (hT : Tab w) (hu : Shorts xs) (hba : Bare xs) (hor : Ord 100000 xs) (hc : chkB xs = true) (hd : d ≤ maxLen) :
    Calls Tryd.prog 11 #[.slice (some ⟨b0, o0, none⟩) n c, .agg #[.int .i64 1, .int .i64 i, .int .i64 e, .int .i64 s, .int .i64 h, .slice B 0 d]] w (AddP w xs ⟨1, i, e, s, h, []⟩) := by
  have he : chkE xs = 0 := by unfold chkE; rw [hc]; rfl
  have hb0 : Below w.heap.size w (w.alloc (.cells #[.int .i64 1, .int .i64 i, .int .i64 e, .int .i64 s, .int .i64 h, .slice B 0 d] 25)) := (Below.refl _ _).alloc (Nat.le_refl _) _
  have HLB := hid (rfl : #[Value.int .i64 1, .int .i64 i, .int .i64 e, .int .i64 s, .int .i64 h, .slice B 0 d] = #[Value.int .i64 1, .int .i64 i, .int .i64 e, .int .i64 s, .int .i64 h, .slice B 0 d])
  have HT0 := hid hT
  have HT := hid (hT.ext hb0); have HU := hid hu; have H := hid (ht.ext hb0); have HBA := hid hba; have HOR := hid hor
  have HF := hid (chk_full hc)
  obtain rfl := ht.len
  clear hT hu ht hc hba hor hb0
  go_enter Tryd.func11, Tryd.ntmps11
  go_wp2_with (first
    | (go_at_call 29; refine (chk_any _ _ c xs _ H.out hnm HT.out HU.out).mono ?_; rintro e1 w1 ⟨rfl, hb1⟩; rw [he]; have k20 := new_cell hb1 0; have k21 := new_cell hb1 1; have k22 := new_cell hb1 2; have k23 := new_cell hb1 3; have k24 := new_cell hb1 4; have k25 := new_cell hb1 5; have H1 := hid (H.out.ext hb1); have HT1 := hid (HT.out.ext hb1); have HX1 := hid ((hb1.block w.heap.size (by rw [World.size_alloc]; omega)).trans (heap_alloc_new w _)); have HB := hid (below_new (Below.refl _ _) (Nat.le_refl _) hb1); clear hb1)
    | (go_at_call 33; refine (leaf_any _ _ _ _ _ _ _ _ _).mono ?_; rintro e2 w2 ⟨rfl, hb2⟩; have HX2 := hid ((hb2.block w.heap.size (by have := HB.out.2; omega)).trans HX1.out); have H2 := hid (H1.out.ext hb2); have HT2 := hid (HT1.out.ext hb2); have HB2 := hid (HB.out.1.trans (hb2.mono HB.out.1.size)); have hz2 := Nat.le_trans HB.out.2 hb2.size; clear hb2)
    | (go_at_call 34; refine (copied_any b0 o0 _ c xs _ H2.out hnm HU.out HBA.out).mono ?_; rintro e3 w3 ⟨g, cap, qs, rfl, htr3, hb3⟩; have HX3 := hid ((hb3.block w.heap.size (by omega)).trans HX2.out); have HT3 := hid (HT2.out.ext hb3); have HB3 := hid (HB2.out.trans (hb3.mono HB2.out.size)); have HR := hid (AddR.start htr3 (by omega) HX3.out HB3.out hb3.size); have hz3 := hb3.size; clear htr3 hb3))
  go_loopw [21] (fun _ wr => ∃ j : Nat, j ≤ lvN xs.length ∧ Hid (∀ k, k < j → pres xs (k : Int) = true) ∧ AddR w wr g cap w3.heap.size xs qs #[Value.int .i64 1, .int .i64 i, .int .i64 e, .int .i64 s, .int .i64 h, .slice B 0 d] j) (fun _ wr => lvN xs.length + 1 - cellN wr w3.heap.size)
  case atStart => exact ⟨0, by omega, hid (fun k hk => by omega), HR.out⟩
  case round =>
    obtain ⟨j, hj, HJ, hR⟩ := hrel
    have HRR := hid hR
    have hcb := hR.cell
    have hfb := hR.froz
    have hN : lvN xs.length ≤ 301 := by unfold lvN; omega
    clear hR
    rcases hp : pres xs (j : Int) with _ | _
    · have HFR := hid (freeN_is HJ.out hp hj)
      have hl512 : lvN xs.length ≤ 256 := by have := fullN_le HF.out.1; omega
      by_cases hjl : j = lvN xs.length
      · have hjl' : ((j : Int) == (lvN xs.length : Int)) = true := beq_iff_eq.2 (by omega)
        have HJL := hid hjl
        have hjle : lvN xs.length ≤ j := by omega
        have hj1 : 1 ≤ j := by have := fullN_le HF.out.1; omega
        clear hjl
        by_cases h256 : j = 256
        · have h256' : ((j : Int) == 256) = true := beq_iff_eq.2 (by omega)
          have H256 := hid h256; clear h256
          go_wp2_with (go_at_call 35; refine (present_any _ _ cap xs _ _ HRR.out.tr.tr hnm).mono ?_; rintro e4 w4 ⟨rfl, hw4⟩; subst w4; rw [hp])
          go_quiet ((go_at_call 36; exact Calls.quiet_of_same (leavesT_any _ _ _ _ hnm)))
          go_wp2
          go_ret3
          exact .inl ⟨HFR.out.trans H256.out, HJL.out.symm.trans H256.out, rfl, below_drewN HRR.out.below _⟩
        have h256' : ((j : Int) == 256) = false := beq_eq_false_iff_ne.2 (by omega)
        have HN256 := hid h256; clear h256
        have hj256 : j ≤ 128 := by have h1 := of_decide_eq_true HF.out.1; have h2 := HJL.out; have h3 := HN256.out; omega
        obtain ⟨i0, hi, hz0, hz1, hz2⟩ := info_parts Tryd.infoTN
        have hN2 : xs.length + 1 = 2 * j := by have := HF.out.2.1; have := HJL.out; omega
        have HLEN := hid hN2
        have hxl1 : xs.length + 1 ≤ 2 * j := by omega
        have hxl2 : 2 * j ≤ xs.length + 1 := by omega
        clear hN2
        have happ : ∀ nq, ∃ g' cap' w', (Builtin.append_ #[22, 3] 22 #[.slice (some ⟨g, 0, none⟩) xs.length cap, .int .i64 (2 * (j : Int))]).run Tryd.prog (wr.drewN nq) = .ok (.slice (some ⟨g', 0, none⟩) (xs.length + 2 * j) cap') w' ∧ TrW w' w.heap.size g' cap' (xs ++ List.replicate (2 * j) zeroN) (qs ++ List.replicate (2 * j) (.slice none 0 0)) ∧ Far w' g' (xs ++ List.replicate (2 * j) zeroN) (qs ++ List.replicate (2 * j) (.slice none 0 0)) w3.heap.size ∧ w'.heap[w3.heap.size]? = (wr.drewN nq).heap[w3.heap.size]? ∧ w'.heap[w.heap.size]? = (wr.drewN nq).heap[w.heap.size]? ∧ Below w.heap.size w w' := by
          intro nq
          have HRW := HRR.out.drewN nq
          obtain ⟨g', cap', w', hrun, hown', hgr, hg'⟩ := run_append_zeros_own (P := Tryd.prog) (wr.drewN nq) w.heap.size 22 3 22 25 i0 _ .i64 .i64 6 Tryd.underlying22 Tryd.underlying3 hi hz0 hz1 rfl (by decide) (by decide) g xs.length cap _ HRW.tr.row (2 * j) (by omega) (by rw [hz2]; decide) (by omega) (by omega) HRW.below.size
          rw [zeros_nodes] at hown'
          rw [show ((2 * j : Nat) : Int) = 2 * (j : Int) by omega] at hrun
          have hf1 := far_more HRW.tr HRW.far hgr hg' (2 * j)
          have hf2 := far_more HRW.tr HRW.bfar hgr hg' (2 * j)
          exact ⟨g', cap', w', hrun, HRW.tr.more hgr hg' hown', hf1.1, hf1.2, hf2.2, HRW.below.grown hgr HRW.below.size (fun k hk => by injection hk with hk; rw [← hk]; exact HRW.tr.lt.1)⟩
        go_wp2_with (go_at_call 35; refine (present_any _ _ cap xs _ _ HRR.out.tr.tr hnm).mono ?_; rintro e4 w4 ⟨rfl, hw4⟩; subst w4; rw [hp])
        go_quiet ((go_at_call 36; exact Calls.quiet_of_same (leavesT_any _ _ _ _ hnm)))
        obtain ⟨G, CAP, W, hrun, htw, hfw, hhw, hxw, hbw⟩ := happ nq
        have HTW := hid htw; have HFW := hid hfw; have HBW := hid hbw
        have HXW := hid (hxw.trans (HRR.out.drewN nq).box)
        have hcw : W.cell? ⟨w3.heap.size, 0, none⟩ = some (.int .i64 (j : Int)) := (World.cell?_of_block (a := ⟨w3.heap.size, 0, none⟩) hhw).trans (HRR.out.drewN nq).cell
        have HCW := hid hcw
        have HRUN := hid hrun
        clear htw hfw hhw hxw hbw happ hrun hcw
        have hdcell := (HRR.out.drewN nq).cell
        have hcw := HCW.out
        have HYL := hid (show (xs ++ List.replicate (2 * j) zeroN).length = xs.length + 2 * j by simp)
        have hlv : lvN (xs.length + 2 * j) = 2 * j := by unfold lvN; omega
        have h2j : 2 * j < (xs ++ List.replicate (2 * j) zeroN).length := by rw [HYL.out]; omega
        have HFY := hid (show fullN (lvN (xs ++ List.replicate (2 * j) zeroN).length) = true by rw [HYL.out, hlv]; exact fullN_dbl (by rw [HJL.out]; exact HF.out.1) HN256.out)
        have HLY := hid (show 2 * (lvN (xs ++ List.replicate (2 * j) zeroN).length : Int) - 1 = ((xs ++ List.replicate (2 * j) zeroN).length : Int) by rw [HYL.out, hlv]; omega)
        have HOY := hid (ord_app HOR.out (2 * j))
        have hjy : j < lvN (xs ++ List.replicate (2 * j) zeroN).length := by rw [HYL.out, hlv]; omega
        have HAL := hid (show addL xs ⟨1, i, e, s, h, []⟩ = updAll (addN (j : Int)) ((xs ++ List.replicate (2 * j) zeroN).set (2 * j) ⟨1, i, e, s, h, []⟩) (pathL (2 * (j : Int)) (lvN (xs.length + 2 * j))) by unfold addL growL; rw [HFR.out, if_pos HJL.out, HYL.out])
        have hyn : (xs ++ List.replicate (2 * j) zeroN).length ≤ 600 := by rw [HYL.out]; omega
        clear hlv
        obtain ⟨x6, q6, hx6, hq6, c0, c1, c2, c3, c4, c5, f0, f1, f2, f3, f4, f5⟩ := HTW.out.six h2j
        have HND := hid (HTW.out.node h2j ⟨1, i, e, s, h, []⟩ B d (show (1 : Int) ≠ 2 by decide) rfl hd)
        have HKN := hid (keeps_node HTW.out (2 * j) ⟨1, i, e, s, h, []⟩ (.slice B 0 d) (show (1 : Int) ≠ 2 by decide) (.int .i64 1) (.int .i64 i) (.int .i64 e) (.int .i64 s) (.int .i64 h) (.slice B 0 d))
        have hgb := HTW.out.lt.1
        have HBN := hid ((((((HBW.out.setCell (p := ⟨G, 2 * j * 6, none⟩) hgb (.int .i64 1)).setCell (p := ⟨G, 2 * j * 6 + 1, none⟩) hgb (.int .i64 i)).setCell (p := ⟨G, 2 * j * 6 + 2, none⟩) hgb (.int .i64 e)).setCell (p := ⟨G, 2 * j * 6 + 3, none⟩) hgb (.int .i64 s)).setCell (p := ⟨G, 2 * j * 6 + 4, none⟩) hgb (.int .i64 h)).setCell (p := ⟨G, 2 * j * 6 + 5, none⟩) hgb (.slice B 0 d))
        have HAB := hid (above_add w.heap.size G CAP w3.heap.size j ((xs ++ List.replicate (2 * j) zeroN).set (2 * j) ⟨1, i, e, s, h, []⟩) _ _ HND.out (HKN.out _ HFW.out).1 ((World.cell?_of_block (a := ⟨w3.heap.size, 0, none⟩) (HKN.out _ HFW.out).2).trans hcw) (by rw [List.length_set]; omega) (by rw [List.length_set]; exact HFY.out) (by rw [List.length_set]; exact HLY.out) (by rw [List.length_set]; exact hjy) (ord_set HOY.out _ _ List.Pairwise.nil (by simp)) HBN.out.size (HT0.out.ext HBN.out))
        have HCN := hid ((World.cell?_of_block (a := ⟨w3.heap.size, 0, none⟩) (HKN.out _ HFW.out).2).trans hcw)
        have hbx0 := cell_of_row W w.heap.size 0 _ 25 (0, 0) HXW.out
        have hbx1 := cell_of_row W w.heap.size 1 _ 25 (0, 0) HXW.out
        have hbx2 := cell_of_row W w.heap.size 2 _ 25 (0, 0) HXW.out
        have hbx3 := cell_of_row W w.heap.size 3 _ 25 (0, 0) HXW.out
        have hbx4 := cell_of_row W w.heap.size 4 _ 25 (0, 0) HXW.out
        have hbx5 := cell_of_row W w.heap.size 5 _ 25 (0, 0) HXW.out
        have hbne := HFW.out.ne
        have hGne : ¬ G = w3.heap.size := fun e => hbne e.symm
        clear hx6 hq6
        go_wp2_with (first
          | (at_builtin; refine Lib.wpList_append_run _ rfl _ _ 22 3 rfl _ _ rfl rfl _ _ HRUN.out ?_)
          | (go_at_call 37; have hab := HAB.out; rw [List.length_set, HYL.out] at hab; refine hab.mono ?_; rintro e6 w6 ⟨qs6, rfl, htr6, hc6, hb6⟩; have HT6 := hid htr6; have HB6 := hid (HBN.out.trans hb6); clear htr6 hb6 hab))
        go_quiet (fail)
        go_wp2
        go_ret3
        refine .inr ⟨fun hh => absurd hh.1 (by rw [HFR.out]; omega), G, CAP, qs6, ?_, ?_, below_drewN HB6.out _⟩
        · rw [HFR.out, HAL.out, updAll_len, List.length_set, HYL.out]; rfl
        · rw [HAL.out]; exact HT6.out.drewN _
      · have hjl' : ((j : Int) == (lvN xs.length : Int)) = false := beq_eq_false_iff_ne.2 (by omega)
        have hlt : j < lvN xs.length := by omega
        have HNE := hid hjl; clear hjl
        go_wp2_with (go_at_call 35; refine (present_any _ _ cap xs _ _ HRR.out.tr.tr hnm).mono ?_; rintro e4 w4 ⟨rfl, hw4⟩; subst w4; rw [hp])
        go_quiet ((go_at_call 36; exact Calls.quiet_of_same (leavesT_any _ _ _ _ hnm)))
        have HRW := hid (HRR.out.drewN nq)
        generalize wr.drewN nq = W at *
        have hcw := HRW.out.cell
        have HTW := hid HRW.out.tr
        have HBW := hid HRW.out.below
        have HFW := hid HRW.out.far
        have HXW := hid HRW.out.box
        have h2j : 2 * j < xs.length := by have := HF.out.2.1; omega
        have HFY := hid HF.out.1
        have HLY := hid HF.out.2.1
        have HOY := HOR
        have hjy := hlt
        have HAL := hid (show addL xs ⟨1, i, e, s, h, []⟩ = updAll (addN (j : Int)) (xs.set (2 * j) ⟨1, i, e, s, h, []⟩) (pathL (2 * (j : Int)) (lvN xs.length)) by unfold addL growL; rw [HFR.out, if_neg HNE.out])
        obtain ⟨x6, q6, hx6, hq6, c0, c1, c2, c3, c4, c5, f0, f1, f2, f3, f4, f5⟩ := HTW.out.six h2j
        have HND := hid (HTW.out.node h2j ⟨1, i, e, s, h, []⟩ B d (show (1 : Int) ≠ 2 by decide) rfl hd)
        have HKN := hid (keeps_node HTW.out (2 * j) ⟨1, i, e, s, h, []⟩ (.slice B 0 d) (show (1 : Int) ≠ 2 by decide) (.int .i64 1) (.int .i64 i) (.int .i64 e) (.int .i64 s) (.int .i64 h) (.slice B 0 d))
        have hgb := HTW.out.lt.1
        have HBN := hid ((((((HBW.out.setCell (p := ⟨g, 2 * j * 6, none⟩) hgb (.int .i64 1)).setCell (p := ⟨g, 2 * j * 6 + 1, none⟩) hgb (.int .i64 i)).setCell (p := ⟨g, 2 * j * 6 + 2, none⟩) hgb (.int .i64 e)).setCell (p := ⟨g, 2 * j * 6 + 3, none⟩) hgb (.int .i64 s)).setCell (p := ⟨g, 2 * j * 6 + 4, none⟩) hgb (.int .i64 h)).setCell (p := ⟨g, 2 * j * 6 + 5, none⟩) hgb (.slice B 0 d))
        have HAB := hid (above_add w.heap.size g cap w3.heap.size j (xs.set (2 * j) ⟨1, i, e, s, h, []⟩) _ _ HND.out (HKN.out _ HFW.out).1 ((World.cell?_of_block (a := ⟨w3.heap.size, 0, none⟩) (HKN.out _ HFW.out).2).trans hcw) (by rw [List.length_set]; omega) (by rw [List.length_set]; exact HFY.out) (by rw [List.length_set]; exact HLY.out) (by rw [List.length_set]; exact hjy) (ord_set HOY.out _ _ List.Pairwise.nil (by simp)) HBN.out.size (HT0.out.ext HBN.out))
        have HCN := hid ((World.cell?_of_block (a := ⟨w3.heap.size, 0, none⟩) (HKN.out _ HFW.out).2).trans hcw)
        have hbx0 := cell_of_row W w.heap.size 0 _ 25 (0, 0) HXW.out
        have hbx1 := cell_of_row W w.heap.size 1 _ 25 (0, 0) HXW.out
        have hbx2 := cell_of_row W w.heap.size 2 _ 25 (0, 0) HXW.out
        have hbx3 := cell_of_row W w.heap.size 3 _ 25 (0, 0) HXW.out
        have hbx4 := cell_of_row W w.heap.size 4 _ 25 (0, 0) HXW.out
        have hbx5 := cell_of_row W w.heap.size 5 _ 25 (0, 0) HXW.out
        have hbne := HFW.out.ne
        have hGne : ¬ g = w3.heap.size := fun e => hbne e.symm
        clear hx6 hq6
        go_wp2_with (go_at_call 37; have hab := HAB.out; rw [List.length_set] at hab; refine hab.mono ?_; rintro e6 w6 ⟨qs6, rfl, htr6, hc6, hb6⟩; have HT6 := hid htr6; have HB6 := hid (HBN.out.trans hb6); clear htr6 hb6 hab)
        go_quiet (fail)
        go_wp2
        go_ret3
        refine .inr ⟨fun hh => absurd hh.1 (by rw [HFR.out]; omega), g, cap, qs6, ?_, ?_, below_drewN HB6.out _⟩
        · rw [HFR.out, HAL.out, updAll_len, List.length_set]; rfl
        · rw [HAL.out]; exact HT6.out.drewN _
    · have hjl : j < lvN xs.length := by have := (pres_in hp).2; omega
      have hcn := cellN_is hcb
      go_wp2_with (go_at_call 35; refine (present_any _ _ cap xs _ _ HRR.out.tr.tr hnm).mono ?_; rintro e4 w4 ⟨rfl, hw4⟩; subst w4; rw [hp])
      go_roundw
      case rel => exact ⟨j + 1, by omega, hid (fun k hk => by
        by_cases hkj : k < j
        · exact HJ.out k hkj
        · rw [show k = j by omega]; exact hp), HRR.out.step (j + 1) _ (by go_num)⟩
      case measure =>
        have h1 := cellN_is (HRR.out.step (j + 1) _ (show Value.int .i64 ((j : Int) + 1) = .int .i64 ((j + 1 : Nat) : Int) by go_num)).cell
        rw [hcn, h1]
        omega
end Go.Proofs.YtimdohjlhbpmhaaDoor
