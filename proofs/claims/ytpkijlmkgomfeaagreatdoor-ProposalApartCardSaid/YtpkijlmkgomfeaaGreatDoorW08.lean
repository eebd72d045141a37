import Derived.Test.YtpkijlmkgomfeaaGreatDoorW07
import Derived.Test.YtpkijlmkgomfeaaGreatDoorW05
/- ratchet: Add. -/
namespace Go.Proofs.YtpkijlmkgomfeaaGreatDoor
open Go.RowKit Go.KK Go.Shelf
set_option linter.unusedVariables false
set_option linter.unusedSimpArgs false

/-- The first place that is free. -/
def freeN (xs : List TN) : Nat := ((List.range (lvN xs.length)).takeWhile fun j : Nat => pres xs (j : Int)).length
theorem freeN_is {xs : List TN} {j : Nat} (h1 : ∀ k, k < j → pres xs (k : Int) = true) (h2 : pres xs (j : Int) = false) (h3 : j ≤ lvN xs.length) : freeN xs = j := by
  unfold freeN
  have e : List.range (lvN xs.length) = List.range j ++ (List.range (lvN xs.length)).drop j := by
    rw [← List.take_append_drop j (List.range (lvN xs.length)), List.take_range, Nat.min_eq_left h3, List.drop_append, List.length_range]
    simp
  rw [e, List.takeWhile_append_of_pos (by intro k hk; exact h1 k (List.mem_range.1 hk)), List.length_append, List.length_range]
  by_cases hj : j < lvN xs.length
  · rw [List.drop_eq_getElem_cons (by simpa using hj), List.takeWhile_cons_of_neg (by rw [List.getElem_range, h2]; decide)]
    rfl
  · rw [List.drop_of_length_le (by simpa using by omega)]; rfl
def growL (xs : List TN) (f : Nat) : List TN := if f = lvN xs.length then xs ++ List.replicate (2 * f) zeroN else xs
/-- A tree with one more leaf. -/
def addL (xs : List TN) (l : TN) : List TN := updAll (addN (freeN xs)) ((growL xs (freeN xs)).set (2 * freeN xs) l) (pathL (2 * (freeN xs : Int)) (lvN (growL xs (freeN xs)).length))

theorem add_no1 (A : Option Addr) (n c : Nat) (xs : List TN) (l : Value) (k i e s h : Int) (B : Option Addr) (m d : Nat) (w : World) (ht : Tr w A n c xs) (hnm : n ≤ 600) (hT : Tab w) (hu : Shorts xs) (hc : chkB xs = false) :
    Calls Tryz.prog 49 #[.slice A n c, .agg #[.int .i64 k, .int .i64 i, .int .i64 e, .int .i64 s, .int .i64 h, .slice B m d]] w fun r w' => r = .returned (.tuple #[.slice none 0 0, .int .i64 0, .int .i64 1]) ∧ Below w.heap.size w w' := by
  have he : chkE xs = 1 := by unfold chkE; rw [hc]; rfl
  have hb0 : Below w.heap.size w (w.alloc (.cells #[.int .i64 k, .int .i64 i, .int .i64 e, .int .i64 s, .int .i64 h, .slice B m d] 37)) := (Below.refl _ _).alloc (Nat.le_refl _) _
  have HT := hid (hT.ext hb0); have HU := hid hu; have H := hid (ht.ext hb0)
  clear hT hu ht hc
  go_enter Tryz.func49, Tryz.ntmps49
  go_wp2_with (go_at_call 100; refine (chk_any _ n c xs _ H.out hnm HT.out HU.out).mono ?_; rintro e1 w1 ⟨rfl, hb1⟩; rw [he]; have HB := hid hb1; clear hb1)
  go_ret3
  exact ⟨rfl, (below_new (Below.refl _ _) (Nat.le_refl _) HB.out).1⟩
theorem add_no2 (A : Option Addr) (n c : Nat) (xs : List TN) (k i e s h : Int) (B : Option Addr) (m d : Nat) (w : World) (ht : Tr w A n c xs) (hnm : n ≤ 600) (hT : Tab w) (hu : Shorts xs) (hc : chkB xs = true) (hl : (k == 1 && (m : Int) == 0) = false) :
    Calls Tryz.prog 49 #[.slice A n c, .agg #[.int .i64 k, .int .i64 i, .int .i64 e, .int .i64 s, .int .i64 h, .slice B m d]] w fun r w' => r = .returned (.tuple #[.slice none 0 0, .int .i64 0, .int .i64 1]) ∧ Below w.heap.size w w' := by
  have he : chkE xs = 0 := by unfold chkE; rw [hc]; rfl
  have hb0 : Below w.heap.size w (w.alloc (.cells #[.int .i64 k, .int .i64 i, .int .i64 e, .int .i64 s, .int .i64 h, .slice B m d] 37)) := (Below.refl _ _).alloc (Nat.le_refl _) _
  have HT := hid (hT.ext hb0); have HU := hid hu; have H := hid (ht.ext hb0); have HL := hid hl
  clear hT hu ht hc hl
  go_enter Tryz.func49, Tryz.ntmps49
  go_wp2_with (first
    | (go_at_call 100; refine (chk_any _ n c xs _ H.out hnm HT.out HU.out).mono ?_; rintro e1 w1 ⟨rfl, hb1⟩; rw [he]; have k20 := new_cell hb1 0; have k21 := new_cell hb1 1; have k22 := new_cell hb1 2; have k23 := new_cell hb1 3; have k24 := new_cell hb1 4; have k25 := new_cell hb1 5; have HB := hid (below_new (Below.refl _ _) (Nat.le_refl _) hb1).1; clear hb1)
    | (go_at_call 111; refine (leaf_any _ _ _ _ _ _ _ _ _).mono ?_; rintro e2 w2 ⟨rfl, hb2⟩; rw [HL.out]; have HB2 := hid (HB.out.trans (hb2.mono HB.out.size)); clear hb2))
  go_ret3
  exact ⟨rfl, HB2.out⟩

/-- What holds while the first free place is looked for. -/
structure AddR (w wr : World) (g cap bi : Nat) (xs : List TN) (qs : List Value) (lb : Array Value) (j : Nat) : Prop where
  cell : wr.cell? ⟨bi, 0, none⟩ = some (.int .i64 j)
  froz : wr.frozen? ⟨bi, 0, none⟩ = false
  tr : TrW wr w.heap.size g cap xs qs
  far : Far wr g xs qs bi
  box : wr.heap[w.heap.size]? = some (.cells lb 37 (0, 0))
  bfar : Far wr g xs qs w.heap.size
  below : Below w.heap.size w wr
  bne : w.heap.size < bi
theorem AddR.drewN {w wr : World} {g cap bi : Nat} {xs : List TN} {qs : List Value} {lb : Array Value} {j : Nat} (h : AddR w wr g cap bi xs qs lb j) (k : Nat) : AddR w (wr.drewN k) g cap bi xs qs lb j :=
  ⟨h.cell, h.froz, h.tr.drewN k, ⟨h.far.lt, h.far.ne, h.far.far⟩, h.box, ⟨h.bfar.lt, h.bfar.ne, h.bfar.far⟩, below_drewN h.below k, h.bne⟩
theorem far_set {w : World} {base g cap : Nat} {xs : List TN} {qs : List Value} {b : Nat} (h : TrW w base g cap xs qs) (hf : Far w g xs qs b) (u : Value) : TrW (w.setCell ⟨b, 0, none⟩ u) base g cap xs qs := by
  have hg : w.grownBy (w.setCell ⟨b, 0, none⟩ u) (some b) := ⟨rfl, rfl, rfl, by simp, fun k _ hk => Below.heap_setCell w ⟨b, 0, none⟩ u k (fun e => hk (by rw [e]))⟩
  exact h.grown hg (fun e => hf.ne (by injection e)) (fun j x q hx hq hk => .inr (hf.far j x q hx hq hk))
theorem AddR.step {w wr : World} {g cap bi : Nat} {xs : List TN} {qs : List Value} {lb : Array Value} {j : Nat} (h : AddR w wr g cap bi xs qs lb j) (k : Nat) (v : Value) (hv : v = .int .i64 (k : Int)) : AddR w (wr.setCell ⟨bi, 0, none⟩ v) g cap bi xs qs lb k := by
  subst hv
  exact ⟨World.cell?_setCell_same _ _ _ h.cell, by simpa using h.froz, far_set h.tr h.far _, ⟨by simpa using h.far.lt, h.far.ne, h.far.far⟩, by rw [Below.heap_setCell _ _ _ _ (by have := h.bne; show w.heap.size ≠ bi; omega)]; exact h.box, ⟨by simpa using h.bfar.lt, h.bfar.ne, h.bfar.far⟩, h.below.setCell (Nat.le_of_lt h.bne) _, h.bne⟩
theorem AddR.start {w w1 w2 : World} {g cap : Nat} {xs : List TN} {qs : List Value} {lb : Array Value} (htr : TrW w2 w1.heap.size g cap xs qs) (hlt : w.heap.size < w1.heap.size) (hbox : w2.heap[w.heap.size]? = some (.cells lb 37 (0, 0))) (hb : Below w.heap.size w w2) (hz : w1.heap.size ≤ w2.heap.size) :
    AddR w (w2.alloc (.cells #[.int .i64 0] 3)) g cap w2.heap.size xs qs lb 0 := by
  have hgl := htr.lt
  refine ⟨by rw [World.cell?_alloc_at _ _ _ _ rfl]; rfl, by rw [World.frozen?_alloc_at _ _ _ _ rfl], (htr.alloc _).mono (Nat.le_of_lt hlt), Far.new htr (Nat.le_refl _) (by simp), ?_, ⟨by simp; omega, by omega, fun j x q hx hq hk e => ?_⟩, hb.alloc (by omega) _, by omega⟩
  · exact (World.grownBy_alloc w2 _ none).block _ (by omega) (by simp) |>.trans hbox
  · have := (((htr.own j x q hx hq).1 hk).1.lt _ e).1
    omega
/-- What a node's cells are, and that they may be written. -/
theorem _root_.Go.KK.TrW.six {w : World} {base g cap : Nat} {xs : List TN} {qs : List Value} (h : TrW w base g cap xs qs) {j : Nat} (hj : j < xs.length) : ∃ x q, xs[j]? = some x ∧ qs[j]? = some q ∧
    w.cell? ⟨g, j * 6, none⟩ = some (.int .i64 x.k) ∧ w.cell? ⟨g, j * 6 + 1, none⟩ = some (.int .i64 x.i) ∧ w.cell? ⟨g, j * 6 + 2, none⟩ = some (.int .i64 x.e) ∧ w.cell? ⟨g, j * 6 + 3, none⟩ = some (.int .i64 x.s) ∧ w.cell? ⟨g, j * 6 + 4, none⟩ = some (.int .i64 x.h) ∧ w.cell? ⟨g, j * 6 + 5, none⟩ = some q ∧
    w.frozen? ⟨g, j * 6, none⟩ = false ∧ w.frozen? ⟨g, j * 6 + 1, none⟩ = false ∧ w.frozen? ⟨g, j * 6 + 2, none⟩ = false ∧ w.frozen? ⟨g, j * 6 + 3, none⟩ = false ∧ w.frozen? ⟨g, j * 6 + 4, none⟩ = false ∧ w.frozen? ⟨g, j * 6 + 5, none⟩ = false := by
  have hx : xs[j]? = some xs[j] := List.getElem?_eq_getElem hj
  have hq : qs[j]? = some (qs[j]'(by rw [h.ql]; exact hj)) := List.getElem?_eq_getElem _
  refine ⟨_, _, hx, hq, ?_, ?_, ?_, ?_, ?_, ?_, h.row.frozenAt _, h.row.frozenAt _, h.row.frozenAt _, h.row.frozenAt _, h.row.frozenAt _, h.row.frozenAt _⟩
  · rw [h.row.cellAt (j * 6) (by omega), show j * 6 = j * 6 + 0 from rfl, ncs_get hx hq (by omega)]; rfl
  all_goals (rw [h.row.cellAt _ (by omega), ncs_get hx hq (by omega)]; rfl)
theorem ord_app {xs : List TN} {B : Nat} (h : Ord B xs) (k : Nat) : Ord B (xs ++ List.replicate k zeroN) := by
  intro j x hx
  by_cases hj : j < xs.length
  · rw [List.getElem?_append_left hj] at hx; exact h j x hx
  · rw [List.getElem?_append_right (by omega), List.getElem?_replicate] at hx
    split at hx
    · injection hx with hx; subst hx; exact ⟨List.Pairwise.nil, by simp [zeroN]⟩
    · cases hx
theorem fullN_dbl {j : Nat} (h : fullN (j : Int) = true) (h2 : j ≠ 256) : fullN ((2 * j : Nat) : Int) = true := by
  have := of_decide_eq_true h
  exact decide_eq_true (by omega)
theorem far_more {w w' : World} {base g cap g' : Nat} {xs : List TN} {qs : List Value} {b : Nat} (ht : TrW w base g cap xs qs) (h : Far w g xs qs b) (hw : w.grownBy w' (some g)) (hg' : g' = g ∨ g' = w.heap.size) (k : Nat) :
    Far w' g' (xs ++ List.replicate k zeroN) (qs ++ List.replicate k (.slice none 0 0)) b ∧ w'.heap[b]? = w.heap[b]? := by
  refine ⟨⟨Nat.lt_of_lt_of_le h.lt hw.size, ?_, fun j x q hx hq hk => ?_⟩, hw.block b h.lt (fun e => h.ne (by injection e))⟩
  · rcases hg' with e | e
    · rw [e]; exact h.ne
    · have := h.lt; omega
  · by_cases hj : j < xs.length
    · rw [List.getElem?_append_left hj] at hx
      rw [List.getElem?_append_left (by rw [ht.ql]; exact hj)] at hq
      exact h.far j x q hx hq hk
    · rw [List.getElem?_append_right (by omega), List.getElem?_replicate] at hx
      split at hx
      · injection hx with hx; subst hx; exact absurd hk (by decide)
      · cases hx
def cellN (w : World) (b : Nat) : Nat := match w.cell? ⟨b, 0, none⟩ with | some v => (intOf v).toNat | none => 0
theorem cellN_is {w : World} {b j : Nat} (h : w.cell? ⟨b, 0, none⟩ = some (.int .i64 (j : Int))) : cellN w b = j := by unfold cellN; rw [h]; simp [intOf]
theorem ord_set {xs : List TN} {B : Nat} (h : Ord B xs) (j : Nat) (y : TN) (h1 : y.u.Pairwise (· ≤ ·)) (h2 : y.u.length ≤ B) : Ord B (xs.set j y) := by
  intro k x hx
  rcases set_get hx with ⟨rfl, rfl⟩ | ⟨_, hx'⟩
  · exact ⟨h1, h2⟩
  · exact h k x hx'
/-- What Add answers. -/
def AddP (w : World) (xs : List TN) (l : TN) (r : Ending) (w' : World) : Prop :=
  (freeN xs = 256 ∧ lvN xs.length = 256 ∧ r = .returned (.tuple #[.slice none 0 0, .int .i64 0, .int .i64 2]) ∧ Below w.heap.size w w') ∨
  (¬ (freeN xs = 256 ∧ lvN xs.length = 256) ∧ ∃ g cap qs, r = .returned (.tuple #[.slice (some ⟨g, 0, none⟩) (addL xs l).length cap, .int .i64 (freeN xs), .int .i64 0]) ∧ TrW w' w.heap.size g cap (addL xs l) qs ∧ Below w.heap.size w w')
set_option maxHeartbeats 2000000 in
set_option maxRecDepth 100000 in
theorem add_go (b0 o0 n c : Nat) (xs : List TN) (i e s h : Int) (B : Option Addr) (d : Nat) (w : World) (ht : Tr w (some ⟨b0, o0, none⟩) n c xs) (hnm : n ≤ 600) (hT : Tab w) (hu : Shorts xs) (hba : Bare xs) (hor : Ord 100000 xs) (hc : chkB xs = true) (hd : d ≤ maxLen) :
    Calls Tryz.prog 49 #[.slice (some ⟨b0, o0, none⟩) n c, .agg #[.int .i64 1, .int .i64 i, .int .i64 e, .int .i64 s, .int .i64 h, .slice B 0 d]] w (AddP w xs ⟨1, i, e, s, h, []⟩) := by
  have he : chkE xs = 0 := by unfold chkE; rw [hc]; rfl
  have hb0 : Below w.heap.size w (w.alloc (.cells #[.int .i64 1, .int .i64 i, .int .i64 e, .int .i64 s, .int .i64 h, .slice B 0 d] 37)) := (Below.refl _ _).alloc (Nat.le_refl _) _
  have HLB := hid (rfl : #[Value.int .i64 1, .int .i64 i, .int .i64 e, .int .i64 s, .int .i64 h, .slice B 0 d] = #[Value.int .i64 1, .int .i64 i, .int .i64 e, .int .i64 s, .int .i64 h, .slice B 0 d])
  have HT0 := hid hT
  have HT := hid (hT.ext hb0); have HU := hid hu; have H := hid (ht.ext hb0); have HBA := hid hba; have HOR := hid hor
  have HF := hid (chk_full hc)
  obtain rfl := ht.len
  clear hT hu ht hc hba hor hb0
  go_enter Tryz.func49, Tryz.ntmps49
  go_wp2_with (first
    | (go_at_call 100; refine (chk_any _ _ c xs _ H.out hnm HT.out HU.out).mono ?_; rintro e1 w1 ⟨rfl, hb1⟩; rw [he]; have k20 := new_cell hb1 0; have k21 := new_cell hb1 1; have k22 := new_cell hb1 2; have k23 := new_cell hb1 3; have k24 := new_cell hb1 4; have k25 := new_cell hb1 5; have H1 := hid (H.out.ext hb1); have HT1 := hid (HT.out.ext hb1); have HX1 := hid ((hb1.block w.heap.size (by rw [World.size_alloc]; omega)).trans (heap_alloc_new w _)); have HB := hid (below_new (Below.refl _ _) (Nat.le_refl _) hb1); clear hb1)
    | (go_at_call 111; refine (leaf_any _ _ _ _ _ _ _ _ _).mono ?_; rintro e2 w2 ⟨rfl, hb2⟩; have HX2 := hid ((hb2.block w.heap.size (by have := HB.out.2; omega)).trans HX1.out); have H2 := hid (H1.out.ext hb2); have HT2 := hid (HT1.out.ext hb2); have HB2 := hid (HB.out.1.trans (hb2.mono HB.out.1.size)); have hz2 := Nat.le_trans HB.out.2 hb2.size; clear hb2)
    | (go_at_call 110; refine (copied_any b0 o0 _ c xs _ H2.out hnm HU.out HBA.out).mono ?_; rintro e3 w3 ⟨g, cap, qs, rfl, htr3, hb3⟩; have HX3 := hid ((hb3.block w.heap.size (by omega)).trans HX2.out); have HT3 := hid (HT2.out.ext hb3); have HB3 := hid (HB2.out.trans (hb3.mono HB2.out.size)); have HR := hid (AddR.start htr3 (by omega) HX3.out HB3.out hb3.size); have hz3 := hb3.size; clear htr3 hb3))
  go_loopw [21] (fun _ wr => ∃ j : Nat, j ≤ lvN xs.length ∧ Hid (∀ k, k < j → pres xs (k : Int) = true) ∧ AddR w wr g cap w3.heap.size xs qs #[Value.int .i64 1, .int .i64 i, .int .i64 e, .int .i64 s, .int .i64 h, .slice B 0 d] j) (fun _ wr => lvN xs.length + 1 - cellN wr w3.heap.size)
  case atStart => exact ⟨0, by omega, hid (fun k hk => by omega), HR.out⟩
  case round =>
    obtain ⟨j, hj, HJ, hR⟩ := hrel
    have HRR := hid hR
    have hcb := hR.cell
    have hfb := hR.froz
    have hN : lvN xs.length ≤ 301 := by unfold lvN; omega
    clear hR
    rcases hp : pres xs (j : Int) with _ | _
    · have HFR := hid (freeN_is HJ.out hp hj)
      have hl512 : lvN xs.length ≤ 256 := by have := fullN_le HF.out.1; omega
      by_cases hjl : j = lvN xs.length
      · have hjl' : ((j : Int) == (lvN xs.length : Int)) = true := beq_iff_eq.2 (by omega)
        have HJL := hid hjl
        have hjle : lvN xs.length ≤ j := by omega
        have hj1 : 1 ≤ j := by have := fullN_le HF.out.1; omega
        clear hjl
        by_cases h256 : j = 256
        · have h256' : ((j : Int) == 256) = true := beq_iff_eq.2 (by omega)
          have H256 := hid h256; clear h256
          go_wp2_with (go_at_call 114; refine (present_any _ _ cap xs _ _ HRR.out.tr.tr hnm).mono ?_; rintro e4 w4 ⟨rfl, hw4⟩; subst w4; rw [hp])
          go_quiet ((go_at_call 115; exact Calls.quiet_of_same (leavesT_any _ _ _ _ hnm)))
          go_wp2
          go_ret3
          exact .inl ⟨HFR.out.trans H256.out, HJL.out.symm.trans H256.out, rfl, below_drewN HRR.out.below _⟩
        have h256' : ((j : Int) == 256) = false := beq_eq_false_iff_ne.2 (by omega)
        have HN256 := hid h256; clear h256
        have hj256 : j ≤ 128 := by have h1 := of_decide_eq_true HF.out.1; have h2 := HJL.out; have h3 := HN256.out; omega
        obtain ⟨i0, hi, hz0, hz1, hz2⟩ := info_parts Tryz.infoTN
        have hN2 : xs.length + 1 = 2 * j := by have := HF.out.2.1; have := HJL.out; omega
        have HLEN := hid hN2
        have hxl1 : xs.length + 1 ≤ 2 * j := by omega
        have hxl2 : 2 * j ≤ xs.length + 1 := by omega
        clear hN2
        have happ : ∀ nq, ∃ g' cap' w', (Builtin.append_ #[22, 3] 22 #[.slice (some ⟨g, 0, none⟩) xs.length cap, .int .i64 (2 * (j : Int))]).run Tryz.prog (wr.drewN nq) = .ok (.slice (some ⟨g', 0, none⟩) (xs.length + 2 * j) cap') w' ∧ TrW w' w.heap.size g' cap' (xs ++ List.replicate (2 * j) zeroN) (qs ++ List.replicate (2 * j) (.slice none 0 0)) ∧ Far w' g' (xs ++ List.replicate (2 * j) zeroN) (qs ++ List.replicate (2 * j) (.slice none 0 0)) w3.heap.size ∧ w'.heap[w3.heap.size]? = (wr.drewN nq).heap[w3.heap.size]? ∧ w'.heap[w.heap.size]? = (wr.drewN nq).heap[w.heap.size]? ∧ Below w.heap.size w w' := by
          intro nq
          have HRW := HRR.out.drewN nq
          obtain ⟨g', cap', w', hrun, hown', hgr, hg'⟩ := run_append_zeros_own (P := Tryz.prog) (wr.drewN nq) w.heap.size 22 3 22 37 i0 _ .i64 .i64 6 Tryz.underlying22 Tryz.underlying3 hi hz0 hz1 rfl (by decide) (by decide) g xs.length cap _ HRW.tr.row (2 * j) (by omega) (by rw [hz2]; decide) (by omega) (by omega) HRW.below.size
          rw [zeros_nodes] at hown'
          rw [show ((2 * j : Nat) : Int) = 2 * (j : Int) by omega] at hrun
          have hf1 := far_more HRW.tr HRW.far hgr hg' (2 * j)
          have hf2 := far_more HRW.tr HRW.bfar hgr hg' (2 * j)
          exact ⟨g', cap', w', hrun, HRW.tr.more hgr hg' hown', hf1.1, hf1.2, hf2.2, HRW.below.grown hgr HRW.below.size (fun k hk => by injection hk with hk; rw [← hk]; exact HRW.tr.lt.1)⟩
        go_wp2_with (go_at_call 114; refine (present_any _ _ cap xs _ _ HRR.out.tr.tr hnm).mono ?_; rintro e4 w4 ⟨rfl, hw4⟩; subst w4; rw [hp])
        go_quiet ((go_at_call 115; exact Calls.quiet_of_same (leavesT_any _ _ _ _ hnm)))
        obtain ⟨G, CAP, W, hrun, htw, hfw, hhw, hxw, hbw⟩ := happ nq
        have HTW := hid htw; have HFW := hid hfw; have HBW := hid hbw
        have HXW := hid (hxw.trans (HRR.out.drewN nq).box)
        have hcw : W.cell? ⟨w3.heap.size, 0, none⟩ = some (.int .i64 (j : Int)) := (World.cell?_of_block (a := ⟨w3.heap.size, 0, none⟩) hhw).trans (HRR.out.drewN nq).cell
        have HCW := hid hcw
        have HRUN := hid hrun
        clear htw hfw hhw hxw hbw happ hrun hcw
        have hdcell := (HRR.out.drewN nq).cell
        have hcw := HCW.out
        have HYL := hid (show (xs ++ List.replicate (2 * j) zeroN).length = xs.length + 2 * j by simp)
        have hlv : lvN (xs.length + 2 * j) = 2 * j := by unfold lvN; omega
        have h2j : 2 * j < (xs ++ List.replicate (2 * j) zeroN).length := by rw [HYL.out]; omega
        have HFY := hid (show fullN (lvN (xs ++ List.replicate (2 * j) zeroN).length) = true by rw [HYL.out, hlv]; exact fullN_dbl (by rw [HJL.out]; exact HF.out.1) HN256.out)
        have HLY := hid (show 2 * (lvN (xs ++ List.replicate (2 * j) zeroN).length : Int) - 1 = ((xs ++ List.replicate (2 * j) zeroN).length : Int) by rw [HYL.out, hlv]; omega)
        have HOY := hid (ord_app HOR.out (2 * j))
        have hjy : j < lvN (xs ++ List.replicate (2 * j) zeroN).length := by rw [HYL.out, hlv]; omega
        have HAL := hid (show addL xs ⟨1, i, e, s, h, []⟩ = updAll (addN (j : Int)) ((xs ++ List.replicate (2 * j) zeroN).set (2 * j) ⟨1, i, e, s, h, []⟩) (pathL (2 * (j : Int)) (lvN (xs.length + 2 * j))) by unfold addL growL; rw [HFR.out, if_pos HJL.out, HYL.out])
        have hyn : (xs ++ List.replicate (2 * j) zeroN).length ≤ 600 := by rw [HYL.out]; omega
        clear hlv
        obtain ⟨x6, q6, hx6, hq6, c0, c1, c2, c3, c4, c5, f0, f1, f2, f3, f4, f5⟩ := HTW.out.six h2j
        have HND := hid (HTW.out.node h2j ⟨1, i, e, s, h, []⟩ B d (show (1 : Int) ≠ 2 by decide) rfl hd)
        have HKN := hid (keeps_node HTW.out (2 * j) ⟨1, i, e, s, h, []⟩ (.slice B 0 d) (show (1 : Int) ≠ 2 by decide) (.int .i64 1) (.int .i64 i) (.int .i64 e) (.int .i64 s) (.int .i64 h) (.slice B 0 d))
        have hgb := HTW.out.lt.1
        have HBN := hid ((((((HBW.out.setCell (p := ⟨G, 2 * j * 6, none⟩) hgb (.int .i64 1)).setCell (p := ⟨G, 2 * j * 6 + 1, none⟩) hgb (.int .i64 i)).setCell (p := ⟨G, 2 * j * 6 + 2, none⟩) hgb (.int .i64 e)).setCell (p := ⟨G, 2 * j * 6 + 3, none⟩) hgb (.int .i64 s)).setCell (p := ⟨G, 2 * j * 6 + 4, none⟩) hgb (.int .i64 h)).setCell (p := ⟨G, 2 * j * 6 + 5, none⟩) hgb (.slice B 0 d))
        have HAB := hid (above_add w.heap.size G CAP w3.heap.size j ((xs ++ List.replicate (2 * j) zeroN).set (2 * j) ⟨1, i, e, s, h, []⟩) _ _ HND.out (HKN.out _ HFW.out).1 ((World.cell?_of_block (a := ⟨w3.heap.size, 0, none⟩) (HKN.out _ HFW.out).2).trans hcw) (by rw [List.length_set]; omega) (by rw [List.length_set]; exact HFY.out) (by rw [List.length_set]; exact HLY.out) (by rw [List.length_set]; exact hjy) (ord_set HOY.out _ _ List.Pairwise.nil (by simp)) HBN.out.size (HT0.out.ext HBN.out))
        have HCN := hid ((World.cell?_of_block (a := ⟨w3.heap.size, 0, none⟩) (HKN.out _ HFW.out).2).trans hcw)
        have hbx0 := cell_of_row W w.heap.size 0 _ 37 (0, 0) HXW.out
        have hbx1 := cell_of_row W w.heap.size 1 _ 37 (0, 0) HXW.out
        have hbx2 := cell_of_row W w.heap.size 2 _ 37 (0, 0) HXW.out
        have hbx3 := cell_of_row W w.heap.size 3 _ 37 (0, 0) HXW.out
        have hbx4 := cell_of_row W w.heap.size 4 _ 37 (0, 0) HXW.out
        have hbx5 := cell_of_row W w.heap.size 5 _ 37 (0, 0) HXW.out
        have hbne := HFW.out.ne
        have hGne : ¬ G = w3.heap.size := fun e => hbne e.symm
        clear hx6 hq6
        go_wp2_with (first
          | (at_builtin; refine Lib.wpList_append_run _ rfl _ _ 22 3 rfl _ _ rfl rfl _ _ HRUN.out ?_)
          | (go_at_call 116; have hab := HAB.out; rw [List.length_set, HYL.out] at hab; refine hab.mono ?_; rintro e6 w6 ⟨qs6, rfl, htr6, hc6, hb6⟩; have HT6 := hid htr6; have HB6 := hid (HBN.out.trans hb6); clear htr6 hb6 hab))
        go_quiet (fail)
        go_wp2
        go_ret3
        refine .inr ⟨fun hh => absurd hh.1 (by rw [HFR.out]; omega), G, CAP, qs6, ?_, ?_, below_drewN HB6.out _⟩
        · rw [HFR.out, HAL.out, updAll_len, List.length_set, HYL.out]; rfl
        · rw [HAL.out]; exact HT6.out.drewN _
      · have hjl' : ((j : Int) == (lvN xs.length : Int)) = false := beq_eq_false_iff_ne.2 (by omega)
        have hlt : j < lvN xs.length := by omega
        have HNE := hid hjl; clear hjl
        go_wp2_with (go_at_call 114; refine (present_any _ _ cap xs _ _ HRR.out.tr.tr hnm).mono ?_; rintro e4 w4 ⟨rfl, hw4⟩; subst w4; rw [hp])
        go_quiet ((go_at_call 115; exact Calls.quiet_of_same (leavesT_any _ _ _ _ hnm)))
        have HRW := hid (HRR.out.drewN nq)
        generalize wr.drewN nq = W at *
        have hcw := HRW.out.cell
        have HTW := hid HRW.out.tr
        have HBW := hid HRW.out.below
        have HFW := hid HRW.out.far
        have HXW := hid HRW.out.box
        have h2j : 2 * j < xs.length := by have := HF.out.2.1; omega
        have HFY := hid HF.out.1
        have HLY := hid HF.out.2.1
        have HOY := HOR
        have hjy := hlt
        have HAL := hid (show addL xs ⟨1, i, e, s, h, []⟩ = updAll (addN (j : Int)) (xs.set (2 * j) ⟨1, i, e, s, h, []⟩) (pathL (2 * (j : Int)) (lvN xs.length)) by unfold addL growL; rw [HFR.out, if_neg HNE.out])
        obtain ⟨x6, q6, hx6, hq6, c0, c1, c2, c3, c4, c5, f0, f1, f2, f3, f4, f5⟩ := HTW.out.six h2j
        have HND := hid (HTW.out.node h2j ⟨1, i, e, s, h, []⟩ B d (show (1 : Int) ≠ 2 by decide) rfl hd)
        have HKN := hid (keeps_node HTW.out (2 * j) ⟨1, i, e, s, h, []⟩ (.slice B 0 d) (show (1 : Int) ≠ 2 by decide) (.int .i64 1) (.int .i64 i) (.int .i64 e) (.int .i64 s) (.int .i64 h) (.slice B 0 d))
        have hgb := HTW.out.lt.1
        have HBN := hid ((((((HBW.out.setCell (p := ⟨g, 2 * j * 6, none⟩) hgb (.int .i64 1)).setCell (p := ⟨g, 2 * j * 6 + 1, none⟩) hgb (.int .i64 i)).setCell (p := ⟨g, 2 * j * 6 + 2, none⟩) hgb (.int .i64 e)).setCell (p := ⟨g, 2 * j * 6 + 3, none⟩) hgb (.int .i64 s)).setCell (p := ⟨g, 2 * j * 6 + 4, none⟩) hgb (.int .i64 h)).setCell (p := ⟨g, 2 * j * 6 + 5, none⟩) hgb (.slice B 0 d))
        have HAB := hid (above_add w.heap.size g cap w3.heap.size j (xs.set (2 * j) ⟨1, i, e, s, h, []⟩) _ _ HND.out (HKN.out _ HFW.out).1 ((World.cell?_of_block (a := ⟨w3.heap.size, 0, none⟩) (HKN.out _ HFW.out).2).trans hcw) (by rw [List.length_set]; omega) (by rw [List.length_set]; exact HFY.out) (by rw [List.length_set]; exact HLY.out) (by rw [List.length_set]; exact hjy) (ord_set HOY.out _ _ List.Pairwise.nil (by simp)) HBN.out.size (HT0.out.ext HBN.out))
        have HCN := hid ((World.cell?_of_block (a := ⟨w3.heap.size, 0, none⟩) (HKN.out _ HFW.out).2).trans hcw)
        have hbx0 := cell_of_row W w.heap.size 0 _ 37 (0, 0) HXW.out
        have hbx1 := cell_of_row W w.heap.size 1 _ 37 (0, 0) HXW.out
        have hbx2 := cell_of_row W w.heap.size 2 _ 37 (0, 0) HXW.out
        have hbx3 := cell_of_row W w.heap.size 3 _ 37 (0, 0) HXW.out
        have hbx4 := cell_of_row W w.heap.size 4 _ 37 (0, 0) HXW.out
        have hbx5 := cell_of_row W w.heap.size 5 _ 37 (0, 0) HXW.out
        have hbne := HFW.out.ne
        have hGne : ¬ g = w3.heap.size := fun e => hbne e.symm
        clear hx6 hq6
        go_wp2_with (go_at_call 116; have hab := HAB.out; rw [List.length_set] at hab; refine hab.mono ?_; rintro e6 w6 ⟨qs6, rfl, htr6, hc6, hb6⟩; have HT6 := hid htr6; have HB6 := hid (HBN.out.trans hb6); clear htr6 hb6 hab)
        go_quiet (fail)
        go_wp2
        go_ret3
        refine .inr ⟨fun hh => absurd hh.1 (by rw [HFR.out]; omega), g, cap, qs6, ?_, ?_, below_drewN HB6.out _⟩
        · rw [HFR.out, HAL.out, updAll_len, List.length_set]; rfl
        · rw [HAL.out]; exact HT6.out.drewN _
    · have hjl : j < lvN xs.length := by have := (pres_in hp).2; omega
      have hcn := cellN_is hcb
      go_wp2_with (go_at_call 114; refine (present_any _ _ cap xs _ _ HRR.out.tr.tr hnm).mono ?_; rintro e4 w4 ⟨rfl, hw4⟩; subst w4; rw [hp])
      go_roundw
      case rel => exact ⟨j + 1, by omega, hid (fun k hk => by
        by_cases hkj : k < j
        · exact HJ.out k hkj
        · rw [show k = j by omega]; exact hp), HRR.out.step (j + 1) _ (by go_num)⟩
      case measure =>
        have h1 := cellN_is (HRR.out.step (j + 1) _ (show Value.int .i64 ((j : Int) + 1) = .int .i64 ((j + 1 : Nat) : Int) by go_num)).cell
        rw [hcn, h1]
        omega
end Go.Proofs.YtpkijlmkgomfeaaGreatDoor

/- ratchet: change, Remove, Update, New. -/
namespace Go.Proofs.YtpkijlmkgomfeaaGreatDoor
open Go.RowKit Go.KK Go.Shelf
set_option linter.unusedVariables false
set_option linter.unusedSimpArgs false

/-- A tree with another leaf at a place, blank above. -/
def chgL (xs : List TN) (i : Int) (l : TN) : List TN := updAll blankN (xs.set (2 * i).toNat l) (pathL (2 * i) (lvN xs.length))
theorem chgL_len (xs : List TN) (i : Int) (l : TN) : (chgL xs i l).length = xs.length := by unfold chgL; rw [updAll_len, List.length_set]
def ChgP (w : World) (xs : List TN) (i : Int) (l : TN) (r : Ending) (w' : World) : Prop :=
  Below w.heap.size w w' ∧ ((chkB xs = false ∧ r = .returned (.tuple #[.slice none 0 0, .int .i64 1])) ∨ (chkB xs = true ∧ pres xs i = false ∧ r = .returned (.tuple #[.slice none 0 0, .int .i64 4])) ∨
  (chkB xs = true ∧ pres xs i = true ∧ ∃ g cap qs, r = .returned (.tuple #[.slice (some ⟨g, 0, none⟩) xs.length cap, .int .i64 0]) ∧ TrW w' w.heap.size g cap (chgL xs i l) qs))
set_option maxHeartbeats 2000000 in
set_option maxRecDepth 100000 in
theorem change_any (A : Option Addr) (n c : Nat) (xs : List TN) (i : Int) (k e0 e s h : Int) (B : Option Addr) (d : Nat) (w : World) (ht : Tr w A n c xs) (hnm : n ≤ 600) (hT : Tab w) (hu : Shorts xs) (hba : chkB xs = true → Bare xs) (hk : k ≠ 2) (hd : d ≤ maxLen) :
    Calls Tryz.prog 112 #[.slice A n c, .int .i64 i, .agg #[.int .i64 k, .int .i64 e0, .int .i64 e, .int .i64 s, .int .i64 h, .slice B 0 d]] w (ChgP w xs i ⟨k, e0, e, s, h, []⟩) := by
  have hb0 : Below w.heap.size w (w.alloc (.cells #[.int .i64 k, .int .i64 e0, .int .i64 e, .int .i64 s, .int .i64 h, .slice B 0 d] 37)) := (Below.refl _ _).alloc (Nat.le_refl _) _
  have HT0 := hid hT
  have HT := hid (hT.ext hb0); have HU := hid hu; have H := hid (ht.ext hb0)
  rcases hc : chkB xs with _ | _
  · have he : chkE xs = 1 := by unfold chkE; rw [hc]; rfl
    have HC := hid hc
    clear hT hu ht hc hb0 hba
    go_enter Tryz.func112, Tryz.ntmps112
    go_wp2_with (go_at_call 100; refine (chk_any _ n c xs _ H.out hnm HT.out HU.out).mono ?_; rintro e1 w1 ⟨rfl, hb1⟩; rw [he]; have HB := hid hb1; clear hb1)
    go_ret2
    exact ⟨(below_new (Below.refl _ _) (Nat.le_refl _) HB.out).1, .inl ⟨HC.out, rfl⟩⟩
  · have he : chkE xs = 0 := by unfold chkE; rw [hc]; rfl
    have HC := hid hc; have HBA := hid (hba hc)
    have HF := hid (chk_full hc)
    rcases hp : pres xs i with _ | _
    · have HP := hid hp
      clear hT hu ht hc hb0 hba
      go_enter Tryz.func112, Tryz.ntmps112
      go_wp2_with (first
        | (go_at_call 100; refine (chk_any _ n c xs _ H.out hnm HT.out HU.out).mono ?_; rintro e1 w1 ⟨rfl, hb1⟩; rw [he]; have H1 := hid (H.out.ext hb1); have HB := hid hb1; clear hb1)
        | (go_at_call 114; refine (present_any _ n c xs _ _ H1.out hnm).mono ?_; rintro e4 w4 ⟨rfl, hw4⟩; subst w4; rw [HP.out]))
      go_ret2
      exact ⟨(below_new (Below.refl _ _) (Nat.le_refl _) HB.out).1, .inr (.inl ⟨HC.out, HP.out, rfl⟩)⟩
    · obtain ⟨p0, p1⟩ := pres_in hp
      have HP := hid hp
      obtain rfl := ht.len
      obtain ⟨j, rfl⟩ := Int.eq_ofNat_of_zero_le p0
      have hN : lvN xs.length ≤ 301 := by unfold lvN; omega
      have h2j : 2 * j < xs.length := by unfold lvN at p1; omega
      obtain ⟨b0, o0, _, _, _, hA, _⟩ := ht.at h2j
      obtain rfl := hA
      have hjl : j < lvN xs.length := by omega
      clear hT hu ht hc hb0 hba hp
      go_enter Tryz.func112, Tryz.ntmps112
      go_wp2_with (first
        | (go_at_call 100; refine (chk_any _ _ c xs _ H.out hnm HT.out HU.out).mono ?_; rintro e1 w1 ⟨rfl, hb1⟩; rw [he]; have H1 := hid (H.out.ext hb1); have hzz := (below_new (Below.refl _ _) (Nat.le_refl _) hb1).2; have HX1 := hid ((hb1.block w.heap.size (by rw [World.size_alloc]; omega)).trans (heap_alloc_new w _)); have HB := hid (below_new (Below.refl _ _) (Nat.le_refl _) hb1); clear hb1)
        | (go_at_call 114; refine (present_any _ _ c xs _ _ H1.out hnm).mono ?_; rintro e4 w4 ⟨rfl, hw4⟩; subst w4; rw [HP.out])
        | (go_at_call 110; refine (copied_any b0 o0 _ c xs _ H1.out hnm HU.out HBA.out).mono ?_; rintro e3 W ⟨g, cap, qs, rfl, htr3, hb3⟩; have HXW := hid ((hb3.block w.heap.size (by omega)).trans HX1.out); have HBW := hid (HB.out.1.trans (hb3.mono HB.out.1.size)); have HTW := hid (htr3.mono (Nat.le_of_lt hzz)); have hgn := htr3.lt.1; clear htr3 hb3; obtain ⟨x6, q6, hx6, hq6, c0, c1, c2, c3, c4, c5, f0, f1, f2, f3, f4, f5⟩ := HTW.out.six h2j; have hbx0 := cell_of_row W w.heap.size 0 _ 37 (0, 0) HXW.out; have hbx1 := cell_of_row W w.heap.size 1 _ 37 (0, 0) HXW.out; have hbx2 := cell_of_row W w.heap.size 2 _ 37 (0, 0) HXW.out; have hbx3 := cell_of_row W w.heap.size 3 _ 37 (0, 0) HXW.out; have hbx4 := cell_of_row W w.heap.size 4 _ 37 (0, 0) HXW.out; have hbx5 := cell_of_row W w.heap.size 5 _ 37 (0, 0) HXW.out; have hgb := HTW.out.lt.1; have HBN := hid ((((((HBW.out.setCell (p := ⟨g, 2 * j * 6, none⟩) hgb (.int .i64 k)).setCell (p := ⟨g, 2 * j * 6 + 1, none⟩) hgb (.int .i64 e0)).setCell (p := ⟨g, 2 * j * 6 + 2, none⟩) hgb (.int .i64 e)).setCell (p := ⟨g, 2 * j * 6 + 3, none⟩) hgb (.int .i64 s)).setCell (p := ⟨g, 2 * j * 6 + 4, none⟩) hgb (.int .i64 h)).setCell (p := ⟨g, 2 * j * 6 + 5, none⟩) hgb (.slice B 0 d)); have HND := hid (HTW.out.node h2j ⟨k, e0, e, s, h, []⟩ B d hk rfl hd); have HAB := hid (above_blank w.heap.size g cap j (xs.set (2 * j) ⟨k, e0, e, s, h, []⟩) _ _ HND.out (by rw [List.length_set]; omega) (by rw [List.length_set]; exact HF.out.1) (by rw [List.length_set]; exact HF.out.2.1) (by rw [List.length_set]; exact hjl) HBN.out.size (HT0.out.ext HBN.out)); clear hx6 hq6)
        | (go_at_call 116; have hab := HAB.out; rw [List.length_set] at hab; refine hab.mono ?_; rintro e6 w6 ⟨qs6, rfl, htr6, hb6⟩; have HT6 := hid htr6; have HB6 := hid (HBN.out.trans hb6); clear htr6 hb6 hab))
      go_ret2
      refine ⟨HB6.out, .inr (.inr ⟨HC.out, HP.out, g, cap, qs6, rfl, ?_⟩)⟩
      unfold chgL
      rw [show (2 * (j : Int)).toNat = 2 * j by omega]
      exact HT6.out

/-- A tree cut, so long as its right half has no leaf. -/
def cutF : Nat → List TN → Option (List TN)
  | 0, _ => none
  | f + 1, ys => if halfB ys then (if ys.length = 1 then none else cutF f (ys.take (ys.length / 2))) else some ys
def remO (xs : List TN) (i : Int) : Option (List TN) := cutF 10 (chgL xs i zeroN)
def RemP (w : World) (xs : List TN) (i : Int) (r : Ending) (w' : World) : Prop :=
  Below w.heap.size w w' ∧ ((chkB xs = false ∧ r = .returned (.tuple #[.slice none 0 0, .int .i64 1])) ∨ (chkB xs = true ∧ pres xs i = false ∧ r = .returned (.tuple #[.slice none 0 0, .int .i64 4])) ∨
  (chkB xs = true ∧ pres xs i = true ∧ remO xs i = none ∧ r = .returned (.tuple #[.slice none 0 0, .int .i64 1])) ∨
  (chkB xs = true ∧ pres xs i = true ∧ ∃ ys, remO xs i = some ys ∧ ∃ g cap qs, r = .returned (.tuple #[.slice (some ⟨g, 0, none⟩) ys.length cap, .int .i64 0]) ∧ TrW w' w.heap.size g cap ys qs))
def sliceN : Value → Nat
  | .slice _ n _ => n
  | _ => 0
theorem fullN_half {m : Nat} (h : fullN (m : Int) = true) (h1 : m ≠ 1) : fullN ((m / 2 : Nat) : Int) = true := by
  have := of_decide_eq_true h
  exact decide_eq_true (by omega)
theorem fullN_even {m : Nat} (h : fullN (m : Int) = true) (h1 : m ≠ 1) : m = 2 * (m / 2) := by
  have := of_decide_eq_true h
  omega
set_option maxHeartbeats 2000000 in
set_option maxRecDepth 100000 in
theorem remove_any (A : Option Addr) (n c : Nat) (xs : List TN) (i : Int) (w : World) (ht : Tr w A n c xs) (hnm : n ≤ 600) (hT : Tab w) (hu : Shorts xs) (hba : chkB xs = true → Bare xs) :
    Calls Tryz.prog 47 #[.slice A n c, .int .i64 i] w (RemP w xs i) := by
  have HCH := hid (change_any A n c xs i 0 0 0 0 0 none 0 w ht hnm hT hu hba (by decide) (by decide))
  have HF := hid (fun h => @chk_full xs h)
  obtain rfl := ht.len
  clear ht hT hu hba
  go_enter Tryz.func47, Tryz.ntmps47
  go_wp2_with (go_at_call 112; refine HCH.out.mono ?_; rintro e1 W ⟨hb1, ⟨hc, rfl⟩ | ⟨hc, hp, rfl⟩ | ⟨hc, hp, g, cap, qs, rfl, htr⟩⟩)
  · go_ret2
    exact ⟨hb1, .inl ⟨hc, rfl⟩⟩
  · go_ret2
    exact ⟨hb1, .inr (.inl ⟨hc, hp, rfl⟩)⟩
  · have HC := hid hc; have HP := hid hp; have HB := hid hb1
    obtain ⟨hf1, hf2, _, _⟩ := HF.out hc
    have HM := hid hf1
    have HTR := hid htr
    have hm0 : xs.length + 1 = 2 * lvN xs.length := by omega
    have HLN := hid (chgL_len xs i zeroN)
    have hz2 := fun (A : Option Addr) (n p : Nat) (hp : p ≤ cap) => run_cut_to6 (P := Tryz.prog) (A := A) (n := n) (c := cap) Tryz.underlying22 (fun W => Tryz.sizeOf37 W) (p := p) hp
    have HZ2 := hid hz2
    have HM0 := hid hm0
    clear hc hp hb1 hf1 hf2 htr hm0 hz2
    go_loop [6] (fun v => ∃ (zs : List TN) (rs : List Value) (f m : Nat), v = .slice (some ⟨g, 0, none⟩) zs.length cap ∧ TrW W w.heap.size g cap zs rs ∧ Hid (remO xs i = cutF f zs) ∧ zs.length ≤ 600 ∧ zs.length < 2 ^ f ∧ Hid (fullN (m : Int) = true) ∧ Hid (zs.length + 1 = 2 * m)) (fun v => sliceN v)
    case atStart => exact ⟨chgL xs i zeroN, qs, 10, lvN xs.length, by rw [HLN.out], HTR.out, hid rfl, by rw [HLN.out]; exact hnm, by rw [HLN.out]; omega, HM, hid (by rw [HLN.out]; exact HM0.out)⟩
    case round =>
      obtain ⟨zs, rs, f, m, hv, htr, HR, hz, hzf, HMF, HZM⟩ := hrel
      subst hv
      have hcap := htr.tr.nc.1
      have HTZ := hid htr
      clear htr
      have hm1 : 1 ≤ m := by have := fullN_le HMF.out; omega
      have hz1 : 1 ≤ zs.length := by have := HZM.out; omega
      obtain ⟨f, rfl⟩ : ∃ f', f = f' + 1 := ⟨f - 1, by
        rcases f with _ | f
        · have h0 : zs.length < 2 ^ 0 := hzf
          rw [Nat.pow_zero] at h0; omega
        · omega⟩
      have HZF := hid hzf; clear hzf
      rcases hh : halfB zs with _ | _
      · have HRS := hid (show remO xs i = some zs by rw [HR.out, cutF, hh]; rfl)
        go_wp2_with (go_at_call 113; refine (half_any _ _ cap zs _ HTZ.out.tr hz).mono ?_; rintro e4 w4 ⟨rfl, hw4⟩; subst w4; rw [hh])
        go_ret2
        exact ⟨HB.out, .inr (.inr (.inr ⟨HC.out, HP.out, zs, HRS.out, g, cap, rs, rfl, HTZ.out⟩))⟩
      · by_cases hl1 : zs.length = 1
        · have HRS := hid (show remO xs i = none by rw [HR.out, cutF, hh, if_pos rfl, if_pos hl1])
          have hl1' : ((zs.length : Int) == 1) = true := beq_iff_eq.2 (by omega)
          clear hl1
          go_wp2_with (go_at_call 113; refine (half_any _ _ cap zs _ HTZ.out.tr hz).mono ?_; rintro e4 w4 ⟨rfl, hw4⟩; subst w4; rw [hh])
          go_ret2
          exact ⟨HB.out, .inr (.inr (.inl ⟨HC.out, HP.out, HRS.out, rfl⟩))⟩
        · have HRS := hid (show remO xs i = cutF f (zs.take (zs.length / 2)) by rw [HR.out, cutF, hh, if_pos rfl, if_neg hl1])
          have hl1' : ((zs.length : Int) == 1) = false := beq_eq_false_iff_ne.2 (by omega)
          have hsl := HZ2.out (some ⟨g, 0, none⟩) zs.length (zs.length / 2) (by omega)
          rw [show ((zs.length / 2 : Nat) : Int) = (zs.length : Int) / 2 by omega] at hsl
          have HNE := hid hl1
          clear hl1
          go_wp2_with (go_at_call 113; refine (half_any _ _ cap zs _ HTZ.out.tr hz).mono ?_; rintro e4 w4 ⟨rfl, hw4⟩; subst w4; rw [hh])
          go_round
          case rel =>
            have hlt : (zs.take (zs.length / 2)).length = zs.length / 2 := by rw [List.length_take]; omega
            have h1 := HZF.out
            have h2 := HZM.out
            have h3 := HNE.out
            rw [Nat.pow_succ] at h1
            exact ⟨zs.take (zs.length / 2), rs.take (zs.length / 2), f, m / 2, by rw [hlt], HTZ.out.to (by omega), HRS, by rw [hlt]; omega, by rw [hlt]; omega, hid (fullN_half HMF.out (by omega)), hid (by rw [hlt]; have := fullN_even HMF.out (by omega); omega)⟩
          case measure => simp [sliceN]; omega
def UpdP (w : World) (xs : List TN) (i : Int) (l : TN) (r : Ending) (w' : World) : Prop :=
  ((l.k == 1 && (l.u.length : Int) == 0) = false ∧ r = .returned (.tuple #[.slice none 0 0, .int .i64 1]) ∧ Below w.heap.size w w') ∨ ((l.k == 1 && (l.u.length : Int) == 0) = true ∧ ChgP w xs i l r w')
theorem update_any (A : Option Addr) (n c : Nat) (xs : List TN) (i : Int) (l : TN) (B : Option Addr) (d : Nat) (w : World) (ht : Tr w A n c xs) (hnm : n ≤ 600) (hT : Tab w) (hu : Shorts xs) (hba : chkB xs = true → Bare xs) (hd : d ≤ maxLen) :
    Calls Tryz.prog 45 #[.slice A n c, .int .i64 i, .agg #[.int .i64 l.k, .int .i64 l.i, .int .i64 l.e, .int .i64 l.s, .int .i64 l.h, .slice B l.u.length d]] w (UpdP w xs i l) := by
  have hb0 : Below w.heap.size w (w.alloc (.cells #[.int .i64 l.k, .int .i64 l.i, .int .i64 l.e, .int .i64 l.s, .int .i64 l.h, .slice B l.u.length d] 37)) := (Below.refl _ _).alloc (Nat.le_refl _) _
  have HT := hid (hT.ext hb0); have HU := hid hu; have H := hid (ht.ext hb0); have HBA := hid hba
  rcases hl : (l.k == 1 && (l.u.length : Int) == 0) with _ | _
  · have HL := hid hl
    clear hT hu ht hb0 hba hl
    go_enter Tryz.func45, Tryz.ntmps45
    go_wp2_with (go_at_call 111; refine (leaf_any _ _ _ _ _ _ _ _ _).mono ?_; rintro e2 w2 ⟨rfl, hb2⟩; rw [HL.out]; have HB := hid hb2; clear hb2)
    go_ret2
    exact .inl ⟨HL.out, rfl, (below_new (Below.refl _ _) (Nat.le_refl _) HB.out).1⟩
  · have HL := hid hl
    simp only [Bool.and_eq_true, beq_iff_eq] at hl
    obtain ⟨k, e0, e, s, h, u⟩ := l
    obtain ⟨hk, hul⟩ := hl
    simp only at hk hul HL HT H hb0 ⊢
    have hu0 : u = [] := List.eq_nil_of_length_eq_zero (by omega)
    subst hu0; subst hk
    clear hT hu ht hb0 hba hul
    go_enter Tryz.func45, Tryz.ntmps45
    go_wp2_with (first
      | (go_at_call 111; refine (leaf_any _ _ _ _ _ _ _ _ _).mono ?_; rintro e2 w2 ⟨rfl, hb2⟩; have hlf := HL.out; simp only [List.length_nil] at hlf; rw [hlf]; have k20 := new_cell hb2 0; have k21 := new_cell hb2 1; have k22 := new_cell hb2 2; have k23 := new_cell hb2 3; have k24 := new_cell hb2 4; have k25 := new_cell hb2 5; have HB := hid (below_new (Below.refl _ _) (Nat.le_refl _) hb2).1; have HCH := hid (change_any A n c xs i 1 e0 e s h B d _ (H.out.ext hb2) hnm (HT.out.ext hb2) HU.out HBA.out (by decide) hd); clear hb2 hlf)
      | (go_at_call 112; refine HCH.out.mono ?_; rintro e1 W ⟨hb1, ⟨hc, rfl⟩ | ⟨hc, hp, rfl⟩ | ⟨hc, hp, g, cap, qs, rfl, htr⟩⟩))
    · go_ret2
      exact .inr ⟨HL.out, HB.out.trans (hb1.mono HB.out.size), .inl ⟨hc, rfl⟩⟩
    · go_ret2
      exact .inr ⟨HL.out, HB.out.trans (hb1.mono HB.out.size), .inr (.inl ⟨hc, hp, rfl⟩)⟩
    · go_ret2
      exact .inr ⟨HL.out, HB.out.trans (hb1.mono HB.out.size), .inr (.inr ⟨hc, hp, g, cap, qs, rfl, htr.mono HB.out.size⟩)⟩
end Go.Proofs.YtpkijlmkgomfeaaGreatDoor

/- the reference of layer 3: In, SameInts. -/
namespace Go.Proofs.YtpkijlmkgomfeaaGreatDoor
open Go.RowKit Go.KK Go.Shelf
set_option linter.unusedVariables false
set_option linter.unusedSimpArgs false

theorem equal_any (A : Option Addr) (n c : Nat) (l : List Int) (B : Option Addr) (m d : Nat) (l' : List Int) (w : World) (h : SlA w 1 A n c (l.map (.int .i64))) (h' : SlA w 1 B m d (l'.map (.int .i64))) (hn : n ≤ 2147483648) (hm : m ≤ 2147483648) :
    Calls Tryz.prog 190 #[.slice A n c, .slice B m d] w fun e w' => e = .returned (.bool (l == l')) ∧ ∃ q, w' = w.drewN q := by
  have hl := h.lenI
  have hl' := h'.lenI
  by_cases hnm : n = m
  · rcases l with _ | ⟨x, l⟩
    · simp at hl
      subst hl
      have : l' = [] := List.eq_nil_of_length_eq_zero (by omega)
      subst this
      refine (Tryz.slices_Equal_int_empty A B c m d w (by omega)).mono fun e w' ⟨h1, h2⟩ => ⟨?_, 0, h2⟩
      rw [h1, decide_eq_true (by omega : m = 0)]; rfl
    · rcases l' with _ | ⟨y, l'⟩
      · simp at hl hl'; omega
      · obtain ⟨b, o, rfl, _⟩ := h.cells 0 _ rfl
        obtain ⟨b', o', rfl, _⟩ := h'.cells 0 _ rfl
        have := Tryz.slices_Equal_int b o n c b' o' m d (x :: l) (y :: l') w (by omega) (by omega) (by omega) (by omega) (sla_getD h) (sla_getD h')
        rw [List.take_of_length_le (by omega), List.take_of_length_le (by omega)] at this
        exact this
  · refine (Tryz.slices_Equal_int_lens A B n c m d w hnm).mono fun e w' ⟨h1, h2⟩ => ⟨?_, 0, h2⟩
    rw [h1, show (l == l') = false from beq_eq_false_iff_ne.2 fun e => hnm (by rw [← hl, ← hl', e])]
/-- Two nodes are the same. -/
def sameN (a b : TN) : Bool := a.k == b.k && a.i == b.i && a.e == b.e && a.s == b.s && a.h == b.h && a.u == b.u
theorem same1_any (a b : TN) (A : Option Addr) (c : Nat) (B : Option Addr) (d : Nat) (w : World) (h : SlA w 1 A a.u.length c (a.u.map (.int .i64))) (h' : SlA w 1 B b.u.length d (b.u.map (.int .i64))) (hn : a.u.length ≤ 2147483648) (hm : b.u.length ≤ 2147483648) :
    Calls Tryz.prog 189 #[.agg #[.int .i64 a.k, .int .i64 a.i, .int .i64 a.e, .int .i64 a.s, .int .i64 a.h, .slice A a.u.length c], .agg #[.int .i64 b.k, .int .i64 b.i, .int .i64 b.e, .int .i64 b.s, .int .i64 b.h, .slice B b.u.length d]] w fun r w' => r = .returned (.bool (sameN a b)) ∧ Below w.heap.size w w' := by
  have HS := hid h; have HS' := hid h'
  clear h h'
  rcases h0 : a.k == b.k with _ | _
  · have HN := hid (show sameN a b = false by unfold sameN; rw [h0]; simp)
    go_enter Tryz.func189, Tryz.ntmps189
    go_wp2
    go_ret
    exact ⟨by rw [HN.out]; rfl, ((Below.refl _ _).alloc (Nat.le_refl _) _).alloc (by simp) _⟩
  · skip
    rcases h1 : a.i == b.i with _ | _
    · have HN := hid (show sameN a b = false by unfold sameN; rw [h0, h1]; simp)
      go_enter Tryz.func189, Tryz.ntmps189
      go_wp2
      go_ret
      exact ⟨by rw [HN.out]; rfl, ((Below.refl _ _).alloc (Nat.le_refl _) _).alloc (by simp) _⟩
    · skip
      rcases h2 : a.e == b.e with _ | _
      · have HN := hid (show sameN a b = false by unfold sameN; rw [h0, h1, h2]; simp)
        go_enter Tryz.func189, Tryz.ntmps189
        go_wp2
        go_ret
        exact ⟨by rw [HN.out]; rfl, ((Below.refl _ _).alloc (Nat.le_refl _) _).alloc (by simp) _⟩
      · skip
        rcases h3 : a.s == b.s with _ | _
        · have HN := hid (show sameN a b = false by unfold sameN; rw [h0, h1, h2, h3]; simp)
          go_enter Tryz.func189, Tryz.ntmps189
          go_wp2
          go_ret
          exact ⟨by rw [HN.out]; rfl, ((Below.refl _ _).alloc (Nat.le_refl _) _).alloc (by simp) _⟩
        · skip
          rcases h4 : a.h == b.h with _ | _
          · have HN := hid (show sameN a b = false by unfold sameN; rw [h0, h1, h2, h3, h4]; simp)
            go_enter Tryz.func189, Tryz.ntmps189
            go_wp2
            go_ret
            exact ⟨by rw [HN.out]; rfl, ((Below.refl _ _).alloc (Nat.le_refl _) _).alloc (by simp) _⟩
          · skip
            have HN := hid (show sameN a b = (a.u == b.u) by unfold sameN; rw [h0, h1, h2, h3, h4]; simp)
            generalize hE : (a.u == b.u) = E at HN
            have HE := hid hE; clear hE
            go_enter Tryz.func189, Tryz.ntmps189
            go_wp2_with (go_at_call 190; refine (equal_any A _ c a.u B _ d b.u _ (HS.out.ext (((Below.refl _ _).alloc (Nat.le_refl _) _).alloc (by simp) _)) (HS'.out.ext (((Below.refl _ _).alloc (Nat.le_refl _) _).alloc (by simp) _)) hn hm).mono ?_; rintro e1 w1 ⟨rfl, q, rfl⟩; rw [HE.out])
            go_ret
            exact ⟨by rw [HN.out]; rfl, below_drewN (((Below.refl _ _).alloc (Nat.le_refl _) _).alloc (by simp) _) _⟩
end Go.Proofs.YtpkijlmkgomfeaaGreatDoor

/- whether two trees are the same: both ways. -/
namespace Go.Proofs.YtpkijlmkgomfeaaGreatDoor
open Go.RowKit Go.KK Go.Shelf
set_option linter.unusedVariables false
set_option linter.unusedSimpArgs false

/-- Two trees are the same. -/
def sameT : List TN → List TN → Bool
  | [], [] => true
  | x :: xs, y :: ys => sameN x y && sameT xs ys
  | _, _ => false
theorem sameT_len : ∀ (xs ys : List TN), xs.length ≠ ys.length → sameT xs ys = false
  | [], [], h => absurd rfl h
  | [], _ :: _, _ => rfl
  | _ :: _, [], _ => rfl
  | x :: xs, y :: ys, h => by rw [sameT, sameT_len xs ys (fun e => h (by simp [e])), Bool.and_false]
theorem sameT_drop {xs ys : List TN} {j : Nat} {x y : TN} (h1 : xs[j]? = some x) (h2 : ys[j]? = some y) : sameT (xs.drop j) (ys.drop j) = (sameN x y && sameT (xs.drop (j + 1)) (ys.drop (j + 1))) := by
  rw [tdrop_get h1, tdrop_get h2, sameT]
theorem sameT_end {xs ys : List TN} {j : Nat} (h1 : xs.length ≤ j) (h2 : ys.length ≤ j) : sameT (xs.drop j) (ys.drop j) = true := by
  rw [List.drop_of_length_le h1, List.drop_of_length_le h2]; rfl
theorem below_new2 {B : Nat} {a wr w2 : World} {o o2 : Obj} (h : Below B a wr) (hB : B ≤ wr.heap.size) (hb : Below ((wr.alloc o).alloc o2).heap.size ((wr.alloc o).alloc o2) w2) : Below B a w2 :=
  ((h.alloc hB o).alloc (by simp; omega) o2).trans (hb.mono (by simp; omega))
set_option maxHeartbeats 1000000 in
theorem eqfunc_any (A : Option Addr) (n c : Nat) (xs : List TN) (B : Option Addr) (m d : Nat) (ys : List TN) (w : World) (h : Tr w A n c xs) (h' : Tr w B m d ys) (hn : n ≤ 600) (hm : m ≤ 600) (hu : Shorts xs) (hu' : Shorts ys) :
    Calls Tryz.prog 188 #[.slice A n c, .slice B m d, .func (.func 189) #[] #[]] w fun e w' => e = .returned (.bool (sameT xs ys)) ∧ Below w.heap.size w w' := by
  have HL := hid h.len; have HL' := hid h'.len; have H := hid h; have H' := hid h'; have HU := hid hu; have HU' := hid hu'
  clear h h' hu hu'
  by_cases hnm : n = m
  · subst hnm
    go_enter Tryz.func188, Tryz.ntmps188
    go_wp2
    go_loopw [17, 6] (fun i _ wr => ∃ j : Nat, i = .int .i64 j ∧ j ≤ n ∧ Hid (sameT xs ys = sameT (xs.drop j) (ys.drop j)) ∧ Below w.heap.size w wr) (fun i _ _ => n - (intOf i).toNat)
    case atStart => exact ⟨0, rfl, by omega, hid rfl, Below.refl _ _⟩
    case round =>
      obtain ⟨j, hi, hj, HJ, hbr⟩ := hrel
      subst hi
      have HB := hid hbr; clear hbr
      by_cases hlt : j < n
      · obtain ⟨b, o, x, A2, c2, rfl, hx, c0, c1, c2', c3, c4, c5, hsx⟩ := (H.out.ext HB.out).at hlt
        obtain ⟨b', o', y, B2, d2, rfl, hy, d0, d1, d2', d3, d4, d5, hsy⟩ := (H'.out.ext HB.out).at hlt
        have hj0 : (0 : Int) ≤ (j : Int) := by omega
        have hj1 : (j : Int) < (n : Int) := by omega
        have hux := HU.out _ _ hx
        have huy := HU'.out _ _ hy
        have HD := hid (sameT_drop hx hy)
        clear hx hy
        have hbz := HB.out.size
        have HSX := hid hsx; have HSY := hid hsy
        have hb2 : b' < wr.heap.size := block_lt_of_cell d0
        clear hsx hsy
        rcases hs : sameN x y with _ | _
        · have HF := hid (show sameT xs ys = false by rw [HJ.out, HD.out, hs, Bool.false_and])
          go_wp2_with (go_at_call 189; refine (same1_any x y A2 c2 B2 d2 _ (HSX.out.ext (((Below.refl _ _).alloc (Nat.le_refl _) _).alloc (by simp) _)) (HSY.out.ext (((Below.refl _ _).alloc (Nat.le_refl _) _).alloc (by simp) _)) hux huy).mono ?_; rintro e1 w1 ⟨rfl, hb1⟩; rw [hs]; have HB1 := hid hb1; clear hb1)
          go_ret
          exact ⟨by rw [HF.out]; rfl, below_new2 HB.out hbz HB1.out⟩
        · have HF := hid (show sameT xs ys = sameT (xs.drop (j + 1)) (ys.drop (j + 1)) by rw [HJ.out, HD.out, hs, Bool.true_and])
          go_wp2_with (go_at_call 189; refine (same1_any x y A2 c2 B2 d2 _ (HSX.out.ext (((Below.refl _ _).alloc (Nat.le_refl _) _).alloc (by simp) _)) (HSY.out.ext (((Below.refl _ _).alloc (Nat.le_refl _) _).alloc (by simp) _)) hux huy).mono ?_; rintro e1 w1 ⟨rfl, hb1⟩; rw [hs]; have HB1 := hid hb1; clear hb1)
          go_roundw
          case rel => exact ⟨j + 1, by go_num, by omega, HF, below_new2 HB.out hbz HB1.out⟩
          case measure => simp [intOf]; omega
      · have HF := hid (show sameT xs ys = true by rw [HJ.out, sameT_end (by have := HL.out; omega) (by have := HL'.out; omega)])
        go_wp2
        go_ret
        exact ⟨by rw [HF.out]; rfl, HB.out⟩
  · have HF := hid (sameT_len xs ys (by rw [HL.out, HL'.out]; exact hnm))
    have hnm' : ((n : Int) != (m : Int)) = true := bne_iff_ne.2 (by omega)
    clear hnm
    go_enter Tryz.func188, Tryz.ntmps188
    go_wp2
    go_ret
    exact ⟨by rw [HF.out]; rfl, Below.refl _ _⟩
theorem tsame_any (A : Option Addr) (n c : Nat) (xs : List TN) (B : Option Addr) (m d : Nat) (ys : List TN) (w : World) (h : Tr w A n c xs) (h' : Tr w B m d ys) (hn : n ≤ 600) (hm : m ≤ 600) (hu : Shorts xs) (hu' : Shorts ys) :
    Calls Tryz.prog 123 #[.slice A n c, .slice B m d] w fun e w' => e = .returned (.bool (sameT xs ys)) ∧ Below w.heap.size w w' := by
  have HC := hid (eqfunc_any A n c xs B m d ys w h h' hn hm hu hu')
  clear h h' hu hu'
  go_enter Tryz.func123, Tryz.ntmps123
  go_wp2_with (go_at_call 188; refine HC.out.mono ?_; rintro e1 w1 ⟨rfl, hb1⟩)
  go_ret
  exact ⟨rfl, hb1⟩
end Go.Proofs.YtpkijlmkgomfeaaGreatDoor

/- the reference of layer 6: a tree's numbers. -/
namespace Go.Proofs.YtpkijlmkgomfeaaGreatDoor
open Go.RowKit Go.KK Go.Shelf
set_option linter.unusedVariables false
set_option linter.unusedSimpArgs false

end Go.Proofs.YtpkijlmkgomfeaaGreatDoor

/- the reference of layer 7: how many leaves, whether some are there, whether all of a node is zero. -/
namespace Go.Proofs.YtpkijlmkgomfeaaGreatDoor
open Go.RowKit Go.KK Go.Shelf
set_option linter.unusedVariables false
set_option linter.unusedSimpArgs false

/-- All of a node is zero. -/
def zerB (x : TN) : Bool := x.k == 0 && x.i == 0 && x.e == 0 && x.s == 0 && x.h == 0 && ((x.u.length : Nat) : Int) == 0
theorem rzero_any (x : TN) (A : Option Addr) (c : Nat) (w : World) :
    Calls Tryz.prog 20 #[.agg #[.int .i64 x.k, .int .i64 x.i, .int .i64 x.e, .int .i64 x.s, .int .i64 x.h, .slice A x.u.length c]] w fun r w' => r = .returned (.bool (zerB x)) ∧ Below w.heap.size w w' := by
  rcases h0 : x.k == 0 with _ | _
  · skip
    have HN := hid (show zerB x = false by unfold zerB; rw [h0]; simp)
    go_enter Tryz.func20, Tryz.ntmps20
    go_wp2
    go_ret
    exact ⟨by rw [HN.out]; rfl, (Below.refl _ _).alloc (Nat.le_refl _) _⟩
  · skip
    rcases h1 : x.i == 0 with _ | _
    · skip
      have HN := hid (show zerB x = false by unfold zerB; rw [h0, h1]; simp)
      go_enter Tryz.func20, Tryz.ntmps20
      go_wp2
      go_ret
      exact ⟨by rw [HN.out]; rfl, (Below.refl _ _).alloc (Nat.le_refl _) _⟩
    · skip
      rcases h2 : x.e == 0 with _ | _
      · skip
        have HN := hid (show zerB x = false by unfold zerB; rw [h0, h1, h2]; simp)
        go_enter Tryz.func20, Tryz.ntmps20
        go_wp2
        go_ret
        exact ⟨by rw [HN.out]; rfl, (Below.refl _ _).alloc (Nat.le_refl _) _⟩
      · skip
        rcases h3 : x.s == 0 with _ | _
        · skip
          have HN := hid (show zerB x = false by unfold zerB; rw [h0, h1, h2, h3]; simp)
          go_enter Tryz.func20, Tryz.ntmps20
          go_wp2
          go_ret
          exact ⟨by rw [HN.out]; rfl, (Below.refl _ _).alloc (Nat.le_refl _) _⟩
        · skip
          rcases h4 : x.h == 0 with _ | _
          · skip
            have HN := hid (show zerB x = false by unfold zerB; rw [h0, h1, h2, h3, h4]; simp)
            go_enter Tryz.func20, Tryz.ntmps20
            go_wp2
            go_ret
            exact ⟨by rw [HN.out]; rfl, (Below.refl _ _).alloc (Nat.le_refl _) _⟩
          · skip
            rcases h5 : ((x.u.length : Nat) : Int) == 0 with _ | _
            · skip
              have HN := hid (show zerB x = false by unfold zerB; rw [h0, h1, h2, h3, h4, h5]; simp)
              go_enter Tryz.func20, Tryz.ntmps20
              go_wp2
              go_ret
              exact ⟨by rw [HN.out]; rfl, (Below.refl _ _).alloc (Nat.le_refl _) _⟩
            · skip
              have HN := hid (show zerB x = true by unfold zerB; rw [h0, h1, h2, h3, h4, h5]; simp)
              go_enter Tryz.func20, Tryz.ntmps20
              go_wp2
              go_ret
              exact ⟨by rw [HN.out]; rfl, (Below.refl _ _).alloc (Nat.le_refl _) _⟩
end Go.Proofs.YtpkijlmkgomfeaaGreatDoor

/- the reference of layer 7: whether a node may stand at its place. -/
namespace Go.Proofs.YtpkijlmkgomfeaaGreatDoor
open Go.RowKit Go.KK Go.Shelf
set_option linter.unusedVariables false
set_option linter.unusedSimpArgs false

end Go.Proofs.YtpkijlmkgomfeaaGreatDoor

/- the reference of layer 7: a node at its place; Check. -/
namespace Go.Proofs.YtpkijlmkgomfeaaGreatDoor
open Go.RowKit Go.KK Go.Shelf
set_option linter.unusedVariables false
set_option linter.unusedSimpArgs false

end Go.Proofs.YtpkijlmkgomfeaaGreatDoor

/- the plain law of Check: what the program asks of a tree is what the document asks. -/
namespace Go.Proofs.YtpkijlmkgomfeaaGreatDoor
open Go.RowKit Go.KK Go.Shelf
set_option linter.unusedVariables false
set_option linter.unusedSimpArgs false

/-- The node above a leaf at a level. -/
def nd (i j : Nat) : Nat := (i / 2 ^ j) * 2 ^ (j + 1) + 2 ^ j - 1
theorem nd_facts : ((List.range 256).all fun i => (List.range 9).all fun j => decide (lvl (nd i j : Int) = j) && decide (nd i j ≤ 510) && (decide (j = 8) || decide (upV (nd i j : Int) = (nd i (j + 1) : Int)))) = true := by decide +kernel
theorem nd_is {i j : Nat} (hi : i < 256) (hj : j ≤ 8) : lvl (nd i j : Int) = j ∧ nd i j ≤ 510 ∧ (j < 8 → upV (nd i j : Int) = (nd i (j + 1) : Int)) := by
  have h := List.all_eq_true.1 (List.all_eq_true.1 nd_facts i (List.mem_range.2 hi)) j (List.mem_range.2 (by omega))
  simp only [Bool.and_eq_true, Bool.or_eq_true, decide_eq_true_eq] at h
  exact ⟨h.1.1, h.1.2, fun h8 => by rcases h.2 with h2 | h2; · omega
                                    · exact h2⟩
theorem nd0 (i : Nat) : nd i 0 = 2 * i := by unfold nd; simp; omega
theorem nd_inj {i j k : Nat} (hi : i < 256) (hj : j ≤ 8) (hk : k ≤ 8) (h : nd i j = nd i k) : j = k := by
  have a1 := (nd_is hi hj).1
  have a2 := (nd_is hi hk).1
  rw [h] at a1
  omega
end Go.Proofs.YtpkijlmkgomfeaaGreatDoor

/- the plain law of Check, its end. -/
namespace Go.Proofs.YtpkijlmkgomfeaaGreatDoor
open Go.RowKit Go.KK Go.Shelf
set_option linter.unusedVariables false
set_option linter.unusedSimpArgs false

/-- A number that an int can hold. -/
def W64 (a : Int) : Prop := -9223372036854775808 ≤ a ∧ a < 9223372036854775808
theorem compact_len (u : List Int) : (Lib.compact u).length = u.length ↔ ∀ j, j < u.length → Lib.keeps u.toArray j = true := by
  have key : ∀ m, (Lib.compactUpTo u.toArray m).length ≤ m ∧ ((Lib.compactUpTo u.toArray m).length = m → ∀ j, j < m → Lib.keeps u.toArray j = true) := by
    intro m
    induction m with
    | zero => exact ⟨by simp [Lib.compactUpTo], fun _ j hj => by omega⟩
    | succ m ih =>
      rw [Lib.compactUpTo_succ, List.length_append]
      rcases hk : Lib.keeps u.toArray m with _ | _
      · simp only [Bool.false_eq_true, if_false, List.length_nil, Nat.add_zero]
        exact ⟨by omega, fun h => by omega⟩
      · simp only [if_true, List.length_singleton]
        refine ⟨by omega, fun h j hj => ?_⟩
        by_cases hjm : j < m
        · exact ih.2 (by omega) j hjm
        · rw [show j = m by omega]; exact hk
  constructor
  · exact (key u.length).2
  · intro h; rw [Lib.compact_all u h]
theorem arr_get {u : List Int} {j : Nat} (h : j < u.length) : u.toArray[j]! = u[j] := by
  rw [getElem!_pos u.toArray j (by simpa using h)]; rfl
theorem rise_iff (u : List Int) : riseB u = true ↔ u.Pairwise (· < ·) := by
  have h1 : riseB u = true ↔ ∀ j (h : j + 1 < u.length), u[j] < u[j + 1] := by
    unfold riseB sortB
    rw [Bool.and_eq_true, Lib.downOK_iff, beq_iff_eq]
    constructor
    · rintro ⟨a, b⟩ j hj
      have a' := a j (by omega)
      have b' := (compact_len u).1 (by omega) (j + 1) hj
      unfold Lib.keeps at b'
      rw [arr_get hj, arr_get (by omega)] at a'
      rw [decide_eq_true_eq] at b'
      rcases b' with b' | b'
      · omega
      · rw [Nat.add_sub_cancel, arr_get hj, arr_get (by omega)] at b'
        simp only [decide_eq_false_iff_not] at a'
        omega
    · intro h
      refine ⟨fun j hj => ?_, ?_⟩
      · rw [arr_get (by omega), arr_get (by omega)]
        have := h j (by omega)
        simp only [decide_eq_false_iff_not]; omega
      · rw [(compact_len u).2 fun j hj => ?_]
        unfold Lib.keeps
        rw [decide_eq_true_eq]
        rcases j with _ | j
        · exact .inl rfl
        · right
          rw [Nat.add_sub_cancel, arr_get hj, arr_get (by omega)]
          have := h j hj
          omega
  rw [h1, List.pairwise_iff_getElem]
  constructor
  · intro h i j hi hj hij
    obtain ⟨t, rfl⟩ := Nat.exists_eq_add_of_lt hij
    induction t with
    | zero => exact h i hj
    | succ t ih =>
      have a := ih (by omega) (by omega)
      have b := h (i + t + 1) hj
      exact Int.lt_trans a b
  · intro h j hj
    exact h j (j + 1) (by omega) hj (by omega)
end Go.Proofs.YtpkijlmkgomfeaaGreatDoor

