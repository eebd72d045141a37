/- ratchet: what Add does to a node above. -/
import Derived.Test.YtimdohjlhbpmhaaDoorR8
import Derived.Deep.QuietTactic
import Derived.BigQuiet
import Derived.Deep.RegionWith
import Derived.Deep.RegionLaw
namespace Go.Proofs.YtimdohjlhbpmhaaDoor
open Go.RowKit Go.KK Go.Shelf
set_option linter.unusedVariables false
set_option linter.unusedSimpArgs false

/-- How many of a list's numbers are less. -/
def lessN (u : List Int) (i : Int) : Nat := u.countP (· < i)
theorem lessN_le (u : List Int) (i : Int) : lessN u i ≤ u.length := List.countP_le_length
theorem search_any (q : Value) (base : Nat) (u : List Int) (i : Int) (w : World) (h : w.ownsRow base 3 1 q u.length (u.map (.int .i64))) (hs : u.Pairwise (· ≤ ·)) (hbig : u.length ≤ 2147483648) :
    Calls Tryd.prog 39 #[q, .int .i64 i] w fun e w' => e = .returned (.tuple #[.int .i64 (lessN u i), .bool (u.contains i)]) ∧ ∃ q, w' = w.drewN q := by
  obtain ⟨A, c, rfl, hsl⟩ := SlA.owned h
  rcases u with _ | ⟨y, u⟩
  · exact (Tryd.slices_BinarySearch_int_empty A c i w).mono fun e w' ⟨h1, h2⟩ => ⟨h1, 0, h2⟩
  · obtain ⟨b, o, rfl, _⟩ := hsl.cells 0 _ rfl
    have := Tryd.slices_BinarySearch_int b o (y :: u).length c (y :: u) i w (Nat.le_refl _) (by omega) (sla_getD hsl) (by rw [List.take_of_length_le (Nat.le_refl _)]; exact hs)
    rw [List.take_of_length_le (Nat.le_refl _)] at this
    exact this

/-- The numbers in a parent's list, and one more. -/
def addN (i : Int) (x : TN) : TN := if x.k = 2 then { x with u := insL x.u (lessN x.u i) i } else x
/-- A block beside the tree. -/
structure Far (w : World) (g : Nat) (xs : List TN) (qs : List Value) (b : Nat) : Prop where
  lt : b < w.heap.size
  ne : b ≠ g
  far : ∀ (j : Nat) x q, xs[j]? = some x → qs[j]? = some q → x.k = 2 → q.ownBlock ≠ some b
/-- What a step on the tree leaves alone. -/
def Keeps (w w' : World) (g : Nat) (xs xs' : List TN) (qs qs' : List Value) : Prop := ∀ b, Far w g xs qs b → Far w' g xs' qs' b ∧ w'.heap[b]? = w.heap[b]?
theorem Keeps.refl (w : World) (g : Nat) (xs : List TN) (qs : List Value) : Keeps w w g xs xs qs qs := fun _ h => ⟨h, rfl⟩
theorem Keeps.trans {a b c : World} {g : Nat} {xs ys zs : List TN} {qs rs ts : List Value} (h : Keeps a b g xs ys qs rs) (k : Keeps b c g ys zs rs ts) : Keeps a c g xs zs qs ts := fun x hx =>
  have h1 := h x hx
  have h2 := k x h1.1
  ⟨h2.1, h2.2.trans h1.2⟩
theorem Far.new {w w' : World} {base g cap : Nat} {xs : List TN} {qs : List Value} (h : TrW w base g cap xs qs) {b : Nat} (hb : w.heap.size ≤ b) (hb' : b < w'.heap.size) : Far w' g xs qs b :=
  ⟨hb', by have := h.lt; omega, fun j x q hx hq hk e => by have := (((h.own j x q hx hq).1 hk).1.lt b e).2; omega⟩
theorem Far.ext {w w' : World} {g : Nat} {xs : List TN} {qs : List Value} {b : Nat} (h : Far w g xs qs b) (hb : w.heap.size ≤ w'.heap.size) : Far w' g xs qs b := ⟨Nat.lt_of_lt_of_le h.lt hb, h.ne, h.far⟩
theorem far_ins {w w1 w2 : World} {g : Nat} {xs : List TN} {qs : List Value} (hw : Below w.heap.size w w1) {j : Nat} {x : TN} {p : Value} (hx : xs[j]? = some x) (hp : qs[j]? = some p) (u : List Int) (q : Value) (hk : x.k = 2) (hg2 : w1.grownBy w2 p.ownBlock)
    (hnew : q.ownBlock = p.ownBlock ∨ q.ownBlock = some w1.heap.size) : Keeps w (w2.setCell ⟨g, j * 6 + 5, none⟩ q) g xs (xs.set j { x with u := u }) qs (qs.set j q) := by
  intro b hb
  have h1 := Nat.lt_of_lt_of_le hb.lt hw.size
  refine ⟨⟨by have := hg2.size; simp; omega, hb.ne, fun k y r hy hr hk2 => ?_⟩, ?_⟩
  · rcases set_get hr with ⟨rfl, rfl⟩ | ⟨hne, hr'⟩
    · rcases hnew with e | e
      · rw [e]; exact hb.far k x p hx hp hk
      · rw [e]; intro e2; injection e2 with e2; omega
    · rcases set_get hy with ⟨hh, _⟩ | ⟨_, hy'⟩
      · exact absurd hh hne
      · exact hb.far k y r hy' hr' hk2
  · rw [Below.heap_setCell w2 ⟨g, j * 6 + 5, none⟩ q b hb.ne, hg2.block b h1 (fun e => hb.far j x p hx hp hk e.symm), hw.block b hb.lt]
set_option maxHeartbeats 1000000 in
theorem add1_any (base g cap bi : Nat) (i : Int) (xs : List TN) (qs : List Value) (j : Nat) (x : TN) (w : World) (h : TrW w base g cap xs qs) (hci : w.cell? ⟨bi, 0, none⟩ = some (.int .i64 i)) (hx : xs[j]? = some x) (hs : x.u.Pairwise (· ≤ ·)) (hu : x.u.length ≤ 2147483648) (hbase : base ≤ w.heap.size) :
    Calls Tryd.prog 38 #[.pointer (some ⟨g, j * 6, none⟩), .pointer (some ⟨bi, 0, none⟩)] w fun e w' => ∃ qs', e = .returned (.tuple #[]) ∧ TrW w' base g cap (xs.set j (addN i x)) qs' ∧ Keeps w w' g xs (xs.set j (addN i x)) qs qs' ∧ Below base w w' := by
  have hj := (List.getElem?_eq_some_iff.1 hx).1
  have hq : qs[j]? = some (qs[j]'(by rw [h.ql]; exact hj)) := List.getElem?_eq_getElem _
  generalize qs[j]'(by rw [h.ql]; exact hj) = q at hq
  have hc0 : w.cell? ⟨g, j * 6, none⟩ = some (.int .i64 x.k) := by
    have := h.row.cellAt (j * 6) (by omega)
    rw [this, show j * 6 = j * 6 + 0 from rfl, ncs_get hx hq (by omega)]; rfl
  have hc5 : w.cell? ⟨g, j * 6 + 5, none⟩ = some q := by
    rw [h.row.cellAt (j * 6 + 5) (by omega), ncs_get hx hq (by omega)]; rfl
  by_cases hk : x.k = 2
  · rw [hk] at hc0
    have hown := (h.own j x q hx hq).1 hk
    have HA := hid (show addN i x = { x with u := insL x.u (lessN x.u i) i } by unfold addN; rw [if_pos hk])
    have H := hid h; have HX := hid hx; have HK := hid hk; have HS := hid hs
    have HO := hid hown.1; have HN := hid hown.2
    have hfr := h.row.frozenAt (j * 6 + 5)
    have hgl := (h.row.lt g rfl)
    have hglt := hgl.2
    have hbilt : bi < w.heap.size := block_lt_of_cell hci
    obtain ⟨A, c, rfl⟩ := own_shape hown.1
    have HQ := hid hq
    clear h hx hk hs hown hq
    have hcall : ∀ k, Calls Tryd.prog 39 #[.slice A x.u.length c, .int .i64 i] (w.drewN k) fun e w' => e = .returned (.tuple #[.int .i64 (lessN x.u i), .bool (x.u.contains i)]) ∧ ∃ q, w' = (w.drewN k).drewN q := fun k => search_any _ base x.u i _ HO.out HS.out hu
    go_enter Tryd.func38, Tryd.ntmps38
    go_wp2
    go_quiet ((go_at_call 39; exact Calls.quiet_of (hcall _)))
    go_wp2
    have hb1 : Below base w ((w.drewN (nq + 1)).alloc (.cells #[.int .i64 i] 3)) := (below_drewN (Below.refl _ _) _).alloc hbase _
    have HU := hid ((H.out.drewN (nq + 1)).alloc (.cells #[.int .i64 i] 3))
    have HO1 := hid ((show (w.drewN (nq + 1)).ownsRow base 3 1 _ _ _ from HO.out).alloc (.cells #[.int .i64 i] 3))
    have HV := hid (heap_alloc_new (w.drewN (nq + 1)) (.cells #[.int .i64 i] 3))
    have HNV := hid (show (Value.slice A x.u.length c).ownBlock ≠ some w.heap.size from fun e => by have := (HO.out.lt _ e).2; omega)
    have hB1 : base ≤ ((w.drewN (nq + 1)).alloc (.cells #[.int .i64 i] 3)).heap.size := by rw [World.size_alloc]; show base ≤ w.heap.size + 1; omega
    have hg1 : g < ((w.drewN (nq + 1)).alloc (.cells #[.int .i64 i] 3)).heap.size := by rw [World.size_alloc]; show g < w.heap.size + 1; omega
    have hbw : Below w.heap.size w ((w.drewN (nq + 1)).alloc (.cells #[.int .i64 i] 3)) := (below_drewN (Below.refl _ _) _).alloc (Nat.le_refl _) _
    have k1 : ((w.drewN (nq + 1)).alloc (.cells #[.int .i64 i] 3)).cell? ⟨g, j * 6 + 5, none⟩ = some (.slice A x.u.length c) := (hbw.cell (p := ⟨g, j * 6 + 5, none⟩) hgl.2).trans hc5
    have f1 : ((w.drewN (nq + 1)).alloc (.cells #[.int .i64 i] 3)).frozen? ⟨g, j * 6 + 5, none⟩ = false := (hbw.frozen (p := ⟨g, j * 6 + 5, none⟩) hgl.2).trans hfr
    have HK1 := hid k1; have HF1 := hid f1; have HB1 := hid hb1; have HC5 := hid hc5; have HBW := hid hbw
    clear hbw hb1 hg1
    go_region_with (go_at_call 40; refine (Tryd.insert_own base _ x.u (lessN x.u i) i w.heap.size 3 _ HO1.out (lessN_le _ _) hu HV.out HNV.out hB1).mono ?_; rintro e2 w2 ⟨v2, rfl, hown2, hgr2, hnew2⟩; have HK2 : w2.cell? ⟨g, j * 6 + 5, none⟩ = some (.slice A x.u.length c) := hgr2.cell HK1.out (fun e => HN.out e.symm); have HF2 : w2.frozen? ⟨g, j * 6 + 5, none⟩ = false := (hgr2.frozen_far ⟨g, j * 6 + 5, none⟩ (by rw [World.size_alloc]; exact Nat.lt_succ_of_lt hgl.2) (fun e => HN.out e.symm)).trans HF1.out; have HN2 := hid hnew2; have HG2 := hid hgr2; have HO2 := hid hown2; obtain ⟨A2, c2, rfl⟩ := own_shape hown2; clear hown2 hgr2 hnew2)
    all_goals go_end0
    all_goals exact ⟨_, rfl, by rw [HA.out]; exact HU.out.list' HX.out HQ.out (insL x.u (lessN x.u i) i) _ HK.out HG2.out (by rw [insL_len _ _ _ (lessN_le _ _)]; exact HO2.out) HN2.out, by rw [HA.out]; exact far_ins HBW.out HX.out HQ.out (insL x.u (lessN x.u i) i) _ HK.out HG2.out HN2.out, (HB1.out.grown HG2.out hB1 (fun k hk => (HO1.out.lt k hk).1)).setCell hgl.1 _⟩
  · have hk' : (x.k == 2) = false := beq_eq_false_iff_ne.2 hk
    have HA := hid (show xs.set j (addN i x) = xs by
      unfold addN; rw [if_neg hk]
      exact List.ext_getElem? fun t => by
        by_cases ht : t = j
        · subst ht; rw [List.getElem?_set_self hj, hx]
        · rw [List.getElem?_set_ne (by omega)])
    have H := hid h
    clear h hx hk hq
    go_enter Tryd.func38, Tryd.ntmps38
    go_wp2
    go_end0
    exact ⟨qs, rfl, by rw [HA.out]; exact H.out, by rw [HA.out]; exact Keeps.refl _ _ _ _, Below.refl _ _⟩
end Go.Proofs.YtimdohjlhbpmhaaDoor
