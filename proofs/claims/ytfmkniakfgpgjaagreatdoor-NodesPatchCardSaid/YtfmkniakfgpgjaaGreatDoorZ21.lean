import Derived.Test.YtfmkniakfgpgjaaGreatDoorZ20
import Derived.Test.YtfmkniakfgpgjaaGreatDoorZ16
import Derived.Test.YtfmkniakfgpgjaaGreatDoorZ10
import Derived.Deep.RegionHeld3
import Derived.Test.YtfmkniakfgpgjaaGreatDoorZ04
/- Arguments opened: a node, and a row of nodes. -/
namespace Go.Proofs.YtfmkniakfgpgjaaGreatDoor
open Go.ChangeShapes Go.WideShapes Go.ChangeAt Go.RowKit Go.Deep Go.KK
set_option linter.unusedVariables false
set_option linter.unusedSimpArgs false

section
variable {H : Type} {enc : TypeId × Value → H} {P : Program} {w : World} {base : Nat} {spare : Nat → Bool} {held : Bool}
theorem wf_w64 {a : Int} (h : (Lit.int .i64 a).wf = true) : W64 a := by
  have := bounds_i64 h
  unfold W64
  omega
theorem fld_lo {fs : Array Field} {ti : TypeId} {k : Nat} {f : Field} (h : (fs.toList.take 5).all (fun f => f.type == ti) = true) (hk : k < 5) (hf : fs[k]? = some f) : f.type = ti := by
  have := List.all_eq_true.1 h f (List.mem_of_getElem? (i := k) (by rw [List.getElem?_take, if_pos hk]; simpa using hf))
  simpa using this
theorem fld_hi {fs : Array Field} {tl : TypeId} {f : Field} (h : (fs.toList.drop 5).all (fun f => f.type == tl) = true) (hf : fs[5]? = some f) : f.type = tl := by
  have := List.all_eq_true.1 h f (List.mem_of_getElem? (i := 0) (by rw [List.getElem?_drop]; simpa using hf))
  simpa using this
/-- A node's cells that read. -/
theorem node_of_trod {fuel : Nat} {t ti tl : TypeId} {fs : Array Field} {cs : List Value} {y : DataW H × List MemPlace} (hs : P.underlying t = some (.struct fs)) (hone : oneCellFields P fs = true) (hsz : fs.size = 6) (hC : P.cellsOf t = 6)
    (h0 : (fs.toList.take 5).all (fun f => f.type == ti) = true) (h5 : (fs.toList.drop 5).all (fun f => f.type == tl) = true) (hti : P.underlying ti = some (.int .i64)) (htl : P.underlying tl = some (.slice ti)) (hci : P.cellsOf ti = 1)
    (h : DataW.trod enc P w base spare held fuel t cs = some y) : ∃ (x : TN) (q : Value), cs = x.cells q ∧ In1 w q x.u ∧ (W64 x.k ∧ W64 x.i ∧ W64 x.e ∧ W64 x.s ∧ W64 x.h) := by
  have h0 := fun k f hk hf => fld_lo (k := k) (f := f) h0 hk hf
  have h5 := fun f hf => fld_hi (f := f) h5 hf
  obtain ⟨xs, n, _, _, hlen, hxl, hg⟩ := DataW.trod_struct hs h
  rw [hC] at hlen
  match cs, hlen with
  | [a0, a1, a2, a3, a4, a5], _ =>
    have fld : ∀ k (hk : k < 6), ∃ f z, fs[k]? = some f ∧ DataW.trod enc P w base spare held n f.type [([a0, a1, a2, a3, a4, a5])[k]] = some z := by
      intro k hk
      have hf : fs[k]? = some (fs[k]'(by omega)) := Array.getElem?_eq_getElem _
      obtain ⟨ho, hc⟩ := hone_of hone k _ hf
      have := hg k _ hf
      rw [ho, hc, List.drop_eq_getElem_cons (by simpa using hk)] at this
      exact ⟨_, _, hf, this.trans (List.getElem?_eq_getElem (by omega))⟩
    have num : ∀ k (hk : k < 5), ∃ a, ([a0, a1, a2, a3, a4, a5])[k]'(by simp; omega) = Value.int .i64 a ∧ W64 a := by
      intro k hk
      obtain ⟨f, z, hf, ht⟩ := fld k (by omega)
      rw [h0 k f hk hf] at ht
      obtain ⟨a, e, _, hw⟩ := DataW.trod_int hti ht
      injection e with e
      exact ⟨a, e, wf_w64 hw⟩
    obtain ⟨k, e0, w0⟩ := num 0 (by omega)
    obtain ⟨i, e1, w1⟩ := num 1 (by omega)
    obtain ⟨e, e2, w2⟩ := num 2 (by omega)
    obtain ⟨s, e3, w3⟩ := num 3 (by omega)
    obtain ⟨h', e4, w4⟩ := num 4 (by omega)
    obtain ⟨f, z, hf, ht⟩ := fld 5 (by omega)
    rw [h5 f hf] at ht
    obtain ⟨A, m, c, u, e5, hsl, _⟩ := trod_ints htl hti hci ht
    simp only [List.getElem_cons_zero, List.getElem_cons_succ] at e0 e1 e2 e3 e4 e5
    subst e0; subst e1; subst e2; subst e3; subst e4; subst e5
    have hm := hsl.lenI
    subst hm
    exact ⟨⟨k, i, e, s, h', u⟩, _, rfl, ⟨A, c, rfl, hsl⟩, w0, w1, w2, w3, w4⟩
/-- A row of nodes that came in. -/
theorem opens_tree {r : Reach} {b0 : Nat} {tt t ti tl : TypeId} {fs : Array Field} {v : Value} {d : DataW H} {p : List MemPlace} (htt : P.underlying tt = some (.slice t)) (hs : P.underlying t = some (.struct fs)) (hone : oneCellFields P fs = true) (hsz : fs.size = 6) (hC : P.cellsOf t = 6)
    (h0 : (fs.toList.take 5).all (fun f => f.type == ti) = true) (h5 : (fs.toList.drop 5).all (fun f => f.type == tl) = true) (hti : P.underlying ti = some (.int .i64)) (htl : P.underlying tl = some (.slice ti)) (hci : P.cellsOf ti = 1)
    (hv : Value.okWide P w r b0 tt v) (h : DataW.Trod enc P w base spare held tt v d p) : ∃ A n c xs, v = .slice A n c ∧ Tr w A n c xs ∧ WfT xs := by
  obtain ⟨A, n, c, rfl⟩ := okWide_slice htt hv
  obtain ⟨fuel, hf⟩ := h
  rcases open_slice htt hf with ⟨hcs, _⟩ | ⟨a, len, cap, m, n', D, Pl, hcs, _, hl, hm, hmm, _, hi⟩
  · simp [Value.cells] at hcs
    obtain ⟨rfl, rfl, rfl⟩ := hcs
    exact ⟨_, _, _, [], rfl, Tr.nil _, fun j x h => by simp at h⟩
  · simp [Value.cells] at hcs
    obtain ⟨rfl, rfl, rfl⟩ := hcs
    have hnm : n ≤ m := by rw [hmm]; split <;> omega
    have each : ∀ j, j < n → ∃ xq : TN × Value, (∀ k, k < 6 → w.cell? (a.add (j * 6 + k)) = (xq.1.cells xq.2)[k]?) ∧ In1 w xq.2 xq.1.u ∧ (W64 xq.1.k ∧ W64 xq.1.i ∧ W64 xq.1.e ∧ W64 xq.1.s ∧ W64 xq.1.h) := by
      intro j hj
      obtain ⟨cs', hc, ht⟩ := hi j (by omega)
      obtain ⟨x, q, e, hin, hw⟩ := node_of_trod hs hone hsz hC h0 h5 hti htl hci ht
      rw [hC] at hc
      obtain ⟨_, _, hat⟩ := World.cells?_some hc
      refine ⟨⟨x, q⟩, fun k hk => ?_, hin, hw⟩
      rw [← Go.Deep.add_add, hat k hk, e]
    obtain ⟨l, hll, hq⟩ := choose_list n each
    have hx : ∀ {j : Nat} {x : TN}, (l.map (·.1))[j]? = some x → ∃ q, l[j]? = some (x, q) := by
      intro j x h
      rw [List.getElem?_map] at h
      rcases hh : l[j]? with _ | ⟨y, q⟩
      · rw [hh] at h; cases h
      · rw [hh] at h; injection h with h; subst h; exact ⟨q, rfl⟩
    refine ⟨_, _, _, l.map (·.1), rfl, ⟨l.map (·.2), by simp, ⟨hl, hm, by rw [ncs_len (by simp)]; simp [hll], fun i u hu => ?_⟩, fun j x q hxj hqj => ?_⟩, fun j x hxj => ?_⟩
    · have hil : i < n * 6 := by
        rcases Nat.lt_or_ge i (n * 6) with hh | hh
        · exact hh
        · rw [List.getElem?_eq_none (by rw [ncs_len (by simp)]; simp [hll]; omega)] at hu; cases hu
      have hjn : i / 6 < n := by omega
      have hlj : l[i / 6]? = some (l[i / 6]'(by omega)) := List.getElem?_eq_getElem _
      obtain ⟨b, off, spot⟩ := a
      have c0 := (hq 0 _ (List.getElem?_eq_getElem (by omega))).1 0 (by omega)
      have hspot : spot = none := by
        simp only [Nat.zero_mul, Nat.add_zero, TN.cells, List.getElem?_cons_zero] at c0
        simpa [Addr.add] using World.cell?_spot c0
      subst hspot
      refine ⟨b, off, rfl, ?_⟩
      have hg := ncs_get (xs := l.map (·.1)) (qs := l.map (·.2)) (j := i / 6) (k := i % 6) (by rw [List.getElem?_map, hlj]; rfl) (by rw [List.getElem?_map, hlj]; rfl) (Nat.mod_lt _ (by omega))
      rw [show i / 6 * 6 + i % 6 = i by omega] at hg
      have hc := (hq _ _ hlj).1 (i % 6) (Nat.mod_lt _ (by omega))
      rw [show i / 6 * 6 + i % 6 = i by omega, add_lit] at hc
      rw [hc, ← hg, hu]
    · obtain ⟨q', hl'⟩ := hx hxj
      rw [List.getElem?_map, hl'] at hqj
      injection hqj with hqj
      subst hqj
      exact (hq j _ hl').2.1
    · obtain ⟨q', hl'⟩ := hx hxj
      exact (hq j _ hl').2.2
/-- A node that came in. -/
theorem opens_node {r : Reach} {b0 : Nat} {t ti tl : TypeId} {fs : Array Field} {v : Value} {d : DataW H} {p : List MemPlace} (hs : P.underlying t = some (.struct fs)) (hone : oneCellFields P fs = true) (hsz : fs.size = 6) (hC : P.cellsOf t = 6)
    (h0 : (fs.toList.take 5).all (fun f => f.type == ti) = true) (h5 : (fs.toList.drop 5).all (fun f => f.type == tl) = true) (hti : P.underlying ti = some (.int .i64)) (htl : P.underlying tl = some (.slice ti)) (hci : P.cellsOf ti = 1)
    (hv : Value.okWide P w r b0 t v) (h : DataW.Trod enc P w base spare held t v d p) : ∃ (x : TN) (A : Option Addr) (c : Nat), v = .agg #[.int .i64 x.k, .int .i64 x.i, .int .i64 x.e, .int .i64 x.s, .int .i64 x.h, .slice A x.u.length c] ∧ SlA w 1 A x.u.length c (x.u.map (.int .i64)) ∧ (W64 x.k ∧ W64 x.i ∧ W64 x.e ∧ W64 x.s ∧ W64 x.h) := by
  obtain ⟨cs, rfl, _⟩ := okWide_struct hs hv
  obtain ⟨fuel, hf⟩ := h
  obtain ⟨x, q, e, ⟨A, c, rfl, hsl⟩, hw⟩ := node_of_trod hs hone hsz hC h0 h5 hti htl hci hf
  refine ⟨x, A, c, ?_, hsl, hw⟩
  have e' : cs.toList = x.cells (.slice A x.u.length c) := e
  obtain ⟨l⟩ := cs
  simp only at e'
  subst e'
  rfl
end
end Go.Proofs.YtfmkniakfgpgjaaGreatDoor

/- Arguments opened: a tree, its lists' numbers too. -/
namespace Go.Proofs.YtfmkniakfgpgjaaGreatDoor
open Go.ChangeShapes Go.WideShapes Go.ChangeAt Go.RowKit Go.Deep Go.KK
set_option linter.unusedVariables false
set_option linter.unusedSimpArgs false

section
variable {H : Type} {enc : TypeId × Value → H} {P : Program} {w : World} {base : Nat} {spare : Nat → Bool} {held : Bool}
/-- A node's cells that read. -/
theorem node_of_trod2 {fuel : Nat} {t ti tl : TypeId} {fs : Array Field} {cs : List Value} {y : DataW H × List MemPlace} (hs : P.underlying t = some (.struct fs)) (hone : oneCellFields P fs = true) (hsz : fs.size = 6) (hC : P.cellsOf t = 6)
    (h0 : (fs.toList.take 5).all (fun f => f.type == ti) = true) (h5 : (fs.toList.drop 5).all (fun f => f.type == tl) = true) (hti : P.underlying ti = some (.int .i64)) (htl : P.underlying tl = some (.slice ti)) (hci : P.cellsOf ti = 1)
    (h : DataW.trod enc P w base spare held fuel t cs = some y) : ∃ (x : TN) (q : Value), cs = x.cells q ∧ In1 w q x.u ∧ (W64 x.k ∧ W64 x.i ∧ W64 x.e ∧ W64 x.s ∧ W64 x.h) ∧ ∀ i ∈ x.u, I64 i := by
  have h0 := fun k f hk hf => fld_lo (k := k) (f := f) h0 hk hf
  have h5 := fun f hf => fld_hi (f := f) h5 hf
  obtain ⟨xs, n, _, _, hlen, hxl, hg⟩ := DataW.trod_struct hs h
  rw [hC] at hlen
  match cs, hlen with
  | [a0, a1, a2, a3, a4, a5], _ =>
    have fld : ∀ k (hk : k < 6), ∃ f z, fs[k]? = some f ∧ DataW.trod enc P w base spare held n f.type [([a0, a1, a2, a3, a4, a5])[k]] = some z := by
      intro k hk
      have hf : fs[k]? = some (fs[k]'(by omega)) := Array.getElem?_eq_getElem _
      obtain ⟨ho, hc⟩ := hone_of hone k _ hf
      have := hg k _ hf
      rw [ho, hc, List.drop_eq_getElem_cons (by simpa using hk)] at this
      exact ⟨_, _, hf, this.trans (List.getElem?_eq_getElem (by omega))⟩
    have num : ∀ k (hk : k < 5), ∃ a, ([a0, a1, a2, a3, a4, a5])[k]'(by simp; omega) = Value.int .i64 a ∧ W64 a := by
      intro k hk
      obtain ⟨f, z, hf, ht⟩ := fld k (by omega)
      rw [h0 k f hk hf] at ht
      obtain ⟨a, e, _, hw⟩ := DataW.trod_int hti ht
      injection e with e
      exact ⟨a, e, wf_w64 hw⟩
    obtain ⟨k, e0, w0⟩ := num 0 (by omega)
    obtain ⟨i, e1, w1⟩ := num 1 (by omega)
    obtain ⟨e, e2, w2⟩ := num 2 (by omega)
    obtain ⟨s, e3, w3⟩ := num 3 (by omega)
    obtain ⟨h', e4, w4⟩ := num 4 (by omega)
    obtain ⟨f, z, hf, ht⟩ := fld 5 (by omega)
    rw [h5 f hf] at ht
    obtain ⟨A, m, c, u, e5, hsl, hwu⟩ := trod_ints htl hti hci ht
    simp only [List.getElem_cons_zero, List.getElem_cons_succ] at e0 e1 e2 e3 e4 e5
    subst e0; subst e1; subst e2; subst e3; subst e4; subst e5
    have hm := hsl.lenI
    subst hm
    exact ⟨⟨k, i, e, s, h', u⟩, _, rfl, ⟨A, c, rfl, hsl⟩, ⟨w0, w1, w2, w3, w4⟩, fun i hi => bounds_i64 (hwu i hi)⟩
/-- A row of nodes that came in. -/
theorem opens_tree2 {r : Reach} {b0 : Nat} {tt t ti tl : TypeId} {fs : Array Field} {v : Value} {d : DataW H} {p : List MemPlace} (htt : P.underlying tt = some (.slice t)) (hs : P.underlying t = some (.struct fs)) (hone : oneCellFields P fs = true) (hsz : fs.size = 6) (hC : P.cellsOf t = 6)
    (h0 : (fs.toList.take 5).all (fun f => f.type == ti) = true) (h5 : (fs.toList.drop 5).all (fun f => f.type == tl) = true) (hti : P.underlying ti = some (.int .i64)) (htl : P.underlying tl = some (.slice ti)) (hci : P.cellsOf ti = 1)
    (hv : Value.okWide P w r b0 tt v) (h : DataW.Trod enc P w base spare held tt v d p) : ∃ A n c xs, v = .slice A n c ∧ Tr w A n c xs ∧ ∀ x ∈ xs, TnI x := by
  obtain ⟨A, n, c, rfl⟩ := okWide_slice htt hv
  obtain ⟨fuel, hf⟩ := h
  rcases open_slice htt hf with ⟨hcs, _⟩ | ⟨a, len, cap, m, n', D, Pl, hcs, _, hl, hm, hmm, _, hi⟩
  · simp [Value.cells] at hcs
    obtain ⟨rfl, rfl, rfl⟩ := hcs
    exact ⟨_, _, _, [], rfl, Tr.nil _, fun x h => by simp at h⟩
  · simp [Value.cells] at hcs
    obtain ⟨rfl, rfl, rfl⟩ := hcs
    have hnm : n ≤ m := by rw [hmm]; split <;> omega
    have each : ∀ j, j < n → ∃ xq : TN × Value, (∀ k, k < 6 → w.cell? (a.add (j * 6 + k)) = (xq.1.cells xq.2)[k]?) ∧ In1 w xq.2 xq.1.u ∧ (W64 xq.1.k ∧ W64 xq.1.i ∧ W64 xq.1.e ∧ W64 xq.1.s ∧ W64 xq.1.h) ∧ ∀ i ∈ xq.1.u, I64 i := by
      intro j hj
      obtain ⟨cs', hc, ht⟩ := hi j (by omega)
      obtain ⟨x, q, e, hin, hw, hu⟩ := node_of_trod2 hs hone hsz hC h0 h5 hti htl hci ht
      rw [hC] at hc
      obtain ⟨_, _, hat⟩ := World.cells?_some hc
      refine ⟨⟨x, q⟩, fun k hk => ?_, hin, hw, hu⟩
      rw [← Go.Deep.add_add, hat k hk, e]
    obtain ⟨l, hll, hq⟩ := choose_list n each
    have hx : ∀ {j : Nat} {x : TN}, (l.map (·.1))[j]? = some x → ∃ q, l[j]? = some (x, q) := by
      intro j x h
      rw [List.getElem?_map] at h
      rcases hh : l[j]? with _ | ⟨y, q⟩
      · rw [hh] at h; cases h
      · rw [hh] at h; injection h with h; subst h; exact ⟨q, rfl⟩
    refine ⟨_, _, _, l.map (·.1), rfl, ⟨l.map (·.2), by simp, ⟨hl, hm, by rw [ncs_len (by simp)]; simp [hll], fun i u hu => ?_⟩, fun j x q hxj hqj => ?_⟩, fun x hxm => ?_⟩
    · have hil : i < n * 6 := by
        rcases Nat.lt_or_ge i (n * 6) with hh | hh
        · exact hh
        · rw [List.getElem?_eq_none (by rw [ncs_len (by simp)]; simp [hll]; omega)] at hu; cases hu
      have hjn : i / 6 < n := by omega
      have hlj : l[i / 6]? = some (l[i / 6]'(by omega)) := List.getElem?_eq_getElem _
      obtain ⟨b, off, spot⟩ := a
      have c0 := (hq 0 _ (List.getElem?_eq_getElem (by omega))).1 0 (by omega)
      have hspot : spot = none := by
        simp only [Nat.zero_mul, Nat.add_zero, TN.cells, List.getElem?_cons_zero] at c0
        simpa [Addr.add] using World.cell?_spot c0
      subst hspot
      refine ⟨b, off, rfl, ?_⟩
      have hg := ncs_get (xs := l.map (·.1)) (qs := l.map (·.2)) (j := i / 6) (k := i % 6) (by rw [List.getElem?_map, hlj]; rfl) (by rw [List.getElem?_map, hlj]; rfl) (Nat.mod_lt _ (by omega))
      rw [show i / 6 * 6 + i % 6 = i by omega] at hg
      have hc := (hq _ _ hlj).1 (i % 6) (Nat.mod_lt _ (by omega))
      rw [show i / 6 * 6 + i % 6 = i by omega, add_lit] at hc
      rw [hc, ← hg, hu]
    · obtain ⟨q', hl'⟩ := hx hxj
      rw [List.getElem?_map, hl'] at hqj
      injection hqj with hqj
      subst hqj
      exact (hq j _ hl').2.1
    · obtain ⟨j, hj⟩ := List.mem_iff_getElem?.1 hxm
      obtain ⟨q', hl'⟩ := hx hj
      obtain ⟨⟨a1, a2, a3, a4, a5⟩, a6⟩ := (hq j _ hl').2.2
      unfold W64 at a1 a2 a3 a4 a5
      dsimp only at a1 a2 a3 a4 a5 a6
      exact ⟨⟨by omega, by omega⟩, ⟨by omega, by omega⟩, ⟨by omega, by omega⟩, ⟨by omega, by omega⟩, ⟨by omega, by omega⟩, a6⟩
end
end Go.Proofs.YtfmkniakfgpgjaaGreatDoor

/- plain: an epoch is begun where there is room; another epoch's secrets are others. -/
namespace Go.Proofs.YtfmkniakfgpgjaaGreatDoor
open Go.RowKit Go.KK Go.Shelf Go.Maps
set_option linter.unusedVariables false
set_option linter.unusedSimpArgs false

theorem ex_room {xs : List ND} {s t : Int} (hs : hasB xs s = true) (ht : hasB xs t = true) (hl : xs.length + 1 ≤ 100000) : (exF xs s t).2.2 = 0 := by
  refine mk_may (by omega) ?_
  unfold mayB shB ndN
  simp [lenB, arN, hs, ht]
  exact by decide
theorem pb_room {xs : List ND} {s : Int} (hs : hasB xs s = true) (hl : xs.length + 1 ≤ 100000) : (pbF xs s).2.2 = 0 := by
  refine mk_may (by omega) ?_
  unfold mayB shB ndN
  simp [lenB, arN, hs]
  exact by decide
theorem bgS_good {j p x : Int} : ∀ f ∈ bgS j p x, ∀ a ys, ys.length + 3 ≤ 100000 → (∀ k, hasB ys (a.getD k 0) = true) → hasB ys j = true → hasB ys p = true → hasB ys x = true → (f a ys).2.2 = 0 := by
  intro f hf a ys hl ha hj hp hx
  unfold bgS at hf
  simp only [List.mem_append, List.mem_cons, List.mem_map, List.mem_nil_iff, or_false] at hf
  rcases hf with ((rfl | rfl | rfl) | ⟨lb, hlb, rfl⟩) | rfl
  · exact ex_room hj hp (by omega)
  · exact dv_ok (ha 0) (by decide) hl
  · exact exd_ok (ha 0) hx (by decide) (by omega)
  · exact dv_ok (ha 2) (by have : ∀ l ∈ lbs8, l.size ≤ 200 := by decide
                           exact this lb hlb) hl
  · exact pb_room (ha 10) (by omega)
theorem run_room {j p x : Int} : ∀ (fs : List (List Int → List ND → Rs)) (xs : List ND) (acc : List Int), (∀ f ∈ fs, f ∈ bgS j p x) → xs.length + 3 * fs.length ≤ 100000 → (∀ y ∈ acc, hasB xs y = true) → hasB xs j = true → hasB xs p = true → hasB xs x = true → (runF xs acc fs).2.2 = 0
  | [], xs, acc, _, _, _, _, _, _ => rfl
  | f :: fs, xs, acc, hf, hl, ha, hj, hp, hx => by
    have hm := hf f (by simp)
    simp only [List.length_cons] at hl
    have h0 := bgS_good f hm acc xs (by omega) (fun k => by
      rw [List.getD_eq_getElem?_getD]
      rcases hk : acc[k]? with _ | y
      · show hasB xs 0 = true
        have := has_iff.1 hj
        exact has_iff.2 ⟨by omega, by omega⟩
      · exact ha y (List.mem_of_getElem? hk)) hj hp hx
    rw [run_cons_ok h0]
    obtain ⟨m, hm1⟩ := (bgS_sb j p x f hm acc).ext xs
    have hlen := bgS_gw j p x f hm acc xs
    have hh := (bgS_sb j p x f hm acc).has xs h0
    have up : ∀ {y : Int}, hasB xs y = true → hasB (f acc xs).1 y = true := fun h => by rw [hm1]; exact has_ext h m
    refine run_room fs _ _ (fun g hg => hf g (List.mem_cons_of_mem _ hg)) (by omega) (fun y hy => ?_) (up hj) (up hp) (up hx)
    rcases List.mem_append.1 hy with hy | hy
    · exact up (ha y hy)
    · rw [List.mem_singleton.1 hy]; exact hh
/-- An epoch is begun, where there is room. -/
theorem nx_room {xs : List ND} {i c x : Int} (hi : hasB xs i = true) (hc : hasB xs c = true) (hx : hasB xs x = true) (hl : xs.length + 60 ≤ 100000) : (nxF xs i c x []).2.2 = 0 := by
  have h1 := ex_room hi hc (show xs.length + 1 ≤ 100000 by omega)
  have g1 := gw_ex i c xs
  obtain ⟨m1, e1⟩ := (sb_ex i c).ext xs
  have a1 := (sb_ex i c).has xs h1
  try dsimp only at g1 e1 a1
  have h2 : (jnF xs i c x).2.2 = 0 := by
    unfold jnF bdF
    rw [if_pos h1]
    exact exd_ok a1 (by rw [e1]; exact has_ext hx m1) (by decide) (by omega)
  have g2 := gw_jn i c x xs
  obtain ⟨m2, e2⟩ := (sb_jn i c x).ext xs
  have a2 := (sb_jn i c x).has xs h2
  try dsimp only at g2 e2 a2
  have h3 : (pskF (jnF xs i c x).1 []).2.2 = 0 := mk_may (x := txN ⟨#[]⟩) (by omega) (by rw [text_may]; decide)
  have g3 := gw_psk [] (jnF xs i c x).1
  obtain ⟨m3, e3⟩ := (sb_psk []).ext (jnF xs i c x).1
  have a3 := (sb_psk []).has (jnF xs i c x).1 h3
  try dsimp only at g3 e3 a3
  rw [List.length_nil] at g3
  have h4 : (bgF (pskF (jnF xs i c x).1 []).1 (jnF xs i c x).2.1 (pskF (jnF xs i c x).1 []).2.1 x).2.2 = 0 := by
    unfold bgF
    refine run_room _ _ [] (fun f hf => hf) ?_ (fun y hy => by simp at hy) (by rw [e3]; exact has_ext a2 m3) a3 (by rw [e3, e2]; exact has_ext (has_ext hx m2) m3)
    have : (bgS (jnF xs i c x).2.1 (pskF (jnF xs i c x).1 []).2.1 x).length = 12 := rfl
    omega
  unfold nxF
  rw [if_pos h2, if_pos h3]
  unfold begF
  rw [if_pos h4]
/-- The export secret of another epoch, or under another context, is another one. -/
theorem ex_ne {Y : List ND} (ok : Okay Y) {ep ep' : List Int} {ex cx cx' i c x i' c' x' : Int} (h : XpAt Y ex ep lbNodes cx) (hn : NxAt Y i c x [] ep) (kn : NxAt Y i' c' x' [] ep') (e0 : (beF Y ep' cx').e = 0) (hne : c ≠ c' ∨ cx ≠ cx') : ex ≠ beI Y ep' cx' := by
  have hg := be_go Y ep' cx'
  obtain ⟨m, hm⟩ := hg.ext
  have hat : XpAt (beF Y ep' cx').x (beI Y ep' cx') ep' lbNodes cx' := xp_at (lab := lbNodes) e0
  have ok2 := hg.ok ok
  change (beF Y ep' cx').x = Y ++ m at hm
  rw [hm] at hat ok2
  exact xp_ne ok2 (h.ext m) hat (hn.ext m) (kn.ext m) hne
theorem chk_pos {t : List TN} (h : chkB t = true) : 0 < t.length := by
  unfold chkB at h
  simp only [Bool.and_eq_true, beq_iff_eq] at h
  omega
end Go.Proofs.YtfmkniakfgpgjaaGreatDoor

/- nodes' law: NodesBack walked. -/
namespace Go.Proofs.YtfmkniakfgpgjaaGreatDoor
open Go.RowKit Go.KK Go.Shelf Go.Maps
set_option linter.unusedVariables false
set_option linter.unusedSimpArgs false

theorem OpS.no {w0 W w' : World} {Z : Nat → Prop} {sa n m : Nat} {B : KS} {ex : Int} {t : List TN} {e : Ending} (h : OpS w0 W Z sa B ex n m t e w') (hmn : m < n) : e = .returned (.tuple #[.slice none 0 0, .int .i64 40]) ∧ ∃ Z' Y, LA w0 w' Z' sa Y ∧ Mv Z W Z' w' := by
  obtain ⟨Z', m', ⟨h1, -⟩ | ⟨-, h2, h3⟩⟩ := h
  · omega
  · exact ⟨h3, Z', _, h2, m'⟩
theorem bx12 {V : World} {b0 bl ol : Nat} {e0 e1 e2 e3 e4 e5 e6 e7 e8 e9 e10 zl : Int} (h : HasO (.cells #[.int .i64 e0, .int .i64 e1, .int .i64 e2, .int .i64 e3, .int .i64 e4, .int .i64 e5, .int .i64 e6, .int .i64 e7, .int .i64 e8, .int .i64 e9, .int .i64 e10] 29 (0, 0)) b0 V) (hc : V.cell? ⟨bl, ol, none⟩ = some (.int .i64 zl)) : V.cell? ⟨b0, 0, none⟩ = some (.int .i64 e0) ∧ V.cell? ⟨b0, 1, none⟩ = some (.int .i64 e1) ∧ V.cell? ⟨b0, 2, none⟩ = some (.int .i64 e2) ∧ V.cell? ⟨b0, 3, none⟩ = some (.int .i64 e3) ∧ V.cell? ⟨b0, 4, none⟩ = some (.int .i64 e4) ∧ V.cell? ⟨b0, 5, none⟩ = some (.int .i64 e5) ∧ V.cell? ⟨b0, 6, none⟩ = some (.int .i64 e6) ∧ V.cell? ⟨b0, 7, none⟩ = some (.int .i64 e7) ∧ V.cell? ⟨b0, 8, none⟩ = some (.int .i64 e8) ∧ V.cell? ⟨b0, 9, none⟩ = some (.int .i64 e9) ∧ V.cell? ⟨b0, 10, none⟩ = some (.int .i64 e10) ∧ V.cell? ⟨bl, ol, none⟩ = some (.int .i64 zl) := by
  obtain ⟨k0, k1, k2, k3, k4, k5, k6, k7, k8, k9, k10⟩ := box11 h
  exact ⟨k0, k1, k2, k3, k4, k5, k6, k7, k8, k9, k10, hc⟩
set_option maxHeartbeats 8000000 in
set_option maxRecDepth 100000 in
theorem back_go (A : Option Addr) (n c : Nat) (t : List TN) (cx : Int) (w : World) (ht : Tr w A n c t) (hti : ∀ m ∈ t, TnI m) (hcx : I64 cx) (hT : Tb w.heap.size w) :
    Calls Tryz.prog 4 #[.slice A n c, .int .i64 cx] w fun e w' => e = .returned (.bool true) ∧ Below w.heap.size w w' := by
  have HT := hid hT; have HTR := hid ht; have HTI := hid hti; have HCX := hid hcx
  have HTL := hid ht.len
  have hnc := ht.nc
  have hnm : n ≤ 9223372036854775807 := by have := hnc.1; have := hnc.2; unfold maxLen at *; omega
  have HLV := hid (live22_any w hT)
  have HWF := hid (show WfT t from fun j x hx => by
    obtain ⟨a1, a2, a3, a4, a5, -⟩ := hti x (List.mem_of_getElem? hx)
    unfold W64
    exact ⟨⟨a1.1, by have := a1.2; omega⟩, ⟨a2.1, by have := a2.2; omega⟩, ⟨a3.1, by have := a3.2; omega⟩, ⟨a4.1, by have := a4.2; omega⟩, ⟨a5.1, by have := a5.2; omega⟩⟩)
  clear hT ht hti hnc hcx
  go_enter Tryz.func4, Tryz.ntmps4
  go_wp2_with fail
  refine HLV.out.mono ?_
  rintro e w1 ⟨rfl, b1⟩
  have HB1 := hid b1
  have HTR1 := hid (HTR.out.ext b1)
  have HFW := hid (nfew_any (some ⟨w1.heap.size, 0, none⟩) 1 1 [.slice A n c] [t] (w1.alloc (.cells #[.slice A n c] 22)) (SlA.lit1 _) rfl (by decide) (fun j v xs hv hx => by
    rcases j with _ | j
    · injection hv with hv; injection hx with hx; subst hv; subst hx
      exact ⟨A, n, c, rfl, HTR1.out.alloc _⟩
    · simp at hv))
  have HB1a := hid (HB1.out.alloc HB1.out.size (.cells #[.slice A n c] 22))
  clear b1 HLV
  rcases hfw : [t].all fewN with _ | _
  · rw [hfw] at HFW
    clear hfw
    go_wp2_with fail
    refine HFW.out.mono ?_
    rintro e w2 ⟨rfl, b2⟩
    have HB2 := hid (HB1a.out.trans (b2.mono HB1a.out.size))
    clear b2 HFW
    go_wp2_with fail
    go_ret
    exact ⟨rfl, HB2.out⟩
  rw [hfw] at HFW
  have HU := hid (fewN_u (List.all_eq_true.1 hfw t (by simp)))
  have HFN := hid (fewN_n (List.all_eq_true.1 hfw t (by simp)))
  rw [HTL.out] at HFN
  have hn600 : n ≤ 600 := by have := HFN.out; omega
  clear hfw
  go_wp2_with fail
  refine HFW.out.mono ?_
  rintro e w2 ⟨rfl, b2⟩
  have HB2 := hid (HB1a.out.trans (b2.mono HB1a.out.size))
  have HTR2 := hid (HTR1.out.ext (((Below.refl _ _).alloc (Nat.le_refl _) _).trans (b2.mono (by simp))))
  clear b2 HFW HB1 HB1a HTR1 HTR
  have HCK := hid (rchk_any A n c t w2 HTR2.out hn600 (fun j q hq => by have := HU.out q (List.mem_of_getElem? hq); omega) HWF.out)
  rcases hck : chkB t with _ | _
  · rw [show chkE t = 1 by unfold chkE; rw [hck]; rfl] at HCK
    clear hck
    go_wp2_with fail
    refine HCK.out.mono ?_
    rintro e w3 ⟨rfl, b3⟩
    have HB3 := hid (HB2.out.trans (b3.mono HB2.out.size))
    clear b3 HCK
    go_wp2_with fail
    go_ret
    exact ⟨rfl, HB3.out⟩
  rw [show chkE t = 0 by unfold chkE; rw [hck]; rfl] at HCK
  have HNR := hid (nrm_chk hck HWF.out)
  have hn1 : 0 < n := by have := chk_pos hck; rw [HTL.out] at this; exact this
  clear hck
  go_wp2_with fail
  refine HCK.out.mono ?_
  rintro e w2' ⟨rfl, b3⟩
  have HB2' := hid (HB2.out.trans (b3.mono HB2.out.size))
  have HTR2' := hid (HTR2.out.ext b3)
  have HT2 := hid (show Tb w2'.heap.size w2' from Tb.up (HT.out.on HB2'.out) HB2'.out.size)
  clear b3 HCK HB2 HTR2
  go_wp2_with fail
  refine (two22_any w2' HT2.out).mono ?_
  rintro e w3 ⟨sa, sb, Z, Z', X, ep, rfl, hE, htx⟩
  have HE := hid hE
  obtain ⟨e0, e1, e2, e3, e4, e5, e6, e7, e8, e9, e10, rfl⟩ := len11 hE.len
  have HP := hid (two_box htx.a (.cells #[.int .i64 e0, .int .i64 e1, .int .i64 e2, .int .i64 e3, .int .i64 e4, .int .i64 e5, .int .i64 e6, .int .i64 e7, .int .i64 e8, .int .i64 e9, .int .i64 e10] 29) (.cells #[.int .i64 e0, .int .i64 e1, .int .i64 e2, .int .i64 e3, .int .i64 e4, .int .i64 e5, .int .i64 e6, .int .i64 e7, .int .i64 e8, .int .i64 e9, .int .i64 e10] 29))
  clear hE htx
  unfold epV
  go_upto_region 5 with fail
  generalize w3.heap.size = b0 at *
  refine forget (R := fun V => LA w2' V Z sa X ∧ HasO (.cells #[.int .i64 e0, .int .i64 e1, .int .i64 e2, .int .i64 e3, .int .i64 e4, .int .i64 e5, .int .i64 e6, .int .i64 e7, .int .i64 e8, .int .i64 e9, .int .i64 e10] 29 (0, 0)) b0 V ∧ ¬ Z b0 ∧ w2'.heap.size ≤ b0) ?_ HP.out
  clear HP
  rintro V ⟨hla, hbx, hzb, hwb⟩
  have HL := hid hla; have HB := hid hbx; have HZ := hid hzb
  clear hla hbx hzb hwb
  obtain ⟨k0, k1, k2, k3, k4, k5, k6, k7, k8, k9, k10⟩ := box11 HB.out
  obtain ⟨qs, hqs⟩ := tr_trq HTR2'.out
  have HFT := hid (fx_trq HL.out hqs)
  have HFB := hid (fx_has HB.out HZ.out)
  clear hqs
  have HLK := hid (lock_any HL.out HT2.out HE.out.len HE.out.i5 HCX.out HFT.out HTI.out (fun m hm => by have := HU.out m hm; omega) (by omega))
  rw [epV11] at HLK
  have HLKD := hid (fun h => lock_ok (X := X) (ep := [e0, e1, e2, e3, e4, e5, e6, e7, e8, e9, e10]) (cx := cx) (t := t) h)
  have HLNO := hid (fun h => lock_no (X := X) (ep := [e0, e1, e2, e3, e4, e5, e6, e7, e8, e9, e10]) (cx := cx) (t := t) h)
  have HLEN := hid (lock_len (X := X) [e0, e1, e2, e3, e4, e5, e6, e7, e8, e9, e10] cx t (k := 30) HU.out)
  have HEX := hid (lock_ext X [e0, e1, e2, e3, e4, e5, e6, e7, e8, e9, e10] cx t); have HE5 := hid (nx_has HE.out.nx HL.out.ar.ok).2
  generalize lockF X [e0, e1, e2, e3, e4, e5, e6, e7, e8, e9, e10] cx t = r at *
  generalize beI X [e0, e1, e2, e3, e4, e5, e6, e7, e8, e9, e10] cx = ex at *
  obtain ⟨Y, l, er⟩ := r
  dsimp only at HLK HLKD HLEN HEX HLNO
  go_wp2_with fail
  refine HLK.out.mono ?_
  rintro e w4 ⟨Z4, v, rfl, l4, m4, o4, z4⟩
  obtain ⟨A4, c4, rfl⟩ := own_shape o4
  have HL4 := hid l4
  have HFL4 := hid ((fx_own o4 z4).mono fun U hU => (SlA.of_own hU).2)
  have HFT4 := hid (HFT.out.mv m4); have HFB4 := hid (HFB.out.mv m4)
  clear l4 o4 z4 m4 HLK HFT HFB HL HB HZ k0 k1 k2 k3 k4 k5 k6 k7 k8 k9 k10
  by_cases her : er = 0
  rotate_left
  · have hl0 := HLNO.out her
    subst hl0
    have her' : (er != 0) = true := bne_iff_ne.2 her
    have HB5 := hid (HB2'.out.trans (HL4.out.bl.mono HB2'.out.size))
    clear her
    go_wp2_with fail
    go_ret
    exact ⟨rfl, HB5.out⟩
  subst her
  have HK := hid (HLKD.out rfl)
  have HLL := hid (show l.length = n by rw [HK.out.ll, HTL.out])
  have hn70 : n ≤ 70 := by have := HK.out.len; rw [HTL.out] at this; have := HFN.out; omega
  obtain ⟨mx, rfl⟩ := HEX.out
  rw [HLL.out] at HFL4 ⊢
  clear HLKD HLNO HEX
  have HOK := hid HL4.out.ar.ok
  have HBA := hid (be_again HOK.out HK.out.xp)
  have HSM := hid (show (X ++ mx).length ≤ 3000 by have h1 := HLEN.out; have := HE.out.sm; have : t.length * (30 + 10) ≤ 70 * 40 := Nat.mul_le_mul (by rw [HTL.out]; exact hn70) (Nat.le_refl _); omega)
  have HOP := hid (open_any HL4.out HT2.out HE.out.len HE.out.i5 HCX.out HFL4.out (by omega) (m := n) (t := t) (Nat.le_refl _) HTL.out (by rw [HBA.out.1]) (fun j hj => by rw [HBA.out.1, HBA.out.2]; exact HK.out.at' j (by rw [HTL.out]; exact hj)) (fun q hq => ⟨badN_g (HK.out.good q hq), by have := HU.out q hq; omega⟩) (.inl rfl))
  rw [epV11, HBA.out.1] at HOP
  unfold OpS at HOP
  rw [HNR.out] at HOP
  obtain ⟨k0, k1, k2, k3, k4, k5, k6, k7, k8, k9, k10⟩ := box11 HFB4.out.here
  go_wp2_with fail
  refine HOP.out.mono ?_
  rintro e w5 ⟨Z5, m5, ⟨-, l5, v5, qs5, rfl, hou⟩ | ⟨hlt, -⟩⟩
  rotate_left
  · exact absurd hlt (Nat.lt_irrefl _)
  obtain ⟨A5, c5, rfl, fx5⟩ := hou.fx
  rw [HTL.out] at fx5 ⊢
  have HL5 := hid l5; have HFU5 := hid fx5
  have HFL5 := hid (HFL4.out.mv m5); have HFT5 := hid (HFT4.out.mv m5); have HFB5 := hid (HFB4.out.mv m5)
  clear l5 fx5 hou m5 HOP HFL4 HFT4 HFB4 HL4 k0 k1 k2 k3 k4 k5 k6 k7 k8 k9 k10
  have HSA := hid (rsame_any _ _ _ t _ _ _ t w5 HFT5.out.here.tr HFU5.out.here.tr (by omega) (by omega) (fun j q hq => by have := HU.out q (List.mem_of_getElem? hq); omega) (fun j q hq => by have := HU.out q (List.mem_of_getElem? hq); omega))
  rw [sameT_refl] at HSA
  go_wp2_with fail
  refine HSA.out.mono ?_
  rintro e w6 ⟨rfl, b6⟩
  have HL6 := hid (HL5.out.ext b6); have HFL6 := hid (HFL5.out.ext b6); have HFB6 := hid (HFB5.out.ext b6)
  clear b6 HSA HFU5 HFT5 HL5 HFL5 HFB5
  have H0 := hid (has_ext HE.out.at0.has mx)
  have hlo := HE.out.lo
  have HH2 := hid (show hasB (X ++ mx) 2 = true from has_iff.2 ⟨by decide, by rw [List.length_append]; omega⟩)
  have HH3 := hid (show hasB (X ++ mx) 3 = true from has_iff.2 ⟨by decide, by rw [List.length_append]; omega⟩)
  have HNR2 := hid (nx_room H0.out HH3.out HH2.out (by have := HSM.out; omega))
  have HNX := hid (nx_any HL6.out HT2.out (i := 0) (c := 3) (x := 2) i64_0 (i64_lit (by decide) (by decide)) (i64_lit (by decide) (by decide)) (SlM.nil w6 Z5) (by omega) (fun i hi => by cases hi))
  unfold EpS at HNX
  have HNA := hid (nx_at HNR2.out); have HNE := hid (nx_elen (X ++ mx) 0 3 2 [])
  have HNX2 := hid (nx_ext (X ++ mx) 0 3 2 []); have HNL := hid (nx_len (X ++ mx) 0 3 2 [])
  rw [HNR2.out] at HNX
  generalize nxF (X ++ mx) 0 3 2 [] = q at *
  obtain ⟨Q, fl, qe⟩ := q
  dsimp only at HNX HNA HNE HNX2 HNL
  obtain ⟨f0, f1, f2, f3, f4, f5, f6, f7, f8, f9, f10, rfl⟩ := len11 HNE.out
  obtain ⟨my, rfl⟩ := HNX2.out
  rw [epV11] at HNX
  clear HNR2 HNX2 hlo
  go_wp2_with fail
  refine HNX.out.mono ?_
  rintro e w7 ⟨Z7, rfl, l7, m7⟩
  have HP := hid (And.intro (l7.alloc (.cells #[.int .i64 f0, .int .i64 f1, .int .i64 f2, .int .i64 f3, .int .i64 f4, .int .i64 f5, .int .i64 f6, .int .i64 f7, .int .i64 f8, .int .i64 f9, .int .i64 f10] 29)) (And.intro (((HFL6.out.mv m7).ext ((Below.refl _ _).alloc (Nat.le_refl _) (.cells #[.int .i64 f0, .int .i64 f1, .int .i64 f2, .int .i64 f3, .int .i64 f4, .int .i64 f5, .int .i64 f6, .int .i64 f7, .int .i64 f8, .int .i64 f9, .int .i64 f10] 29)))) (And.intro (((HFB6.out.mv m7).ext ((Below.refl _ _).alloc (Nat.le_refl _) (.cells #[.int .i64 f0, .int .i64 f1, .int .i64 f2, .int .i64 f3, .int .i64 f4, .int .i64 f5, .int .i64 f6, .int .i64 f7, .int .i64 f8, .int .i64 f9, .int .i64 f10] 29)))) (And.intro (HasO.new (.cells #[.int .i64 f0, .int .i64 f1, .int .i64 f2, .int .i64 f3, .int .i64 f4, .int .i64 f5, .int .i64 f6, .int .i64 f7, .int .i64 f8, .int .i64 f9, .int .i64 f10] 29 (0, 0)) w7) (show ¬ Z7 w7.heap.size from fun hz => by have := l7.ar.zlt _ hz; omega)))))
  have HOK7 := hid l7.ar.ok
  have HI5 := hid (show I64 ([f0, f1, f2, f3, f4, f5, f6, f7, f8, f9, f10].getD 5 0) from by
    have h1 := has_iff.1 (nx_has HNA.out HOK7.out).2
    have h2 := HOK7.out.len
    exact ⟨by omega, by omega⟩)
  clear l7 m7 HL6 HFL6 HFB6 HNX
  go_upto_region 12 with fail
  generalize w7.heap.size = b1 at *
  refine forget (R := fun U => LA w2' U Z7 sa (X ++ mx ++ my) ∧ Fx U Z7 (fun V => SlA V 1 A4 n c4 (l.map (.int .i64))) ∧ Fx U Z7 (HasO (.cells #[.int .i64 e0, .int .i64 e1, .int .i64 e2, .int .i64 e3, .int .i64 e4, .int .i64 e5, .int .i64 e6, .int .i64 e7, .int .i64 e8, .int .i64 e9, .int .i64 e10] 29 (0, 0)) b0) ∧ HasO (.cells #[.int .i64 f0, .int .i64 f1, .int .i64 f2, .int .i64 f3, .int .i64 f4, .int .i64 f5, .int .i64 f6, .int .i64 f7, .int .i64 f8, .int .i64 f9, .int .i64 f10] 29 (0, 0)) b1 U ∧ ¬ Z7 b1) ?_ HP.out
  clear HP
  rintro U ⟨hl, hf, hb, ho, hz⟩
  have HL7 := hid hl; have HFL7 := hid hf; have HFB7 := hid hb; have HZ7 := hid hz
  obtain ⟨k0, k1, k2, k3, k4, k5, k6, k7, k8, k9, k10⟩ := box11 ho
  clear hl hf hb ho hz
  have HXX := hid (has_ext (lkd_has HOK.out HK.out) my); have HX5 := hid (nx_has HNA.out HOK7.out).2
  have HSM7 := hid (show (X ++ mx ++ my).length ≤ 3040 by have h1 := HNL.out; have := HSM.out; rw [List.length_nil] at h1; omega)
  have HE0 := hid (show (beF (X ++ mx ++ my) [f0, f1, f2, f3, f4, f5, f6, f7, f8, f9, f10] cx).e = 0 from xp_ok (lab := lbNodes) HXX.out HX5.out (by decide) (by have := HSM7.out; omega))
  have HNE1 := hid (ex_ne HOK7.out (HK.out.xp.ext my) ((HE.out.nx.ext mx).ext my) HNA.out HE0.out (.inl (by decide)))
  have HNO := hid (no_open (ep := [f0, f1, f2, f3, f4, f5, f6, f7, f8, f9, f10]) (l := l) (m := 0) rfl ((HK.out.at' 0 (by rw [HTL.out]; exact hn1)).ext my) HXX.out HX5.out (by have := HSM7.out; omega) (by decide) (.inl HNE1.out))
  have HOP := hid (open_any HL7.out HT2.out HNE.out HI5.out HCX.out HFL7.out (by omega) (m := 0) (t := []) (Nat.zero_le _) rfl HNO.out.1 (fun j hj => absurd hj (Nat.not_lt_zero _)) (fun q hq => by simp at hq) (.inr ⟨hn1, HNO.out.2⟩))
  rw [epV11] at HOP
  unfold OpS at HOP
  have HG8 := hid ((be_go (X ++ mx ++ my) [f0, f1, f2, f3, f4, f5, f6, f7, f8, f9, f10] cx).trans (ky_go (beI (X ++ mx ++ my) [f0, f1, f2, f3, f4, f5, f6, f7, f8, f9, f10] cx) (beF (X ++ mx ++ my) [f0, f1, f2, f3, f4, f5, f6, f7, f8, f9, f10] cx) ((0 : Nat) : Int)))
  clear HNO
  obtain ⟨mz, hmz⟩ := HG8.out.ext
  have HMZ := hid (show (kyF (beI (X ++ mx ++ my) [f0, f1, f2, f3, f4, f5, f6, f7, f8, f9, f10] cx) (beF (X ++ mx ++ my) [f0, f1, f2, f3, f4, f5, f6, f7, f8, f9, f10] cx) ((0 : Nat) : Int)).1.x = X ++ mx ++ my ++ mz from hmz)
  have HS8 := hid (show (X ++ mx ++ my ++ mz).length ≤ 3060 from by have h1 := HG8.out.len; rw [HMZ.out] at h1; change _ ≤ (X ++ mx ++ my).length + _ at h1; have := HSM7.out; omega)
  have HK8 := hid (show Lkd X [e0, e1, e2, e3, e4, e5, e6, e7, e8, e9, e10] cx t (X ++ mx ++ my ++ mz) l ex from (HK.out.ext my).ext mz)
  rw [HMZ.out] at HOP
  clear hmz HG8 HMZ HE0 HNE1
  go_wp2_with fail
  refine HOP.out.mono ?_
  rintro e w8 ⟨Z8, m8, ⟨h0, -⟩ | ⟨-, l8, rfl⟩⟩
  · omega
  have HL8 := hid l8; have HFL8 := hid (HFL7.out.mv m8); have HFB8 := hid (HFB7.out.mv m8)
  have HO8 := hid l8.ar.ok
  clear l8 m8 HOP HL7 HFL7 HFB7 k0 k1 k2 k3 k4 k5 k6 k7 k8 k9 k10
  obtain ⟨bl, ol, zl, rfl, hzl, hcl⟩ := HFL8.out.here.elemI hn1
  have HZL := hid (show l.getD 0 0 = zl by rw [List.getD_eq_getElem?_getD, hzl]; rfl)
  replace hcl : w8.cell? ⟨bl, ol, none⟩ = some (.int .i64 zl) := hcl
  have HZ0 := hid hzl
  clear hzl
  obtain ⟨i0, hi0, hz0, hz1, hz2⟩ := info_parts Tryz.infoInt
  obtain ⟨k0, k1, k2, k3, k4, k5, k6, k7, k8, k9, k10⟩ := box11 HFB8.out.here
  go_upto_region 13 with fail
  have HS0 := hid (bx12 HFB8.out.here hcl)
  have BB := hid (below_drew ((Below.refl w8.heap.size w8).alloc (Nat.le_refl _) (.cells #[.int .i64 zl] 3)))
  have HLIT := hid (show ((w8.alloc (.cells #[.int .i64 zl] 3)).drew).ownsRow w8.heap.size 3 1 (.slice (some ⟨w8.heap.size, 0, none⟩) 1 1) 1 [.int .i64 zl] from World.ownsRow_lit (e := 3) (base := w8.heap.size) (size := 1) w8 #[.int .i64 zl] 1 (Nat.le_refl _) (by unfold maxLen; omega) rfl)
  have HSA1 := hid (HFL8.out.ext BB.out)
  have HS1 := hid (bx12 (HFB8.out.ext BB.out).here ((BB.out.cell (p := ⟨bl, ol, none⟩) (block_lt_of_cell hcl)).trans hcl))
  have HBK8 := hid (block_lt_of_cell hcl); have HC8 := hid hcl
  have HBA9 := hid (be_again HO8.out (HK8.out.xp))
  have HFC8 := hid (HFL8.out.mono (Q := fun V => V.cell? ⟨bl, ol, none⟩ = some (.int .i64 zl)) fun V hV => by
    obtain ⟨b, o, e, hc⟩ := hV.cells 0 (.int .i64 zl) (by rw [List.getElem?_map, HZ0.out]; rfl)
    injection e with e
    injection e with e1 e2
    subst e1; subst e2
    exact hc)
  have HN9 := hid (no_open (ep := [e0, e1, e2, e3, e4, e5, e6, e7, e8, e9, e10]) (l := zl :: l) (m := 1) (show (zl :: l).getD 1 0 = l.getD 0 0 by rw [List.getD_cons_succ]) (HK8.out.at' 0 (by rw [HTL.out]; exact hn1)) (lkd_has HO8.out HK8.out) (has_ext (has_ext (has_ext HE5.out mx) my) mz) (by have := HS8.out; omega) (by decide) (.inr (.inl (by decide))))
  have HOPF := hid (fun (w9 : World) (A9 : Option Addr) (c9 : Nat) (hl9 : LA w2' w9 Z8 sa (X ++ mx ++ my ++ mz)) (hf9 : Fx w9 Z8 fun V => SlA V 1 A9 (1 + n) c9 ((zl :: l).map (.int .i64))) =>
    open_any hl9 HT2.out HE.out.len HE.out.i5 HCX.out hf9 (by omega) (m := 1) (t := t.take 1) (by omega) (by rw [List.length_take, HTL.out]; omega) (by rw [HBA9.out.1]) (fun j hj => by
      obtain rfl : j = 0 := by omega
      rw [HBA9.out.1, HBA9.out.2, List.getD_cons_zero, ← HZL.out, take_tn (by decide)]
      exact HK8.out.at' 0 (by rw [HTL.out]; exact hn1)) (fun q hq => ⟨badN_g (HK8.out.good q (List.mem_of_mem_take hq)), by have := HU.out q (List.mem_of_mem_take hq); omega⟩) (.inr ⟨by omega, HN9.out.2⟩))
  rw [epV11] at HOPF
  have HZT := hid HL8.out.ar.zlt
  clear k0 k1 k2 k3 k4 k5 k6 k7 k8 k9 k10 hcl
  go_region_held3 (fun V => V.cell? ⟨b0, 0, none⟩ = some (.int .i64 e0) ∧ V.cell? ⟨b0, 1, none⟩ = some (.int .i64 e1) ∧ V.cell? ⟨b0, 2, none⟩ = some (.int .i64 e2) ∧ V.cell? ⟨b0, 3, none⟩ = some (.int .i64 e3) ∧ V.cell? ⟨b0, 4, none⟩ = some (.int .i64 e4) ∧ V.cell? ⟨b0, 5, none⟩ = some (.int .i64 e5) ∧ V.cell? ⟨b0, 6, none⟩ = some (.int .i64 e6) ∧ V.cell? ⟨b0, 7, none⟩ = some (.int .i64 e7) ∧ V.cell? ⟨b0, 8, none⟩ = some (.int .i64 e8) ∧ V.cell? ⟨b0, 9, none⟩ = some (.int .i64 e9) ∧ V.cell? ⟨b0, 10, none⟩ = some (.int .i64 e10) ∧ V.cell? ⟨bl, ol, none⟩ = some (.int .i64 zl)) (first | exact HS0.out | exact HS1.out | exact HS9.out | exact HS10.out | go_keep) (first
    | (refine step_append_sl _ rfl (.tmp 96) (.tmp 97) 33 rfl w8.heap.size 3 i0 (.int .i64 0) 1 8 Tryz.underlying33 hi0 hz0 hz1 hz2 rfl (by decide) (.slice (some ⟨w8.heap.size, 0, none⟩) 1 1) 1 [.int .i64 zl] (by rfl) HLIT.out (some ⟨bl, ol, none⟩) n c4 (l.map (.int .i64)) (by rfl) HSA1.out.here (ints_one _ _) (by unfold maxLen; omega) (by omega) (by have := BB.out.size; exact this) ?_; intro v9 w9 own9 gr9 loc9; have B9 := hid (below_append BB.out gr9 HLIT.out (Nat.le_refl _) (by simp)); obtain ⟨A9, c9, rfl⟩ := own_shape own9; have L9 := hid (HL8.out.ext B9.out); have F9 := hid ((fx_own (Z := Z8) own9 (fun b hb hz => by have h1 := (own9.lt b hb).1; have h2 := HZT.out b hz; omega)).mono fun U hU => (SlA.of_own hU).2); have HS9 := hid (bx12 (HFB8.out.ext B9.out).here ((B9.out.cell (p := ⟨bl, ol, none⟩) HBK8.out).trans HC8.out)); clear own9 gr9 loc9)
    | (go_at_call 17; refine (HOPF.out _ _ _ L9.out F9.out).mono ?_; rintro e wa ho; obtain ⟨rfl, Za, Ya, la, ma⟩ := ho.no (by omega); have HS10 := hid (bx12 ((HFB8.out.ext B9.out).mv ma).here ((HFC8.out.ext B9.out).mv ma).here); have HLA := hid la; clear la ma)
    | fail)
  all_goals
    have HBE := hid (HB2'.out.trans (HLA.out.bl.mono HB2'.out.size))
    go_wp2_with fail
    go_ret
    exact ⟨rfl, HBE.out⟩
end Go.Proofs.YtfmkniakfgpgjaaGreatDoor

/- the reference of layer 7: Members; the law's few. -/
namespace Go.Proofs.YtfmkniakfgpgjaaGreatDoor
open Go.RowKit Go.KK Go.Shelf
set_option linter.unusedVariables false
set_option linter.unusedSimpArgs false

/-- A tree is small. -/
def fewT (xs : List TN) : Bool := decide (xs.length ≤ 140) && xs.all fun x => decide (x.u.length ≤ 70)
/-- A value that reads as a tree. -/
def TrV (w : World) (v : Value) (xs : List TN) : Prop := ∃ A n c, v = .slice A n c ∧ Tr w A n c xs
theorem TrV.ext {w w' : World} {v : Value} {xs : List TN} (h : TrV w v xs) (hb : Below w.heap.size w w') : TrV w' v xs := by
  obtain ⟨A, n, c, e, ht⟩ := h
  exact ⟨A, n, c, e, ht.ext hb⟩
end Go.Proofs.YtfmkniakfgpgjaaGreatDoor

/- the reference of layer 7: Copy. -/
namespace Go.Proofs.YtfmkniakfgpgjaaGreatDoor
open Go.RowKit Go.KK Go.Shelf
set_option linter.unusedVariables false
set_option linter.unusedSimpArgs false

/-- A copy whose lists are rows of its own. -/
structure CpS (base : Nat) (wr : World) (v : Value) (xs : List TN) (rs : List Value) : Prop where
  ql : rs.length = xs.length
  row : wr.ownsRow base 46 6 v xs.length (ncs xs rs)
  new : ∀ (k : Nat) x q, xs[k]? = some x → rs[k]? = some q → wr.ownsRow base 3 1 q x.u.length (x.u.map (.int .i64)) ∧ (q.ownBlock = none ∨ q.ownBlock ≠ v.ownBlock)
  apart : ∀ (i k : Nat) p q b, rs[i]? = some p → rs[k]? = some q → p.ownBlock = some b → q.ownBlock = some b → i = k
theorem CpS.nil (base : Nat) (w : World) : CpS base w (.slice none 0 0) [] [] := ⟨rfl, World.ownsRow_nil _ _ _ _, fun k x q h => by simp at h, fun i k p q b h => by simp at h⟩
theorem app_get {α : Type} {l : List α} {y z : α} {k : Nat} (h : (l ++ [y])[k]? = some z) : (k < l.length ∧ l[k]? = some z) ∨ (k = l.length ∧ z = y) := by
  by_cases hk : k < l.length
  · rw [List.getElem?_append_left hk] at h; exact .inl ⟨hk, h⟩
  · by_cases hkl : k = l.length
    · subst hkl
      rw [List.getElem?_append_right (Nat.le_refl _), Nat.sub_self] at h
      injection h with h
      exact .inr ⟨rfl, h.symm⟩
    · rw [List.getElem?_eq_none (by simp; omega)] at h; cases h
theorem CpS.snoc {base : Nat} {wr w2 W : World} {v v' q : Value} {xs : List TN} {rs : List Value} {x : TN} (h : CpS base wr v xs rs) (hb : Below wr.heap.size wr w2) (hbase : base ≤ wr.heap.size)
    (hq : w2.ownsRow wr.heap.size 3 1 q x.u.length (x.u.map (.int .i64))) (hg : w2.grownBy W v.ownBlock) (hv : v'.ownBlock = v.ownBlock ∨ v'.ownBlock = some w2.heap.size) (hrow : W.ownsRow base 46 6 v' (xs.length + 1) (ncs xs rs ++ x.cells q)) :
    CpS base W v' (xs ++ [x]) (rs ++ [q]) := by
  have hvlt : ∀ b, v.ownBlock = some b → b < wr.heap.size := fun b e => (h.row.lt b e).2
  have hqge : ∀ b, q.ownBlock = some b → wr.heap.size ≤ b ∧ b < w2.heap.size := fun b e => hq.lt b e
  have hz := hb.size
  refine ⟨by simp [h.ql], ?_, fun k y p hy hp => ?_, fun i k p r b hp hr h1 h2 => ?_⟩
  · rw [ncs_app h.ql rfl, List.length_append]
    have : ncs [x] [q] = x.cells q := by unfold ncs; simp
    rw [this]
    exact hrow
  · rcases app_get hy with ⟨hk, hy'⟩ | ⟨hk, rfl⟩
    · rcases app_get hp with ⟨_, hp'⟩ | ⟨hk2, _⟩
      · obtain ⟨o1, o2⟩ := h.new k y p hy' hp'
        refine ⟨(own_ext o1 hb).kept hg o2, ?_⟩
        rcases o2 with o2 | o2
        · exact .inl o2
        · rcases hv with e | e
          · rw [e]; exact .inr o2
          · refine .inr fun e2 => ?_
            rw [e] at e2
            have := (o1.lt _ e2).2
            omega
      · have := h.ql; omega
    · rcases app_get hp with ⟨hk2, _⟩ | ⟨_, rfl⟩
      · have := h.ql; omega
      · refine ⟨(own_mono hq hbase).kept hg ?_, ?_⟩
        · rcases hb2 : p.ownBlock with _ | b
          · exact .inl rfl
          · refine .inr fun e => ?_
            have h1 := hvlt b e.symm
            have h2 := (hqge b hb2).1
            omega
        · rcases hb2 : p.ownBlock with _ | b
          · exact .inl rfl
          · refine .inr fun e => ?_
            have h2 := hqge b hb2
            rcases hv with e3 | e3
            · rw [e3] at e
              have h1 := hvlt b e.symm
              omega
            · rw [e3] at e; injection e with e; omega
  · rcases app_get hp with ⟨hk, hp'⟩ | ⟨hk, rfl⟩
    · rcases app_get hr with ⟨hk2, hr'⟩ | ⟨hk2, rfl⟩
      · exact h.apart i k p r b hp' hr' h1 h2
      · have hx : xs[i]? = some (xs[i]'(by have := h.ql; omega)) := List.getElem?_eq_getElem _
        have a := ((h.new i _ p hx hp').1.lt b h1).2
        have b2 := (hqge b h2).1
        omega
    · rcases app_get hr with ⟨hk2, hr'⟩ | ⟨hk2, rfl⟩
      · have hx : xs[k]? = some (xs[k]'(by have := h.ql; omega)) := List.getElem?_eq_getElem _
        have a := ((h.new k _ r hx hr').1.lt b h2).2
        have b2 := (hqge b h1).1
        omega
      · omega
theorem CpS.ext {base : Nat} {wr w2 : World} {v : Value} {xs : List TN} {rs : List Value} (h : CpS base wr v xs rs) (hb : Below wr.heap.size wr w2) : CpS base w2 v xs rs :=
  ⟨h.ql, own_ext h.row hb, fun k x q hx hq => ⟨own_ext (h.new k x q hx hq).1 hb, (h.new k x q hx hq).2⟩, h.apart⟩
theorem CpS.trv {base : Nat} {wr : World} {v : Value} {xs : List TN} {rs : List Value} (h : CpS base wr v xs rs) : TrV wr v xs := by
  obtain ⟨A, c, rfl, hs⟩ := SlA.owned h.row
  refine ⟨A, _, c, rfl, rs, h.ql, hs, fun j x q hx hq => ?_⟩
  obtain ⟨A', c', e, hs'⟩ := SlA.owned (h.new j x q hx hq).1
  exact ⟨A', c', e, hs'⟩
theorem CpS.trw {base : Nat} {wr : World} {v : Value} {xs : List TN} {rs : List Value} (h : CpS base wr v xs rs) (hb : Bare xs) (hn : 0 < xs.length) : ∃ g cap, v = .slice (some ⟨g, 0, none⟩) xs.length cap ∧ TrW wr base g cap xs rs := by
  rcases h.row.2 with ⟨_, e⟩ | ⟨g, cap, cur, e, _⟩
  · omega
  · subst e
    refine ⟨g, cap, rfl, h.row, h.ql, fun j x q hx hq => ⟨fun _ => ?_, fun hk => ⟨hb j x hx hk, ?_⟩⟩, fun i j x y p q b _ _ hp hq _ _ h1 h2 => h.apart i j p q b hp hq h1 h2⟩
    · obtain ⟨o1, o2⟩ := h.new j x q hx hq
      refine ⟨o1, ?_⟩
      rcases o2 with o2 | o2
      · rw [o2]; simp
      · exact o2
    · obtain ⟨A', c', e', hs'⟩ := SlA.owned (h.new j x q hx hq).1
      rw [hb j x hx hk] at e' hs'
      exact ⟨A', c', e', hs'.cm⟩
theorem new_frozen {w w2 : World} {xs : Array Value} {t : TypeId} (hb : Below (w.alloc (.cells xs t)).heap.size (w.alloc (.cells xs t)) w2) (i : Nat) : w2.frozen? ⟨w.heap.size, i, none⟩ = false := by
  rw [hb.frozen (p := ⟨w.heap.size, i, none⟩) (by rw [World.size_alloc]; exact Nat.lt_succ_self _), World.frozen?_alloc_at xs t _ i rfl]
theorem cp_below {wr w3 : World} {o : Obj} (h : Below wr.heap.size wr (wr.alloc o)) (hb : Below (wr.alloc o).heap.size (wr.alloc o) w3) (v : Value) : Below wr.heap.size wr (w3.setCell ⟨wr.heap.size, 5, none⟩ v) :=
  (h.trans (hb.mono (by simp))).setCell (Nat.le_refl _) v
theorem cp_own {wr w3 : World} {o : Obj} {e : TypeId} {v u : Value} {n : Nat} {xs : List Value} (h : w3.ownsRow (wr.alloc o).heap.size e 1 v n xs) : (w3.setCell ⟨wr.heap.size, 5, none⟩ u).ownsRow wr.heap.size e 1 v n xs := by
  refine (own_mono h (by simp)).kept (row := some wr.heap.size) (grown_setCell (World.grownBy.refl _ _) rfl u) ?_
  rcases hb : v.ownBlock with _ | b
  · exact .inl rfl
  · refine .inr fun e => ?_
    injection e with e
    have := (h.lt b hb).1
    rw [World.size_alloc] at this
    omega
theorem sla_lit6 {w : World} {T : TypeId} (b : Nat) (hb : b = w.heap.size) (a0 a1 a2 a3 a4 a5 : Value) : SlA (w.alloc (.cells #[a0, a1, a2, a3, a4, a5] T)) 6 (some ⟨b, 0, none⟩) 1 1 [a0, a1, a2, a3, a4, a5] :=
  ⟨Nat.le_refl _, by decide, rfl, fun j u hj => ⟨b, 0, rfl, by rw [World.cell?_alloc_at _ _ _ _ hb, Nat.zero_add]; simpa using hj⟩⟩
theorem cp_row {base : Nat} {wr : World} {v : Value} {xs : List TN} {rs : List Value} {j : Nat} (h : CpS base wr v xs rs) (hj : xs.length = j) : wr.ownsRow base 46 6 v j (ncs xs rs) := by
  subst hj; exact h.row
theorem cells_one (x : TN) (A : Option Addr) (n c : Nat) : ∀ u ∈ x.cells (.slice A n c), u.oneCell' = true := by
  intro u hu
  simp only [TN.cells, List.mem_cons, List.not_mem_nil, or_false] at hu
  rcases hu with rfl | rfl | rfl | rfl | rfl | rfl <;> rfl
theorem bytes_ok {n m : Nat} (hn : n ≤ 600) (hm : m ≤ 600) : (n + m) * 64 ≤ 140737488355328 := by omega
set_option maxHeartbeats 2000000 in
set_option maxRecDepth 100000 in
theorem copy_any (A : Option Addr) (n c : Nat) (xs : List TN) (w : World) (h : Tr w A n c xs) (hnm : n ≤ 600) (hu : Shorts xs) :
    Calls Tryz.prog 27 #[.slice A n c] w fun e w' => ∃ v rs, e = .returned v ∧ CpS w.heap.size w' v xs rs ∧ Below w.heap.size w w' := by
  have H := hid h; have HU := hid hu
  have HL := hid h.len
  clear h hu
  obtain ⟨i0, hi, hz0, hz1, hz2⟩ := info_parts Tryz.infoTN
  obtain ⟨i1, hi1, hy0, hy1, hy2⟩ := info_parts Tryz.infoInt
  go_enter Tryz.func27, Tryz.ntmps27
  go_wp2
  go_loopw [8, 3] (fun i v wr => ∃ (j : Nat) (rs : List Value), i = .int .i64 j ∧ j ≤ n ∧ CpS w.heap.size wr v (xs.take j) rs ∧ Below w.heap.size w wr) (fun i _ _ => n - (intOf i).toNat)
  case atStart => exact ⟨0, [], rfl, by omega, CpS.nil _ _, Below.refl _ _⟩
  case round =>
    obtain ⟨j, rs, hi, hj, hcp, hbr⟩ := hrel
    subst hi
    have HB := hid hbr; clear hbr
    by_cases hlt : j < n
    · obtain ⟨b0, o0, q, Aq, cq, rfl, hq, c0, c1, c2, c3, c4, c5, hsq⟩ := (H.out.ext HB.out).at hlt
      have hqu := HU.out _ _ hq
      have HT := hid (take_get hq)
      have hzr := HB.out.size
      have HCP := hid hcp
      have hlj : (xs.take j).length = j := by rw [List.length_take, HL.out]; omega
      have HLJ := hid hlj
      have hsq2 := hsq.alloc (.cells #[.int .i64 q.k, .int .i64 q.i, .int .i64 q.e, .int .i64 q.s, .int .i64 q.h, .slice Aq q.u.length cq] 46)
      have HSQ := hid hsq2
      have hb1 : Below wr.heap.size wr (wr.alloc (.cells #[.int .i64 q.k, .int .i64 q.i, .int .i64 q.e, .int .i64 q.s, .int .i64 q.h, .slice Aq q.u.length cq] 46)) := (Below.refl _ _).alloc (Nat.le_refl _) _
      have HB1 := hid hb1
      clear hq hcp hsq hsq2 hb1 hlj
      have hj600 : (j + 1) * 64 ≤ 140737488355328 := by omega
      have hml : j + 1 ≤ maxLen := by unfold maxLen; omega
      go_wp2_with (first
        | (at_builtin; refine wpList_append_new _ rfl _ _ 33 rfl 3 i1 (.int .i64 0) 1 8 Tryz.underlying33 hi1 hy0 hy1 hy2 rfl (by decide) rfl Aq q.u.length cq _ rfl HSQ.out (ints_one _ _) (by unfold maxLen; omega) (by omega) ?_; intro v3 w3 hown3 hb3; obtain ⟨A3, c3, rfl⟩ := own_shape hown3; have k0 := new_cell hb3 0; have k1 := new_cell hb3 1; have k2 := new_cell hb3 2; have k3 := new_cell hb3 3; have k4 := new_cell hb3 4; have k5 := new_cell hb3 5; have f5 := new_frozen hb3 5; have hbS := hid (cp_below HB1.out hb3 (Value.slice A3 q.u.length c3)); have hoS := hid (cp_own (u := .slice A3 q.u.length c3) hown3); have hzS := hid (below_new (Below.refl _ _) (Nat.le_refl _) hb3).2; have HG := hid (cp_row (HCP.out.ext (hbS.out.alloc hbS.out.size (.cells #[.int .i64 q.k, .int .i64 q.i, .int .i64 q.e, .int .i64 q.s, .int .i64 q.h, .slice A3 q.u.length c3] 46))) HLJ.out); have HGZ := hid (Nat.le_trans hzr (hbS.out.alloc hbS.out.size (.cells #[.int .i64 q.k, .int .i64 q.i, .int .i64 q.e, .int .i64 q.s, .int .i64 q.h, .slice A3 q.u.length c3] 46)).size); have HL6 := hid (sla_lit6 (w := w3.setCell ⟨wr.heap.size, 5, none⟩ (.slice A3 q.u.length c3)) (T := 46) w3.heap.size (by simp) (.int .i64 q.k) (.int .i64 q.i) (.int .i64 q.e) (.int .i64 q.s) (.int .i64 q.h) (.slice A3 q.u.length c3)); have HO6 := hid (cells_one q A3 q.u.length c3); clear hown3 hb3)
        | (at_builtin; refine wpList_append_sl _ rfl _ _ 22 rfl w.heap.size 46 i0 _ 6 64 Tryz.underlying22 hi hz0 hz1 hz2 rfl (by decide) _ j _ rfl HG.out _ 1 1 (q.cells (.slice A3 q.u.length c3)) rfl HL6.out HO6.out hml hj600 HGZ.out ?_; intro v4 w4 hown4 hg4 hv4))
      go_roundw
      case rel =>
        have hbW := hbS.out.alloc hbS.out.size (.cells #[.int .i64 q.k, .int .i64 q.i, .int .i64 q.e, .int .i64 q.s, .int .i64 q.h, .slice A3 q.u.length c3] 46)
        have hcp := HCP.out.snoc (x := q) hbW hzr ((hoS.out).alloc _) hg4 hv4 (by rw [HLJ.out]; exact hown4)
        refine ⟨j + 1, rs ++ [.slice A3 q.u.length c3], by go_num, by omega, by rw [HT.out]; exact hcp, ?_⟩
        exact (HB.out.trans (hbW.mono hzr)).grown hg4 (by have := hbW.size; omega) (fun k hk => (HCP.out.row.lt k hk).1)
      case measure => simp [intOf]; omega
    · have HJ := hid (show xs.take j = xs from List.take_of_length_le (by have := HL.out; omega))
      have HCP := hid hcp
      clear hcp
      go_wp2
      go_ret
      have := HCP.out
      rw [HJ.out] at this
      exact ⟨_, rs, rfl, this, HB.out⟩
end Go.Proofs.YtfmkniakfgpgjaaGreatDoor

