/- ratchet: a tree copied. -/
import Derived.Test.YtimdohjlhbpmhaaDoorR7
namespace Go.Proofs.YtimdohjlhbpmhaaDoor
open Go.RowKit Go.KK Go.Shelf
set_option linter.unusedVariables false
set_option linter.unusedSimpArgs false

theorem Tryd.infoTN : (Tryd.prog.info? 25).map (fun i => (i.zero, i.size, i.bytes)) = some (some (.agg #[.int .i64 0, .int .i64 0, .int .i64 0, .int .i64 0, .int .i64 0, .slice none 0 0]), 6, 64) := by kernel_rfl
theorem ncs_one {xs : List TN} {qs : List Value} (h : ∀ q ∈ qs, q.oneCell' = true) : ∀ u ∈ ncs xs qs, u.oneCell' = true := by
  intro u hu
  unfold ncs at hu
  obtain ⟨l, hl, hul⟩ := List.mem_flatten.1 hu
  obtain ⟨j, hj, rfl⟩ := List.mem_iff_getElem.1 hl
  rw [List.getElem_zipWith] at hul
  simp only [TN.cells, List.mem_cons, List.not_mem_nil, or_false] at hul
  rcases hul with rfl | rfl | rfl | rfl | rfl | rfl
  · rfl
  · rfl
  · rfl
  · rfl
  · rfl
  · exact h _ (List.getElem_mem _)
theorem clone_nodes (b off n c : Nat) (xs : List TN) (qs : List Value) (w : World) (hq : qs.length = xs.length) (h : SlA w 6 (some ⟨b, off, none⟩) n c (ncs xs qs)) (h1 : ∀ q ∈ qs, q.oneCell' = true) (hnm : n ≤ 600) :
    Calls Tryd.prog 57 #[.slice (some ⟨b, off, none⟩) n c] w fun e w' => ∃ v', e = .returned v' ∧ w'.ownsRow w.heap.size 25 6 v' n (ncs xs qs) ∧ v' ≠ .slice none 0 0 ∧ Below w.heap.size w w' := by
  obtain ⟨i0, hi, hz0, hz1, hz2⟩ := info_parts Tryd.infoTN
  refine AnyE.slices_Clone Tryd.laysE041 i0 _ 6 64 hi hz0 hz1 hz2 rfl (by decide) Tryd.sizeOf25 b off n c (ncs xs qs) w h.len (by unfold maxLen; omega) (by omega) (fun j u hj => ?_) (ncs_one h1)
  obtain ⟨b', off', e, hc⟩ := h.cells j u hj
  injection e with e
  injection e with e1 e2
  subst e1; subst e2
  exact hc

/-- What holds of the copy, whose first lists are copied. -/
structure Cp (base : Nat) (wr : World) (g cap : Nat) (xs : List TN) (qs : List Value) (j : Nat) (rs : List Value) : Prop where
  ql : rs.length = xs.length
  row : wr.ownsRow base 25 6 (.slice (some ⟨g, 0, none⟩) xs.length cap) xs.length (ncs xs rs)
  old : ∀ k, j ≤ k → rs[k]? = qs[k]?
  new : ∀ (k : Nat) x q, k < j → xs[k]? = some x → rs[k]? = some q → wr.ownsRow base 3 1 q x.u.length (x.u.map (.int .i64)) ∧ q.ownBlock ≠ some g
  apart : ∀ (i k : Nat) p q b, i < j → k < j → rs[i]? = some p → rs[k]? = some q → p.ownBlock = some b → q.ownBlock = some b → i = k
theorem Cp.step {base : Nat} {wr w2 : World} {g cap : Nat} {xs : List TN} {qs rs : List Value} {j : Nat} {x : TN} {v : Value} (h : Cp base wr g cap xs qs j rs) (hx : xs[j]? = some x) (hb : Below wr.heap.size wr w2) (hbase : base ≤ wr.heap.size)
    (hv : w2.ownsRow wr.heap.size 3 1 v x.u.length (x.u.map (.int .i64))) : Cp base (w2.setCell ⟨g, j * 6 + 5, none⟩ v) g cap xs qs (j + 1) (rs.set j v) := by
  have hj : j < xs.length := (List.getElem?_eq_some_iff.1 hx).1
  have hp : rs[j]? = some (rs[j]'(by rw [h.ql]; exact hj)) := List.getElem?_eq_getElem _
  have hgl : g < wr.heap.size := (h.row.lt g rfl).2
  have hvg : v.ownBlock ≠ some g := fun e => by have := (hv.lt g e).1; omega
  have hrow := ((own_ext h.row hb).stored (j * 6 + 5) v)
  refine ⟨by simpa using h.ql, ?_, fun k hk => ?_, fun k y q hk hy hq => ?_, fun i k p q b hi hk hpi hqk hb1 hb2 => ?_⟩
  · have e := ncs_set1 (d := 5) (y := x) (q := v) h.ql hx hp (by omega) v rfl
    rw [show xs.set j x = xs from List.ext_getElem? fun i => by
      by_cases hij : i = j
      · subst hij; rw [List.getElem?_set_self hj, hx]
      · rw [List.getElem?_set_ne (by omega)]] at e
    rw [← e]
    exact hrow.1
  · rw [List.getElem?_set_ne (by omega)]; exact h.old k (by omega)
  · rcases set_get hq with ⟨rfl, rfl⟩ | ⟨hne, hq'⟩
    · rw [hx] at hy
      injection hy with hy
      subst hy
      exact ⟨(own_mono hv hbase).kept hrow.2 (.inr hvg), hvg⟩
    · obtain ⟨h1, h2⟩ := h.new k y q (by omega) hy hq'
      exact ⟨(own_ext h1 hb).kept hrow.2 (.inr h2), h2⟩
  · rcases set_get hpi with ⟨rfl, rfl⟩ | ⟨hne, hp'⟩
    · rcases set_get hqk with ⟨rfl, rfl⟩ | ⟨hne2, hq'⟩
      · rfl
      · have hkl : k < xs.length := by
          have := (List.getElem?_eq_some_iff.1 hq').1
          rw [h.ql] at this; exact this
        have h3 := (h.new k _ q (by omega) (List.getElem?_eq_getElem hkl) hq').1.lt b hb2
        have h4 := (hv.lt b hb1).1
        omega
    · rcases set_get hqk with ⟨rfl, rfl⟩ | ⟨hne2, hq'⟩
      · have hil : i < xs.length := by
          have := (List.getElem?_eq_some_iff.1 hp').1
          rw [h.ql] at this; exact this
        have h3 := (h.new i _ p (by omega) (List.getElem?_eq_getElem hil) hp').1.lt b hb1
        have h4 := (hv.lt b hb2).1
        omega
      · exact h.apart i k p q b (by omega) (by omega) hp' hq' hb1 hb2
/-- All nodes but parents have no list. -/
def Bare (xs : List TN) : Prop := ∀ (j : Nat) x, xs[j]? = some x → x.k ≠ 2 → x.u = []
theorem Cp.trw {base : Nat} {wr : World} {g cap : Nat} {xs : List TN} {qs rs : List Value} (h : Cp base wr g cap xs qs xs.length rs) (hb : Bare xs) : TrW wr base g cap xs rs := by
  refine ⟨h.row, h.ql, fun j x q hx hq => ?_, fun i j x y p q b hx hy hp hq _ _ hb1 hb2 => h.apart i j p q b (List.getElem?_eq_some_iff.1 hx).1 (List.getElem?_eq_some_iff.1 hy).1 hp hq hb1 hb2⟩
  have hj := (List.getElem?_eq_some_iff.1 hx).1
  have hn := h.new j x q hj hx hq
  refine ⟨fun _ => hn, fun hk => ⟨hb j x hx hk, ?_⟩⟩
  obtain ⟨A, c, e, hs⟩ := SlA.owned hn.1
  rw [hb j x hx hk] at e hs
  exact ⟨A, c, e, hs.cm⟩

set_option maxHeartbeats 1000000 in
theorem copied_any (b0 o0 n c : Nat) (xs : List TN) (w : World) (h : Tr w (some ⟨b0, o0, none⟩) n c xs) (hnm : n ≤ 600) (hu : Shorts xs) (hbare : Bare xs) :
    Calls Tryd.prog 34 #[.slice (some ⟨b0, o0, none⟩) n c] w fun e w' => ∃ g cap qs, e = .returned (.slice (some ⟨g, 0, none⟩) n cap) ∧ TrW w' w.heap.size g cap xs qs ∧ Below w.heap.size w w' := by
  have hn := h.len
  obtain ⟨qs, hq, hsl, hin⟩ := h
  have h1 : ∀ q ∈ qs, q.oneCell' = true := by
    intro q hqm
    obtain ⟨j, hj, rfl⟩ := List.mem_iff_getElem.1 hqm
    obtain ⟨A, c, e, _⟩ := hin j _ _ (List.getElem?_eq_getElem (by rw [← hq]; exact hj)) (List.getElem?_eq_getElem hj)
    rw [e]; rfl
  have hcl := clone_nodes b0 o0 n c xs qs w hq hsl h1 hnm
  have HQ := hid hq; have HIN := hid hin; have HU := hid hu; have HBA := hid hbare
  clear hq hin hu hbare h1 hsl
  subst hn
  go_enter Tryd.func34, Tryd.ntmps34
  go_wp2_with (go_at_call 57; refine hcl.mono ?_; rintro e1 w1 ⟨v1, rfl, hown1, hne1, hb1⟩; have HB1 := hid hb1; have HO1 := hid hown1; obtain ⟨A1, cap, rfl⟩ := own_shape hown1; clear hown1 hb1)
  obtain ⟨g, rfl⟩ : ∃ g, A1 = some ⟨g, 0, none⟩ := by
    rcases HO1.out.2 with ⟨e, _⟩ | ⟨g, cap', cur, e, _⟩
    · exact absurd e hne1
    · injection e with e; exact ⟨g, e⟩
  clear hne1
  have hz1 := HB1.out.size
  go_loopw [9] (fun i wr => ∃ (j : Nat) (rs : List Value), i = .int .i64 j ∧ j ≤ xs.length ∧ Cp w.heap.size wr g cap xs qs j rs ∧ Below w.heap.size w wr) (fun i _ => xs.length - (intOf i).toNat)
  case atStart => exact ⟨0, qs, rfl, by omega, ⟨HQ.out, HO1.out, fun _ _ => rfl, fun k _ _ hk => by omega, fun i _ _ _ _ hi => by omega⟩, HB1.out⟩
  case round =>
    obtain ⟨j, rs, hi, hj, hcp, hbr⟩ := hrel
    subst hi
    have HBr := hid hbr; clear hbr
    by_cases hlt : j < xs.length
    · have hx : xs[j]? = some (xs[j]) := List.getElem?_eq_getElem hlt
      have hqj : qs[j]? = some (qs[j]'(by rw [HQ.out]; exact hlt)) := List.getElem?_eq_getElem _
      obtain ⟨A2, c2, e2, hs2⟩ := HIN.out j _ _ hx hqj
      have hrj : rs[j]? = some (.slice A2 (xs[j]).u.length c2) := by rw [hcp.old j (Nat.le_refl _), hqj, e2]
      have huj := HU.out _ _ hx
      have HX := hid hx
      generalize xs[j] = x at *
      have hcell : wr.cell? ⟨g, j * 6 + 5, none⟩ = some (.slice A2 x.u.length c2) := by
        rw [hcp.row.cellAt (j * 6 + 5) (by omega), ncs_get hx hrj (by omega)]; rfl
      have hfr := hcp.row.frozenAt (j * 6 + 5)
      have hgl := (hcp.row.lt g rfl).2
      have hzr := HBr.out.size
      have HCP := hid hcp
      have HS2 := hid (hs2.ext HBr.out)
      clear hx hqj hrj e2 hs2 hcp
      go_wp2_with (go_at_call 58; refine (clone_int A2 _ c2 x.u _ HS2.out huj).mono ?_; rintro e3 w3 ⟨v3, rfl, hown3, hb3⟩; have k3 := (hb3.cell (p := ⟨g, j * 6 + 5, none⟩) hgl).trans hcell; have f3 := (hb3.frozen (p := ⟨g, j * 6 + 5, none⟩) hgl).trans hfr; have HS := hid (HCP.out.step HX.out hb3 hzr hown3); obtain ⟨A3, c3, rfl⟩ := own_shape hown3; have HB3 := hid (HBr.out.trans (hb3.mono hzr)); clear hown3 hb3)
      go_roundw
      case rel => exact ⟨j + 1, _, by go_num, by omega, HS.out, HB3.out.setCell (HCP.out.row.lt g rfl).1 _⟩
      case measure => simp [intOf]; omega
    · have hjn : j = xs.length := by omega
      have HJ := hid hjn; have HCP := hid hcp
      clear hjn hcp
      go_wp2
      go_ret
      refine ⟨g, cap, rs, rfl, ?_, HBr.out⟩
      have := HCP.out
      rw [HJ.out] at this
      exact this.trw HBA.out

end Go.Proofs.YtimdohjlhbpmhaaDoor
