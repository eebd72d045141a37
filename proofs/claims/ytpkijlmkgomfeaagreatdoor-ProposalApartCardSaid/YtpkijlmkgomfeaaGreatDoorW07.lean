import Derived.Test.YtpkijlmkgomfeaaGreatDoorW06
import Derived.Deep.QuietTactic
import Derived.BigQuiet
import Derived.Test.YtpkijlmkgomfeaaGreatDoorW03
import Derived.Deep.RegionWith
import Derived.Deep.RegionLaw
import Derived.Lib.AppendZerosOnto
import Derived.Test.YtpkijlmkgomfeaaGreatDoorW05
/- nodes: Lock. -/
namespace Go.Proofs.YtpkijlmkgomfeaaGreatDoor
open Go.RowKit Go.KK Go.Shelf Go.Maps
set_option linter.unusedVariables false
set_option linter.unusedSimpArgs false

/-- A tree that reads, whose lists' heads are these. -/
structure TrQ (V : World) (A : Option Addr) (n c : Nat) (t : List TN) (qs : List Value) : Prop where
  ql : qs.length = t.length
  s : SlA V 6 A n c (ncs t qs)
  i : ∀ (j : Nat) x q, t[j]? = some x → qs[j]? = some q → In1 V q x.u
theorem TrQ.tr {V : World} {A : Option Addr} {n c : Nat} {t : List TN} {qs : List Value} (h : TrQ V A n c t qs) : Tr V A n c t := ⟨qs, h.ql, h.s, h.i⟩
theorem TrQ.at {V : World} {A : Option Addr} {n c : Nat} {t : List TN} {qs : List Value} (h : TrQ V A n c t qs) {j : Nat} (hj : j < n) : ∃ b off x A' c', A = some ⟨b, off, none⟩ ∧ t[j]? = some x ∧ V.cell? ⟨b, off + j * 6, none⟩ = some (.int .i64 x.k) ∧ V.cell? ⟨b, off + j * 6 + 1, none⟩ = some (.int .i64 x.i) ∧ V.cell? ⟨b, off + j * 6 + 2, none⟩ = some (.int .i64 x.e) ∧
    V.cell? ⟨b, off + j * 6 + 3, none⟩ = some (.int .i64 x.s) ∧ V.cell? ⟨b, off + j * 6 + 4, none⟩ = some (.int .i64 x.h) ∧ V.cell? ⟨b, off + j * 6 + 5, none⟩ = some (.slice A' x.u.length c') ∧ ∀ V', TrQ V' A n c t qs → SlA V' 1 A' x.u.length c' (x.u.map (.int .i64)) := by
  obtain ⟨b, off, x, A', c', e, hx, d0, d1, d2, d3, d4, d5, -⟩ := h.tr.at hj
  have hn := h.tr.len
  have hq : qs[j]? = some (qs[j]'(by rw [h.ql, hn]; exact hj)) := List.getElem?_eq_getElem _
  obtain ⟨b', o', e', hc⟩ := h.s.cells (j * 6 + 5) _ ((ncs_get hx hq (k := 5) (by omega)).trans rfl)
  subst e
  injection e' with e'
  injection e' with e1 e2
  subst e1; subst e2
  have hq5 : qs[j]'(by rw [h.ql, hn]; exact hj) = .slice A' x.u.length c' := by
    rw [← Nat.add_assoc] at hc
    exact Option.some.inj (hc.symm.trans d5)
  refine ⟨b, off, x, A', c', rfl, hx, d0, d1, d2, d3, d4, d5, fun V' h' => ?_⟩
  obtain ⟨A2, c2, e2, hs⟩ := h'.i j x _ hx hq
  rw [hq5] at e2
  injection e2 with e1 e2 e3
  subst e1; subst e3
  exact hs
section
variable {w0 W : World} {Z : Nat → Prop} {sa bk : Nat} {S : KS} {ex cx : Int} {X : List ND}
end
end Go.Proofs.YtpkijlmkgomfeaaGreatDoor

/- nodes: crypto.node and Unlock. -/
namespace Go.Proofs.YtpkijlmkgomfeaaGreatDoor
open Go.RowKit Go.KK Go.Shelf Go.Maps
set_option linter.unusedVariables false
set_option linter.unusedSimpArgs false

section
variable (Z : Nat → Prop) (st : Nat) (xs : List ND) (B : Nat) (w : World)
/-- Whether a term is of a kind. -/
def ndIs (xs : List ND) (t op : Int) : Bool := nodeE xs t == 0 && (nodeF xs t).o == op
end
end Go.Proofs.YtpkijlmkgomfeaaGreatDoor

/- ratchet: a tree copied. -/
namespace Go.Proofs.YtpkijlmkgomfeaaGreatDoor
open Go.RowKit Go.KK Go.Shelf
set_option linter.unusedVariables false
set_option linter.unusedSimpArgs false

theorem Tryz.infoTN : (Tryz.prog.info? 37).map (fun i => (i.zero, i.size, i.bytes)) = some (some (.agg #[.int .i64 0, .int .i64 0, .int .i64 0, .int .i64 0, .int .i64 0, .slice none 0 0]), 6, 64) := by kernel_rfl
theorem ncs_one {xs : List TN} {qs : List Value} (h : ∀ q ∈ qs, q.oneCell' = true) : ∀ u ∈ ncs xs qs, u.oneCell' = true := by
  intro u hu
  unfold ncs at hu
  obtain ⟨l, hl, hul⟩ := List.mem_flatten.1 hu
  obtain ⟨j, hj, rfl⟩ := List.mem_iff_getElem.1 hl
  rw [List.getElem_zipWith] at hul
  simp only [TN.cells, List.mem_cons, List.not_mem_nil, or_false] at hul
  rcases hul with rfl | rfl | rfl | rfl | rfl | rfl
  · rfl
  · rfl
  · rfl
  · rfl
  · rfl
  · exact h _ (List.getElem_mem _)
set_option maxRecDepth 100000 in
theorem clone_nodes (b off n c : Nat) (xs : List TN) (qs : List Value) (w : World) (hq : qs.length = xs.length) (h : SlA w 6 (some ⟨b, off, none⟩) n c (ncs xs qs)) (h1 : ∀ q ∈ qs, q.oneCell' = true) (hnm : n ≤ 600) :
    Calls Tryz.prog 180 #[.slice (some ⟨b, off, none⟩) n c] w fun e w' => ∃ v', e = .returned v' ∧ w'.ownsRow w.heap.size 37 6 v' n (ncs xs qs) ∧ v' ≠ .slice none 0 0 ∧ Below w.heap.size w w' := by
  obtain ⟨i0, hi, hz0, hz1, hz2⟩ := info_parts Tryz.infoTN
  refine AnyE.slices_Clone Tryz.laysE041 i0 _ 6 64 hi hz0 hz1 hz2 rfl (by decide) Tryz.sizeOf37 b off n c (ncs xs qs) w h.len (by unfold maxLen; omega) (by omega) (fun j u hj => ?_) (ncs_one h1)
  obtain ⟨b', off', e, hc⟩ := h.cells j u hj
  injection e with e
  injection e with e1 e2
  subst e1; subst e2
  exact hc

/-- What holds of the copy, whose first lists are copied. -/
structure Cp (base : Nat) (wr : World) (g cap : Nat) (xs : List TN) (qs : List Value) (j : Nat) (rs : List Value) : Prop where
  ql : rs.length = xs.length
  row : wr.ownsRow base 37 6 (.slice (some ⟨g, 0, none⟩) xs.length cap) xs.length (ncs xs rs)
  old : ∀ k, j ≤ k → rs[k]? = qs[k]?
  new : ∀ (k : Nat) x q, k < j → xs[k]? = some x → rs[k]? = some q → wr.ownsRow base 3 1 q x.u.length (x.u.map (.int .i64)) ∧ q.ownBlock ≠ some g
  apart : ∀ (i k : Nat) p q b, i < j → k < j → rs[i]? = some p → rs[k]? = some q → p.ownBlock = some b → q.ownBlock = some b → i = k
theorem Cp.step {base : Nat} {wr w2 : World} {g cap : Nat} {xs : List TN} {qs rs : List Value} {j : Nat} {x : TN} {v : Value} (h : Cp base wr g cap xs qs j rs) (hx : xs[j]? = some x) (hb : Below wr.heap.size wr w2) (hbase : base ≤ wr.heap.size)
    (hv : w2.ownsRow wr.heap.size 3 1 v x.u.length (x.u.map (.int .i64))) : Cp base (w2.setCell ⟨g, j * 6 + 5, none⟩ v) g cap xs qs (j + 1) (rs.set j v) := by
  have hj : j < xs.length := (List.getElem?_eq_some_iff.1 hx).1
  have hp : rs[j]? = some (rs[j]'(by rw [h.ql]; exact hj)) := List.getElem?_eq_getElem _
  have hgl : g < wr.heap.size := (h.row.lt g rfl).2
  have hvg : v.ownBlock ≠ some g := fun e => by have := (hv.lt g e).1; omega
  have hrow := ((own_ext h.row hb).stored (j * 6 + 5) v)
  refine ⟨by simpa using h.ql, ?_, fun k hk => ?_, fun k y q hk hy hq => ?_, fun i k p q b hi hk hpi hqk hb1 hb2 => ?_⟩
  · have e := ncs_set1 (d := 5) (y := x) (q := v) h.ql hx hp (by omega) v rfl
    rw [show xs.set j x = xs from List.ext_getElem? fun i => by
      by_cases hij : i = j
      · subst hij; rw [List.getElem?_set_self hj, hx]
      · rw [List.getElem?_set_ne (by omega)]] at e
    rw [← e]
    exact hrow.1
  · rw [List.getElem?_set_ne (by omega)]; exact h.old k (by omega)
  · rcases set_get hq with ⟨rfl, rfl⟩ | ⟨hne, hq'⟩
    · rw [hx] at hy
      injection hy with hy
      subst hy
      exact ⟨(own_mono hv hbase).kept hrow.2 (.inr hvg), hvg⟩
    · obtain ⟨h1, h2⟩ := h.new k y q (by omega) hy hq'
      exact ⟨(own_ext h1 hb).kept hrow.2 (.inr h2), h2⟩
  · rcases set_get hpi with ⟨rfl, rfl⟩ | ⟨hne, hp'⟩
    · rcases set_get hqk with ⟨rfl, rfl⟩ | ⟨hne2, hq'⟩
      · rfl
      · have hkl : k < xs.length := by
          have := (List.getElem?_eq_some_iff.1 hq').1
          rw [h.ql] at this; exact this
        have h3 := (h.new k _ q (by omega) (List.getElem?_eq_getElem hkl) hq').1.lt b hb2
        have h4 := (hv.lt b hb1).1
        omega
    · rcases set_get hqk with ⟨rfl, rfl⟩ | ⟨hne2, hq'⟩
      · have hil : i < xs.length := by
          have := (List.getElem?_eq_some_iff.1 hp').1
          rw [h.ql] at this; exact this
        have h3 := (h.new i _ p (by omega) (List.getElem?_eq_getElem hil) hp').1.lt b hb1
        have h4 := (hv.lt b hb2).1
        omega
      · exact h.apart i k p q b (by omega) (by omega) hp' hq' hb1 hb2
/-- All nodes but parents have no list. -/
def Bare (xs : List TN) : Prop := ∀ (j : Nat) x, xs[j]? = some x → x.k ≠ 2 → x.u = []
theorem Cp.trw {base : Nat} {wr : World} {g cap : Nat} {xs : List TN} {qs rs : List Value} (h : Cp base wr g cap xs qs xs.length rs) (hb : Bare xs) : TrW wr base g cap xs rs := by
  refine ⟨h.row, h.ql, fun j x q hx hq => ?_, fun i j x y p q b hx hy hp hq _ _ hb1 hb2 => h.apart i j p q b (List.getElem?_eq_some_iff.1 hx).1 (List.getElem?_eq_some_iff.1 hy).1 hp hq hb1 hb2⟩
  have hj := (List.getElem?_eq_some_iff.1 hx).1
  have hn := h.new j x q hj hx hq
  refine ⟨fun _ => hn, fun hk => ⟨hb j x hx hk, ?_⟩⟩
  obtain ⟨A, c, e, hs⟩ := SlA.owned hn.1
  rw [hb j x hx hk] at e hs
  exact ⟨A, c, e, hs.cm⟩

set_option maxHeartbeats 1000000 in
set_option maxRecDepth 100000 in
theorem copied_any (b0 o0 n c : Nat) (xs : List TN) (w : World) (h : Tr w (some ⟨b0, o0, none⟩) n c xs) (hnm : n ≤ 600) (hu : Shorts xs) (hbare : Bare xs) :
    Calls Tryz.prog 110 #[.slice (some ⟨b0, o0, none⟩) n c] w fun e w' => ∃ g cap qs, e = .returned (.slice (some ⟨g, 0, none⟩) n cap) ∧ TrW w' w.heap.size g cap xs qs ∧ Below w.heap.size w w' := by
  have hn := h.len
  obtain ⟨qs, hq, hsl, hin⟩ := h
  have h1 : ∀ q ∈ qs, q.oneCell' = true := by
    intro q hqm
    obtain ⟨j, hj, rfl⟩ := List.mem_iff_getElem.1 hqm
    obtain ⟨A, c, e, _⟩ := hin j _ _ (List.getElem?_eq_getElem (by rw [← hq]; exact hj)) (List.getElem?_eq_getElem hj)
    rw [e]; rfl
  have hcl := clone_nodes b0 o0 n c xs qs w hq hsl h1 hnm
  have HQ := hid hq; have HIN := hid hin; have HU := hid hu; have HBA := hid hbare
  clear hq hin hu hbare h1 hsl
  subst hn
  go_enter Tryz.func110, Tryz.ntmps110
  go_wp2_with (go_at_call 180; refine hcl.mono ?_; rintro e1 w1 ⟨v1, rfl, hown1, hne1, hb1⟩; have HB1 := hid hb1; have HO1 := hid hown1; obtain ⟨A1, cap, rfl⟩ := own_shape hown1; clear hown1 hb1)
  obtain ⟨g, rfl⟩ : ∃ g, A1 = some ⟨g, 0, none⟩ := by
    rcases HO1.out.2 with ⟨e, _⟩ | ⟨g, cap', cur, e, _⟩
    · exact absurd e hne1
    · injection e with e; exact ⟨g, e⟩
  clear hne1
  have hz1 := HB1.out.size
  go_loopw [9] (fun i wr => ∃ (j : Nat) (rs : List Value), i = .int .i64 j ∧ j ≤ xs.length ∧ Cp w.heap.size wr g cap xs qs j rs ∧ Below w.heap.size w wr) (fun i _ => xs.length - (intOf i).toNat)
  case atStart => exact ⟨0, qs, rfl, by omega, ⟨HQ.out, HO1.out, fun _ _ => rfl, fun k _ _ hk => by omega, fun i _ _ _ _ hi => by omega⟩, HB1.out⟩
  case round =>
    obtain ⟨j, rs, hi, hj, hcp, hbr⟩ := hrel
    subst hi
    have HBr := hid hbr; clear hbr
    by_cases hlt : j < xs.length
    · have hx : xs[j]? = some (xs[j]) := List.getElem?_eq_getElem hlt
      have hqj : qs[j]? = some (qs[j]'(by rw [HQ.out]; exact hlt)) := List.getElem?_eq_getElem _
      obtain ⟨A2, c2, e2, hs2⟩ := HIN.out j _ _ hx hqj
      have hrj : rs[j]? = some (.slice A2 (xs[j]).u.length c2) := by rw [hcp.old j (Nat.le_refl _), hqj, e2]
      have huj := HU.out _ _ hx
      have HX := hid hx
      generalize xs[j] = x at *
      have hcell : wr.cell? ⟨g, j * 6 + 5, none⟩ = some (.slice A2 x.u.length c2) := by
        rw [hcp.row.cellAt (j * 6 + 5) (by omega), ncs_get hx hrj (by omega)]; rfl
      have hfr := hcp.row.frozenAt (j * 6 + 5)
      have hgl := (hcp.row.lt g rfl).2
      have hzr := HBr.out.size
      have HCP := hid hcp
      have HS2 := hid (hs2.ext HBr.out)
      clear hx hqj hrj e2 hs2 hcp
      go_wp2_with (go_at_call 99; refine (clone_int A2 _ c2 x.u _ HS2.out huj).mono ?_; rintro e3 w3 ⟨v3, rfl, hown3, hb3⟩; have k3 := (hb3.cell (p := ⟨g, j * 6 + 5, none⟩) hgl).trans hcell; have f3 := (hb3.frozen (p := ⟨g, j * 6 + 5, none⟩) hgl).trans hfr; have HS := hid (HCP.out.step HX.out hb3 hzr hown3); obtain ⟨A3, c3, rfl⟩ := own_shape hown3; have HB3 := hid (HBr.out.trans (hb3.mono hzr)); clear hown3 hb3)
      go_roundw
      case rel => exact ⟨j + 1, _, by go_num, by omega, HS.out, HB3.out.setCell (HCP.out.row.lt g rfl).1 _⟩
      case measure => simp [intOf]; omega
    · have hjn : j = xs.length := by omega
      have HJ := hid hjn; have HCP := hid hcp
      clear hjn hcp
      go_wp2
      go_ret
      refine ⟨g, cap, rs, rfl, ?_, HBr.out⟩
      have := HCP.out
      rw [HJ.out] at this
      exact this.trw HBA.out

end Go.Proofs.YtpkijlmkgomfeaaGreatDoor

/- ratchet: what Add does to a node above. -/
namespace Go.Proofs.YtpkijlmkgomfeaaGreatDoor
open Go.RowKit Go.KK Go.Shelf
set_option linter.unusedVariables false
set_option linter.unusedSimpArgs false

/-- How many of a list's numbers are less. -/
def lessN (u : List Int) (i : Int) : Nat := u.countP (· < i)
theorem lessN_le (u : List Int) (i : Int) : lessN u i ≤ u.length := List.countP_le_length
theorem search_any (q : Value) (base : Nat) (u : List Int) (i : Int) (w : World) (h : w.ownsRow base 3 1 q u.length (u.map (.int .i64))) (hs : u.Pairwise (· ≤ ·)) (hbig : u.length ≤ 2147483648) :
    Calls Tryz.prog 118 #[q, .int .i64 i] w fun e w' => e = .returned (.tuple #[.int .i64 (lessN u i), .bool (u.contains i)]) ∧ ∃ q, w' = w.drewN q := by
  obtain ⟨A, c, rfl, hsl⟩ := SlA.owned h
  rcases u with _ | ⟨y, u⟩
  · exact (Tryz.slices_BinarySearch_int_empty A c i w).mono fun e w' ⟨h1, h2⟩ => ⟨h1, 0, h2⟩
  · obtain ⟨b, o, rfl, _⟩ := hsl.cells 0 _ rfl
    have := Tryz.slices_BinarySearch_int b o (y :: u).length c (y :: u) i w (Nat.le_refl _) (by omega) (sla_getD hsl) (by rw [List.take_of_length_le (Nat.le_refl _)]; exact hs)
    rw [List.take_of_length_le (Nat.le_refl _)] at this
    exact this

/-- The numbers in a parent's list, and one more. -/
def addN (i : Int) (x : TN) : TN := if x.k = 2 then { x with u := insL x.u (lessN x.u i) i } else x
/-- A block beside the tree. -/
structure Far (w : World) (g : Nat) (xs : List TN) (qs : List Value) (b : Nat) : Prop where
  lt : b < w.heap.size
  ne : b ≠ g
  far : ∀ (j : Nat) x q, xs[j]? = some x → qs[j]? = some q → x.k = 2 → q.ownBlock ≠ some b
/-- What a step on the tree leaves alone. -/
def Keeps (w w' : World) (g : Nat) (xs xs' : List TN) (qs qs' : List Value) : Prop := ∀ b, Far w g xs qs b → Far w' g xs' qs' b ∧ w'.heap[b]? = w.heap[b]?
theorem Keeps.refl (w : World) (g : Nat) (xs : List TN) (qs : List Value) : Keeps w w g xs xs qs qs := fun _ h => ⟨h, rfl⟩
theorem Keeps.trans {a b c : World} {g : Nat} {xs ys zs : List TN} {qs rs ts : List Value} (h : Keeps a b g xs ys qs rs) (k : Keeps b c g ys zs rs ts) : Keeps a c g xs zs qs ts := fun x hx =>
  have h1 := h x hx
  have h2 := k x h1.1
  ⟨h2.1, h2.2.trans h1.2⟩
theorem Far.new {w w' : World} {base g cap : Nat} {xs : List TN} {qs : List Value} (h : TrW w base g cap xs qs) {b : Nat} (hb : w.heap.size ≤ b) (hb' : b < w'.heap.size) : Far w' g xs qs b :=
  ⟨hb', by have := h.lt; omega, fun j x q hx hq hk e => by have := (((h.own j x q hx hq).1 hk).1.lt b e).2; omega⟩
theorem Far.ext {w w' : World} {g : Nat} {xs : List TN} {qs : List Value} {b : Nat} (h : Far w g xs qs b) (hb : w.heap.size ≤ w'.heap.size) : Far w' g xs qs b := ⟨Nat.lt_of_lt_of_le h.lt hb, h.ne, h.far⟩
theorem far_ins {w w1 w2 : World} {g : Nat} {xs : List TN} {qs : List Value} (hw : Below w.heap.size w w1) {j : Nat} {x : TN} {p : Value} (hx : xs[j]? = some x) (hp : qs[j]? = some p) (u : List Int) (q : Value) (hk : x.k = 2) (hg2 : w1.grownBy w2 p.ownBlock)
    (hnew : q.ownBlock = p.ownBlock ∨ q.ownBlock = some w1.heap.size) : Keeps w (w2.setCell ⟨g, j * 6 + 5, none⟩ q) g xs (xs.set j { x with u := u }) qs (qs.set j q) := by
  intro b hb
  have h1 := Nat.lt_of_lt_of_le hb.lt hw.size
  refine ⟨⟨by have := hg2.size; simp; omega, hb.ne, fun k y r hy hr hk2 => ?_⟩, ?_⟩
  · rcases set_get hr with ⟨rfl, rfl⟩ | ⟨hne, hr'⟩
    · rcases hnew with e | e
      · rw [e]; exact hb.far k x p hx hp hk
      · rw [e]; intro e2; injection e2 with e2; omega
    · rcases set_get hy with ⟨hh, _⟩ | ⟨_, hy'⟩
      · exact absurd hh hne
      · exact hb.far k y r hy' hr' hk2
  · rw [Below.heap_setCell w2 ⟨g, j * 6 + 5, none⟩ q b hb.ne, hg2.block b h1 (fun e => hb.far j x p hx hp hk e.symm), hw.block b hb.lt]
set_option maxHeartbeats 1000000 in
set_option maxRecDepth 100000 in
theorem add1_any (base g cap bi : Nat) (i : Int) (xs : List TN) (qs : List Value) (j : Nat) (x : TN) (w : World) (h : TrW w base g cap xs qs) (hci : w.cell? ⟨bi, 0, none⟩ = some (.int .i64 i)) (hx : xs[j]? = some x) (hs : x.u.Pairwise (· ≤ ·)) (hu : x.u.length ≤ 2147483648) (hbase : base ≤ w.heap.size) :
    Calls Tryz.prog 117 #[.pointer (some ⟨g, j * 6, none⟩), .pointer (some ⟨bi, 0, none⟩)] w fun e w' => ∃ qs', e = .returned (.tuple #[]) ∧ TrW w' base g cap (xs.set j (addN i x)) qs' ∧ Keeps w w' g xs (xs.set j (addN i x)) qs qs' ∧ Below base w w' := by
  have hj := (List.getElem?_eq_some_iff.1 hx).1
  have hq : qs[j]? = some (qs[j]'(by rw [h.ql]; exact hj)) := List.getElem?_eq_getElem _
  generalize qs[j]'(by rw [h.ql]; exact hj) = q at hq
  have hc0 : w.cell? ⟨g, j * 6, none⟩ = some (.int .i64 x.k) := by
    have := h.row.cellAt (j * 6) (by omega)
    rw [this, show j * 6 = j * 6 + 0 from rfl, ncs_get hx hq (by omega)]; rfl
  have hc5 : w.cell? ⟨g, j * 6 + 5, none⟩ = some q := by
    rw [h.row.cellAt (j * 6 + 5) (by omega), ncs_get hx hq (by omega)]; rfl
  by_cases hk : x.k = 2
  · rw [hk] at hc0
    have hown := (h.own j x q hx hq).1 hk
    have HA := hid (show addN i x = { x with u := insL x.u (lessN x.u i) i } by unfold addN; rw [if_pos hk])
    have H := hid h; have HX := hid hx; have HK := hid hk; have HS := hid hs
    have HO := hid hown.1; have HN := hid hown.2
    have hfr := h.row.frozenAt (j * 6 + 5)
    have hgl := (h.row.lt g rfl)
    have hglt := hgl.2
    have hbilt : bi < w.heap.size := block_lt_of_cell hci
    obtain ⟨A, c, rfl⟩ := own_shape hown.1
    have HQ := hid hq
    clear h hx hk hs hown hq
    have hcall : ∀ k, Calls Tryz.prog 118 #[.slice A x.u.length c, .int .i64 i] (w.drewN k) fun e w' => e = .returned (.tuple #[.int .i64 (lessN x.u i), .bool (x.u.contains i)]) ∧ ∃ q, w' = (w.drewN k).drewN q := fun k => search_any _ base x.u i _ HO.out HS.out hu
    go_enter Tryz.func117, Tryz.ntmps117
    go_wp2
    go_quiet ((go_at_call 118; exact Calls.quiet_of (hcall _)))
    go_wp2
    have hb1 : Below base w ((w.drewN (nq + 1)).alloc (.cells #[.int .i64 i] 3)) := (below_drewN (Below.refl _ _) _).alloc hbase _
    have HU := hid ((H.out.drewN (nq + 1)).alloc (.cells #[.int .i64 i] 3))
    have HO1 := hid ((show (w.drewN (nq + 1)).ownsRow base 3 1 _ _ _ from HO.out).alloc (.cells #[.int .i64 i] 3))
    have HV := hid (heap_alloc_new (w.drewN (nq + 1)) (.cells #[.int .i64 i] 3))
    have HNV := hid (show (Value.slice A x.u.length c).ownBlock ≠ some w.heap.size from fun e => by have := (HO.out.lt _ e).2; omega)
    have hB1 : base ≤ ((w.drewN (nq + 1)).alloc (.cells #[.int .i64 i] 3)).heap.size := by rw [World.size_alloc]; show base ≤ w.heap.size + 1; omega
    have hg1 : g < ((w.drewN (nq + 1)).alloc (.cells #[.int .i64 i] 3)).heap.size := by rw [World.size_alloc]; show g < w.heap.size + 1; omega
    have hbw : Below w.heap.size w ((w.drewN (nq + 1)).alloc (.cells #[.int .i64 i] 3)) := (below_drewN (Below.refl _ _) _).alloc (Nat.le_refl _) _
    have k1 : ((w.drewN (nq + 1)).alloc (.cells #[.int .i64 i] 3)).cell? ⟨g, j * 6 + 5, none⟩ = some (.slice A x.u.length c) := (hbw.cell (p := ⟨g, j * 6 + 5, none⟩) hgl.2).trans hc5
    have f1 : ((w.drewN (nq + 1)).alloc (.cells #[.int .i64 i] 3)).frozen? ⟨g, j * 6 + 5, none⟩ = false := (hbw.frozen (p := ⟨g, j * 6 + 5, none⟩) hgl.2).trans hfr
    have HK1 := hid k1; have HF1 := hid f1; have HB1 := hid hb1; have HC5 := hid hc5; have HBW := hid hbw
    clear hbw hb1 hg1
    go_region_with (go_at_call 119; refine (Tryz.insert_own base _ x.u (lessN x.u i) i w.heap.size 3 _ HO1.out (lessN_le _ _) hu HV.out HNV.out hB1).mono ?_; rintro e2 w2 ⟨v2, rfl, hown2, hgr2, hnew2⟩; have HK2 : w2.cell? ⟨g, j * 6 + 5, none⟩ = some (.slice A x.u.length c) := hgr2.cell HK1.out (fun e => HN.out e.symm); have HF2 : w2.frozen? ⟨g, j * 6 + 5, none⟩ = false := (hgr2.frozen_far ⟨g, j * 6 + 5, none⟩ (by rw [World.size_alloc]; exact Nat.lt_succ_of_lt hgl.2) (fun e => HN.out e.symm)).trans HF1.out; have HN2 := hid hnew2; have HG2 := hid hgr2; have HO2 := hid hown2; obtain ⟨A2, c2, rfl⟩ := own_shape hown2; clear hown2 hgr2 hnew2)
    all_goals go_end0
    all_goals exact ⟨_, rfl, by rw [HA.out]; exact HU.out.list' HX.out HQ.out (insL x.u (lessN x.u i) i) _ HK.out HG2.out (by rw [insL_len _ _ _ (lessN_le _ _)]; exact HO2.out) HN2.out, by rw [HA.out]; exact far_ins HBW.out HX.out HQ.out (insL x.u (lessN x.u i) i) _ HK.out HG2.out HN2.out, (HB1.out.grown HG2.out hB1 (fun k hk => (HO1.out.lt k hk).1)).setCell hgl.1 _⟩
  · have hk' : (x.k == 2) = false := beq_eq_false_iff_ne.2 hk
    have HA := hid (show xs.set j (addN i x) = xs by
      unfold addN; rw [if_neg hk]
      exact List.ext_getElem? fun t => by
        by_cases ht : t = j
        · subst ht; rw [List.getElem?_set_self hj, hx]
        · rw [List.getElem?_set_ne (by omega)])
    have H := hid h
    clear h hx hk hq
    go_enter Tryz.func117, Tryz.ntmps117
    go_wp2
    go_end0
    exact ⟨qs, rfl, by rw [HA.out]; exact H.out, by rw [HA.out]; exact Keeps.refl _ _ _ _, Below.refl _ _⟩
end Go.Proofs.YtpkijlmkgomfeaaGreatDoor

/- append(t, make([]T, k)...) onto a row of the call's own; of nodes. -/
namespace Go.KK
open Go.RowKit
set_option linter.unusedVariables false
set_option linter.unusedSimpArgs false

theorem run_append_zeros_own {P : Program} (w : World) (base : Nat) (t tn ty e : TypeId) (i : TypeInfo) (z : Value) (kq kn : IntKind) (size : Nat) (ht : P.underlying t = some (.slice e)) (htn : P.underlying tn = some (.int kn)) (hi : P.info? e = some i) (hz : i.zero = some z)
    (hsize : i.size = size) (hzs : z.cells.size = size) (hsz : 0 < size) (hz1 : ∀ v ∈ z.cells.toList, v.oneCell' = true)
    (g n cap : Nat) (xs : List Value) (hown : w.ownsRow base e size (.slice (some ⟨g, 0, none⟩) n cap) n xs) (k : Nat) (h0 : 0 < k) (hb : i.bytes ≤ 100000) (hn : n ≤ 100000) (hk : k ≤ 100000) (hbase : base ≤ w.heap.size) :
    ∃ g' cap' w', (Builtin.append_ #[t, tn] ty #[.slice (some ⟨g, 0, none⟩) n cap, .int kq k]).run P w = .ok (.slice (some ⟨g', 0, none⟩) (n + k) cap') w' ∧
      w'.ownsRow base e size (.slice (some ⟨g', 0, none⟩) (n + k) cap') (n + k) (xs ++ (Builtin.zeroCells z.cells k).toList) ∧ w.grownBy w' (some g) ∧ (g' = g ∨ g' = w.heap.size) := by
  subst hsize
  have hzl : (Builtin.zeroCells z.cells k).toList.length = k * i.size := by rw [Array.length_toList, size_zeroCells, hzs]
  have hlen : (xs ++ (Builtin.zeroCells z.cells k).toList).length = (n + k) * i.size := by rw [List.length_append, hown.1, hzl, Nat.add_mul]
  rcases hown.2 with ⟨e1, _⟩ | ⟨g1, cap1, cur, e1, hbg, hg, hnc, hcm, hcs, htake⟩
  · cases e1
  · injection e1 with e1 e2 e3
    injection e1 with e1
    injection e1 with e4 e5
    subst e4; subst e3
    have hw : IntKind.i64.wrap (k : Int) = k := by rw [IntKind.wrap_i64]; omega
    have hk0 : k ≠ 0 := by omega
    have hks : ¬ (k * i.size = 0) := Nat.mul_ne_zero hk0 (by omega)
    have hneg : ¬ ((k : Int) < 0) := by omega
    have hkb : k * i.bytes ≤ 10000000000 := by
      have := Nat.mul_le_mul hk hb
      omega
    have h48 : ¬ (281474976710656 < (k : Int) * (i.bytes : Int)) := by
      rw [← Int.natCast_mul]; omega
    by_cases hroom : n + k ≤ cap
    · have hfit : n * i.size + 0 + (Builtin.zeroCells z.cells k).toList.length ≤ cur.size := by rw [hzl, hcs, Nat.add_zero, ← Nat.add_mul]; exact Nat.mul_le_mul_right _ hroom
      have h1 : ∀ v ∈ (Builtin.zeroCells z.cells k).toList, v.oneCell' = true := by
        intro v hv
        unfold Builtin.zeroCells at hv
        simp only [Array.toList_map, List.mem_map] at hv
        obtain ⟨m, _, rfl⟩ := hv
        have hm : m % z.cells.size < z.cells.size := Nat.mod_lt _ (by omega)
        rw [getElem!_pos z.cells _ hm]
        exact hz1 _ (Array.getElem_mem_toList _)
      have hst := run_storeCells_at P g (n * i.size) e _ 0 cur w hg hfit h1
      obtain ⟨L, hL⟩ : ∃ L, L = (cur.toList.take (n * i.size) ++ (Builtin.zeroCells z.cells k).toList ++ cur.toList.drop (n * i.size + (Builtin.zeroCells z.cells k).toList.length)).toArray := ⟨_, rfl⟩
      simp only [Nat.add_zero] at hst
      rw [← hL] at hst
      refine ⟨g, cap, w.setRow g L, ?_, ⟨hlen, .inr ⟨g, cap, L, rfl, hbg, setRow_heap w g cur L e _ hg, hroom, hcm, ?_, ?_⟩⟩, ⟨rfl, rfl, rfl, by simp, fun k _ hk => setRow_other w g k _ (fun e => hk (by simp [e]))⟩, .inl rfl⟩
      · simp [Builtin.append_, run_underlying ht, run_underlying htn, sizeOf, typeInfo, zeroValue, hi, hz, asInt, asIntOf, hw, hneg, hks, h48, hroom, Addr.add_lit]
        rw [hst]
        rfl
      · rw [hL]
        simp only [List.size_toArray, List.length_append, List.length_take, List.length_drop, Array.length_toList]
        simp only [Array.length_toList] at hfit
        omega
      · rw [hL, htake, ← hlen]
        exact List.take_left
    · have hold : (Builtin.firstCells i.size n (.slice (some ⟨g, 0, none⟩) n cap)).run P w.drew = .ok xs.toArray w.drew := by
        have := run_firstCells_some (P := P) w.drew i.size n ⟨g, 0, none⟩ n cap xs hown.1 (fun j u hj => by
          have := hown.cells (g := g) rfl j u hj
          exact this)
        exact this
      have hg1 := grownCap_ge w (n + k) cap e
      have hg2 := grownCap_le_maxLen w (n + k) cap e (by unfold maxLen; omega)
      have hnx : Builtin.nextslicecap (n + k) cap ≤ 2 * (n + k) := by
        unfold Builtin.nextslicecap
        split
        · omega
        · split
          · omega
          · simp only [Builtin.growBy]
            repeat' split
            all_goals omega
      have hr := Lib.run_append_grow_zeros (P := P) w t tn ty e i z kq kn ht htn hi hz (some ⟨g, 0, none⟩) n cap xs hold k h0 (by omega) (by omega) (by omega) (by omega) (by
        have := Nat.mul_le_mul hnx hb
        have h3 : 2 * (n + k) * 100000 ≤ 2 * 200000 * 100000 := Nat.mul_le_mul_right _ (by omega)
        omega)
      refine ⟨w.heap.size, _, _, hr, ⟨hlen, .inr ⟨w.heap.size, _, _, rfl, hbase, heap_alloc_new w.drew _, hg1, hg2, ?_, ?_⟩⟩, grown_undrew (World.grownBy_alloc w.drew _ _), .inr rfl⟩
      · rw [Array.size_append, Array.size_append, size_zeroCells, size_zeroCells, hzs, List.size_toArray, hown.1, ← Nat.add_mul, ← Nat.add_mul]
        congr 1
        omega
      · rw [Array.toList_append, Array.toList_append, List.take_append_of_le_length (by rw [List.length_append, hzl, hown.1, ← Nat.add_mul]; exact Nat.le_refl _)]
        show ((xs ++ (Builtin.zeroCells z.cells k).toList).take ((n + k) * i.size)) = _
        rw [← hlen, List.take_length]

def zeroN : TN := ⟨0, 0, 0, 0, 0, []⟩
theorem zeros_nodes (k : Nat) : (Builtin.zeroCells (Value.agg #[.int .i64 0, .int .i64 0, .int .i64 0, .int .i64 0, .int .i64 0, .slice none 0 0]).cells k).toList = ncs (List.replicate k zeroN) (List.replicate k (.slice none 0 0)) := by
  refine ncs_ext (by simp) (by rw [Array.length_toList, size_zeroCells]; simp [Value.cells]) ?_
  intro j x q hx hq d hd
  have hjk : j < k := by
    rcases Nat.lt_or_ge j k with hh | hh
    · exact hh
    · rw [List.getElem?_eq_none (by simpa using hh)] at hx; cases hx
  rw [List.getElem?_replicate, if_pos hjk] at hx hq
  injection hx with hx; injection hq with hq
  subst hx; subst hq
  have hlt : j * 6 + d < k * 6 := by omega
  unfold Builtin.zeroCells
  simp only [Value.cells, Array.toList_map, List.getElem?_map, Array.toList_range]
  rw [List.getElem?_range (by simpa using hlt)]
  have hm : (j * 6 + d) % 6 = d := by omega
  have hd' : d = 0 ∨ d = 1 ∨ d = 2 ∨ d = 3 ∨ d = 4 ∨ d = 5 := by omega
  rcases hd' with rfl | rfl | rfl | rfl | rfl | rfl <;> simp [hm, TN.cells, zeroN]
theorem ncs_app {xs ys : List TN} {qs rs : List Value} (hq : qs.length = xs.length) (hr : rs.length = ys.length) : ncs (xs ++ ys) (qs ++ rs) = ncs xs qs ++ ncs ys rs := by
  unfold ncs
  rw [List.zipWith_append hq.symm, List.flatten_append]
theorem TrW.mono {w : World} {base base' g cap : Nat} {xs : List TN} {qs : List Value} (h : TrW w base g cap xs qs) (hb : base' ≤ base) : TrW w base' g cap xs qs :=
  ⟨own_mono h.row hb, h.ql, fun j x q hx hq => ⟨fun hk => ⟨own_mono ((h.own j x q hx hq).1 hk).1 hb, ((h.own j x q hx hq).1 hk).2⟩, (h.own j x q hx hq).2⟩, h.apart⟩
/-- More nodes, all of them blank. -/
theorem TrW.more {w w' : World} {base g cap g' cap' k : Nat} {xs : List TN} {qs : List Value} (h : TrW w base g cap xs qs) (hw : w.grownBy w' (some g)) (hg' : g' = g ∨ g' = w.heap.size)
    (hrow : w'.ownsRow base 37 6 (.slice (some ⟨g', 0, none⟩) (xs.length + k) cap') (xs.length + k) (ncs xs qs ++ ncs (List.replicate k zeroN) (List.replicate k (.slice none 0 0)))) :
    TrW w' base g' cap' (xs ++ List.replicate k zeroN) (qs ++ List.replicate k (.slice none 0 0)) := by
  have at_old : ∀ {j : Nat} {x : TN}, (xs ++ List.replicate k zeroN)[j]? = some x → x.k = 2 → xs[j]? = some x := by
    intro j x hx hk
    by_cases hj : j < xs.length
    · rwa [List.getElem?_append_left hj] at hx
    · rw [List.getElem?_append_right (by omega), List.getElem?_replicate] at hx
      split at hx
      · injection hx with hx; subst hx; exact absurd hk (by decide)
      · cases hx
  have q_old : ∀ {j : Nat} {q : Value}, j < xs.length → (qs ++ List.replicate k (Value.slice none 0 0))[j]? = some q → qs[j]? = some q := by
    intro j q hj hq
    rwa [List.getElem?_append_left (by rw [h.ql]; exact hj)] at hq
  refine ⟨?_, by simp [h.ql], fun j x q hx hq => ⟨fun hk => ?_, fun hk => ?_⟩, fun i j x y p q b hx hy hp hq k1 k2 b1 b2 => ?_⟩
  · rw [ncs_app h.ql (by simp), List.length_append, List.length_replicate]
    exact hrow
  · have hx' := at_old hx hk
    have hq' := q_old (List.getElem?_eq_some_iff.1 hx').1 hq
    obtain ⟨o1, o2⟩ := (h.own j x q hx' hq').1 hk
    refine ⟨o1.kept hw (.inr o2), ?_⟩
    rcases hg' with e | e
    · rw [e]; exact o2
    · intro e2
      have := (o1.lt g' e2).2
      omega
  · by_cases hj : j < xs.length
    · rw [List.getElem?_append_left hj] at hx
      exact (h.own j x q hx (q_old hj hq)).2 hk
    · rw [List.getElem?_append_right (by omega), List.getElem?_replicate] at hx
      rw [List.getElem?_append_right (by rw [h.ql]; omega), List.getElem?_replicate] at hq
      split at hx
      · injection hx with hx
        split at hq
        · injection hq with hq
          subst hx; subst hq
          exact ⟨rfl, none, 0, rfl, Nat.zero_le _⟩
        · cases hq
      · cases hx
  · have hx' := at_old hx k1
    have hy' := at_old hy k2
    exact h.apart i j x y p q b hx' hy' (q_old (List.getElem?_eq_some_iff.1 hx').1 hp) (q_old (List.getElem?_eq_some_iff.1 hy').1 hq) k1 k2 b1 b2

end Go.KK

/- ratchet: the way up from a leaf. -/
namespace Go.Proofs.YtpkijlmkgomfeaaGreatDoor
open Go.RowKit Go.KK Go.Shelf
set_option linter.unusedVariables false
set_option linter.unusedSimpArgs false

/-- One node turned. -/
def upd (f : TN → TN) (xs : List TN) (j : Nat) : List TN := match xs[j]? with | some x => xs.set j (f x) | none => xs
def updAll (f : TN → TN) : List TN → List Int → List TN
  | xs, [] => xs
  | xs, y :: l => updAll f (upd f xs y.toNat) l
theorem upd_at {f : TN → TN} {xs : List TN} {j : Nat} {x : TN} (h : xs[j]? = some x) : upd f xs j = xs.set j (f x) := by unfold upd; rw [h]
theorem upd_len (f : TN → TN) (xs : List TN) (j : Nat) : (upd f xs j).length = xs.length := by
  unfold upd
  split <;> simp
theorem updAll_len (f : TN → TN) : ∀ (l : List Int) (xs : List TN), (updAll f xs l).length = xs.length
  | [], _ => rfl
  | y :: l, xs => by rw [updAll, updAll_len f l, upd_len]
theorem updAll_snoc (f : TN → TN) : ∀ (l : List Int) (xs : List TN) (y : Int), updAll f xs (l ++ [y]) = upd f (updAll f xs l) y.toNat
  | [], _, _ => rfl
  | z :: l, xs, y => by rw [List.cons_append, updAll, updAll, updAll_snoc f l]
theorem upd_get {f : TN → TN} {xs : List TN} {j k : Nat} {x : TN} (h : (upd f xs j)[k]? = some x) : (k = j ∧ ∃ y, xs[j]? = some y ∧ x = f y) ∨ (k ≠ j ∧ xs[k]? = some x) := by
  unfold upd at h
  split at h
  · rename_i y hy
    rcases set_get h with ⟨rfl, rfl⟩ | ⟨hne, h'⟩
    · exact .inl ⟨rfl, y, hy, rfl⟩
    · exact .inr ⟨hne, h'⟩
  · rename_i hn
    by_cases hk : k = j
    · subst hk; rw [hn] at h; cases h
    · exact .inr ⟨hk, h⟩

/-- Parents' lists are in order, and short. -/
def Ord (B : Nat) (xs : List TN) : Prop := ∀ (j : Nat) x, xs[j]? = some x → x.u.Pairwise (· ≤ ·) ∧ x.u.length ≤ B
theorem lessN_take {u : List Int} (h : u.Pairwise (· ≤ ·)) (i : Int) : (∀ y ∈ u.take (lessN u i), y < i) ∧ (∀ y ∈ u.drop (lessN u i), i ≤ y) := by
  induction u with
  | nil => simp [lessN]
  | cons a u ih =>
    have h' := List.pairwise_cons.1 h
    obtain ⟨i1, i2⟩ := ih h'.2
    by_cases ha : a < i
    · have e : lessN (a :: u) i = lessN u i + 1 := by unfold lessN; rw [List.countP_cons_of_pos (by simpa using ha)]
      rw [e, List.take_succ_cons, List.drop_succ_cons]
      refine ⟨fun y hy => ?_, i2⟩
      rcases List.mem_cons.1 hy with rfl | hy
      · exact ha
      · exact i1 y hy
    · have e : lessN (a :: u) i = 0 := by
        unfold lessN
        rw [List.countP_eq_zero]
        intro y hy
        rcases List.mem_cons.1 hy with rfl | hy
        · simpa using ha
        · have := h'.1 y hy; simp; omega
      rw [e]
      refine ⟨by simp, fun y hy => ?_⟩
      rw [List.drop_zero] at hy
      rcases List.mem_cons.1 hy with rfl | hy
      · omega
      · have := h'.1 y hy; omega
theorem insL_sorted {u : List Int} (h : u.Pairwise (· ≤ ·)) (i : Int) : (insL u (lessN u i) i).Pairwise (· ≤ ·) := by
  obtain ⟨h1, h2⟩ := lessN_take h i
  unfold insL
  have hp : (u.take (lessN u i) ++ u.drop (lessN u i)).Pairwise (· ≤ ·) := by rw [List.take_append_drop]; exact h
  rw [List.pairwise_append] at hp ⊢
  refine ⟨hp.1, List.pairwise_cons.2 ⟨h2, hp.2.1⟩, fun a ha b hb => ?_⟩
  rcases List.mem_cons.1 hb with rfl | hb
  · have := h1 a ha; omega
  · exact hp.2.2 a ha b hb
theorem Ord.add {B : Nat} {xs : List TN} {i : Int} (h : Ord B xs) (j : Nat) : Ord (B + 1) (upd (addN i) xs j) := by
  intro k x hx
  rcases upd_get hx with ⟨rfl, y, hy, rfl⟩ | ⟨_, hx'⟩
  · obtain ⟨h1, h2⟩ := h k y hy
    unfold addN
    split
    · exact ⟨insL_sorted h1 i, by show (insL _ _ _).length ≤ _; rw [insL_len _ _ _ (lessN_le _ _)]; omega⟩
    · exact ⟨h1, by omega⟩
  · obtain ⟨h1, h2⟩ := h k x hx'
    exact ⟨h1, by omega⟩

set_option maxHeartbeats 1000000 in
set_option maxRecDepth 100000 in
theorem above_add (base g cap bi : Nat) (z : Nat) (xs : List TN) (qs : List Value) (w : World) (h : TrW w base g cap xs qs) (hfar : Far w g xs qs bi) (hci : w.cell? ⟨bi, 0, none⟩ = some (.int .i64 z)) (hn : xs.length ≤ 600) (hf : fullN (lvN xs.length) = true) (hl : 2 * (lvN xs.length : Int) - 1 = (xs.length : Int)) (hz : z < lvN xs.length) (ho : Ord 100000 xs) (hbase : base ≤ w.heap.size) (hT : Tab w) :
    Calls Tryz.prog 116 #[.slice (some ⟨g, 0, none⟩) xs.length cap, .int .i64 z, .func (.func 117) #[] #[.pointer (some ⟨bi, 0, none⟩)]] w fun e w' => ∃ qs', e = .returned (.tuple #[]) ∧ TrW w' base g cap (updAll (addN z) xs (pathL (2 * z) (lvN xs.length))) qs' ∧ w'.cell? ⟨bi, 0, none⟩ = some (.int .i64 z) ∧ Below base w w' := by
  have H := hid h; have HF := hid hf; have HO := hid ho; have HT := hid hT; have HFA := hid hfar
  have hl1 : 2 * (lvN xs.length : Int) - 1 ≤ (xs.length : Int) := by omega
  have hl2 : (xs.length : Int) ≤ 2 * (lvN xs.length : Int) - 1 := by omega
  clear h hf ho hT hl hfar
  have hN : lvN xs.length ≤ 301 := by unfold lvN; omega
  have hpl := pathL_le (2 * z) (lvN xs.length)
  have hbl := HFA.out.lt
  go_enter Tryz.func116, Tryz.ntmps116
  go_wp2_with (first
    | (go_at_call 115; refine (leavesT_any _ _ _ _ hn).mono ?_; rintro e w' ⟨rfl, hw'⟩; subst w')
    | (go_at_call 182; refine (path_any (2 * z) (lvN xs.length) _ HF.out (by omega) (by omega) HT.out).mono ?_; rintro e1 w1 ⟨v1, rfl, hown1, hb1⟩; obtain ⟨A1, c1, rfl, hs1⟩ := SlA.owned hown1))
  have HS1 := hid hs1; have HB1 := hid hb1
  have HI := hid (@path_in (2 * z) (lvN xs.length) HF.out (by omega) (by omega))
  have H1 := hid (H.out.ext hb1)
  have HCI := hid ((hb1.cell (p := ⟨bi, 0, none⟩) hbl).trans hci)
  have HF1 := hid (HFA.out.ext hb1.size)
  have HP1 := hid (show ∀ b o, A1 = some ⟨b, o, none⟩ → Far w1 g xs qs b from fun b o e => by
    subst e
    have hh := hown1.lt b rfl
    exact Far.new H.out hh.1 hh.2)
  have hz1 := hb1.size
  clear hs1 hown1 hb1 hci
  generalize hPL : pathL (2 * z) (lvN xs.length) = PL at *
  have HPL := hid hPL; clear hPL
  go_loopw [20] (fun i wr => ∃ (k : Nat) (rs : List Value), i = .int .i64 k ∧ k ≤ PL.length ∧ TrW wr base g cap (updAll (addN z) xs (PL.take k)) rs ∧ Keeps w1 wr g xs (updAll (addN z) xs (PL.take k)) qs rs ∧ Ord (100000 + k) (updAll (addN z) xs (PL.take k)) ∧ Below base w wr) (fun i _ => PL.length - (intOf i).toNat)
  case atStart => exact ⟨0, qs, rfl, by omega, H1.out, Keeps.refl _ _ _ _, HO.out, HB1.out.mono hbase⟩
  case round =>
    obtain ⟨k, rs, hi, hk, htr, hkp, hord, hbr⟩ := hrel
    subst hi
    have HBr := hid hbr; have HTR := hid htr; have HKP := hid hkp; have HOR := hid hord
    have hci := (World.cell?_of_block (a := ⟨bi, 0, none⟩) (hkp bi HF1.out).2).trans HCI.out
    have hbrz := hbr.size
    clear hbr htr hkp hord
    by_cases hlk : k < PL.length
    · obtain ⟨b5, o5, y, rfl, hy, hcy⟩ := HS1.out.elemI hlk
      have hcy2 := (World.cell?_of_block (a := ⟨b5, o5 + k, none⟩) (HKP.out b5 (HP1.out b5 o5 rfl)).2).trans hcy
      obtain ⟨y0, y1⟩ := HI.out y (List.mem_of_getElem? hy)
      obtain ⟨yn, rfl⟩ := Int.eq_ofNat_of_zero_le y0
      have hyn : yn < xs.length := by omega
      have HTK := hid (take_get hy)
      clear hy hcy y0 y1
      have hlen := updAll_len (addN z) (PL.take k) xs
      have hyl : yn < (updAll (addN z) xs (PL.take k)).length := by rw [hlen]; exact hyn
      have hx : (updAll (addN z) xs (PL.take k))[yn]? = some _ := List.getElem?_eq_getElem hyl
      generalize (updAll (addN z) xs (PL.take k))[yn] = x at hx
      obtain ⟨hs1, hs2⟩ := HOR.out yn x hx
      have HSX := hid hs1; have HX := hid hx
      have HN := hid (show updAll (addN z) xs (PL.take (k + 1)) = (updAll (addN z) xs (PL.take k)).set yn (addN z x) by
        rw [HTK.out, updAll_snoc, Int.toNat_natCast, upd_at hx])
      have HN2 := hid (show updAll (addN z) xs (PL.take (k + 1)) = upd (addN z) (updAll (addN z) xs (PL.take k)) yn by
        rw [HTK.out, updAll_snoc, Int.toNat_natCast])
      clear hs1 hx hlen hyl
      go_wp2_with (go_at_call 117; refine (add1_any base g cap bi z _ rs yn x _ HTR.out hci HX.out HSX.out (by omega) (by omega)).mono ?_; rintro e3 w3 ⟨qs3, rfl, htr3, hkp3, hb3⟩; have HT3 := hid htr3; have HK3 := hid hkp3; have HB3 := hid hb3; clear htr3 hkp3 hb3)
      go_roundw
      case rel => exact ⟨k + 1, qs3, by go_num, by omega, by rw [HN.out]; exact HT3.out, by rw [HN.out]; exact HKP.out.trans HK3.out, by rw [HN2.out]; exact HOR.out.add yn, HBr.out.trans HB3.out⟩
      case measure => simp [intOf]; omega
    · have HJ := hid (show PL.take k = PL from List.take_of_length_le (by omega))
      go_wp2
      go_end0
      have h1 := HTR.out
      rw [HJ.out] at h1
      exact ⟨rs, rfl, by rw [HPL.out]; exact h1, hci, HBr.out⟩
def blankN (_ : TN) : TN := zeroN
theorem keeps_node {w : World} {base g cap : Nat} {xs : List TN} {qs : List Value} (h : TrW w base g cap xs qs) (j : Nat) (y : TN) (q : Value) (hk : y.k ≠ 2) (a1 a2 a3 a4 a5 a6 : Value) :
    Keeps w ((((((w.setCell ⟨g, j * 6, none⟩ a1).setCell ⟨g, j * 6 + 1, none⟩ a2).setCell ⟨g, j * 6 + 2, none⟩ a3).setCell ⟨g, j * 6 + 3, none⟩ a4).setCell ⟨g, j * 6 + 4, none⟩ a5).setCell ⟨g, j * 6 + 5, none⟩ a6) g xs (xs.set j y) qs (qs.set j q) := by
  intro b hb
  refine ⟨⟨by simpa using hb.lt, hb.ne, fun k z r hz hr hk2 => ?_⟩, ?_⟩
  · rcases set_get hz with ⟨rfl, rfl⟩ | ⟨hne, hz'⟩
    · exact absurd hk2 hk
    · rcases set_get hr with ⟨hh, _⟩ | ⟨_, hr'⟩
      · exact absurd hh hne
      · exact hb.far k z r hz' hr' hk2
  · repeat rw [Below.heap_setCell _ _ _ b hb.ne]
set_option maxHeartbeats 1000000 in
set_option maxRecDepth 100000 in
theorem chg1_any (base g cap : Nat) (xs : List TN) (qs : List Value) (j : Nat) (x : TN) (w : World) (h : TrW w base g cap xs qs) (hx : xs[j]? = some x) :
    Calls Tryz.prog 181 #[.pointer (some ⟨g, j * 6, none⟩)] w fun e w' => ∃ qs', e = .returned (.tuple #[]) ∧ TrW w' base g cap (xs.set j (blankN x)) qs' ∧ Keeps w w' g xs (xs.set j (blankN x)) qs qs' ∧ Below base w w' := by
  have hj := (List.getElem?_eq_some_iff.1 hx).1
  have hq : qs[j]? = some (qs[j]'(by rw [h.ql]; exact hj)) := List.getElem?_eq_getElem _
  generalize qs[j]'(by rw [h.ql]; exact hj) = q at hq
  have c0 : w.cell? ⟨g, j * 6, none⟩ = some (.int .i64 x.k) := by
    rw [h.row.cellAt (j * 6) (by omega), show j * 6 = j * 6 + 0 from rfl, ncs_get hx hq (by omega)]; rfl
  have c1 : w.cell? ⟨g, j * 6 + 1, none⟩ = some (.int .i64 x.i) := by rw [h.row.cellAt (j * 6 + 1) (by omega), ncs_get hx hq (by omega)]; rfl
  have c2 : w.cell? ⟨g, j * 6 + 2, none⟩ = some (.int .i64 x.e) := by rw [h.row.cellAt (j * 6 + 2) (by omega), ncs_get hx hq (by omega)]; rfl
  have c3 : w.cell? ⟨g, j * 6 + 3, none⟩ = some (.int .i64 x.s) := by rw [h.row.cellAt (j * 6 + 3) (by omega), ncs_get hx hq (by omega)]; rfl
  have c4 : w.cell? ⟨g, j * 6 + 4, none⟩ = some (.int .i64 x.h) := by rw [h.row.cellAt (j * 6 + 4) (by omega), ncs_get hx hq (by omega)]; rfl
  have c5 : w.cell? ⟨g, j * 6 + 5, none⟩ = some q := by rw [h.row.cellAt (j * 6 + 5) (by omega), ncs_get hx hq (by omega)]; rfl
  have f0 := h.row.frozenAt (j * 6)
  have f1 := h.row.frozenAt (j * 6 + 1)
  have f2 := h.row.frozenAt (j * 6 + 2)
  have f3 := h.row.frozenAt (j * 6 + 3)
  have f4 := h.row.frozenAt (j * 6 + 4)
  have f5 := h.row.frozenAt (j * 6 + 5)
  have hgl := h.row.lt g rfl
  have hglt := hgl.2
  have HJ := hid hj; have HGB := hid hgl.1
  have H := hid h
  clear h hx hq hgl hj
  go_enter Tryz.func181, Tryz.ntmps181
  go_wp2
  go_end0
  exact ⟨_, rfl, H.out.node HJ.out zeroN none 0 (by decide) rfl (by decide), keeps_node H.out j zeroN (.slice none 0 0) (by decide) _ _ _ _ _ _, ((((((Below.refl _ _).setCell HGB.out _).setCell HGB.out _).setCell HGB.out _).setCell HGB.out _).setCell HGB.out _).setCell HGB.out _⟩
set_option maxHeartbeats 1000000 in
set_option maxRecDepth 100000 in
theorem above_blank (base g cap : Nat) (z : Nat) (xs : List TN) (qs : List Value) (w : World) (h : TrW w base g cap xs qs) (hn : xs.length ≤ 600) (hf : fullN (lvN xs.length) = true) (hl : 2 * (lvN xs.length : Int) - 1 = (xs.length : Int)) (hz : z < lvN xs.length) (hbase : base ≤ w.heap.size) (hT : Tab w) :
    Calls Tryz.prog 116 #[.slice (some ⟨g, 0, none⟩) xs.length cap, .int .i64 z, .func (.func 181) #[] #[]] w fun e w' => ∃ qs', e = .returned (.tuple #[]) ∧ TrW w' base g cap (updAll blankN xs (pathL (2 * z) (lvN xs.length))) qs' ∧ Below base w w' := by
  have H := hid h; have HF := hid hf; have HT := hid hT
  have hl1 : 2 * (lvN xs.length : Int) - 1 ≤ (xs.length : Int) := by omega
  have hl2 : (xs.length : Int) ≤ 2 * (lvN xs.length : Int) - 1 := by omega
  clear h hf hT hl
  have hN : lvN xs.length ≤ 301 := by unfold lvN; omega
  have hpl := pathL_le (2 * z) (lvN xs.length)
  go_enter Tryz.func116, Tryz.ntmps116
  go_wp2_with (first
    | (go_at_call 115; refine (leavesT_any _ _ _ _ hn).mono ?_; rintro e w' ⟨rfl, hw'⟩; subst w')
    | (go_at_call 182; refine (path_any (2 * z) (lvN xs.length) _ HF.out (by omega) (by omega) HT.out).mono ?_; rintro e1 w1 ⟨v1, rfl, hown1, hb1⟩; obtain ⟨A1, c1, rfl, hs1⟩ := SlA.owned hown1))
  have HS1 := hid hs1; have HB1 := hid hb1
  have HI := hid (@path_in (2 * z) (lvN xs.length) HF.out (by omega) (by omega))
  have H1 := hid (H.out.ext hb1)
  have HP1 := hid (show ∀ b o, A1 = some ⟨b, o, none⟩ → Far w1 g xs qs b from fun b o e => by
    subst e
    have hh := hown1.lt b rfl
    exact Far.new H.out hh.1 hh.2)
  have hz1 := hb1.size
  clear hs1 hown1 hb1
  generalize hPL : pathL (2 * z) (lvN xs.length) = PL at *
  have HPL := hid hPL; clear hPL
  go_loopw [20] (fun i wr => ∃ (k : Nat) (rs : List Value), i = .int .i64 k ∧ k ≤ PL.length ∧ TrW wr base g cap (updAll blankN xs (PL.take k)) rs ∧ Keeps w1 wr g xs (updAll blankN xs (PL.take k)) qs rs ∧ Below base w wr) (fun i _ => PL.length - (intOf i).toNat)
  case atStart => exact ⟨0, qs, rfl, by omega, H1.out, Keeps.refl _ _ _ _, HB1.out.mono hbase⟩
  case round =>
    obtain ⟨k, rs, hi, hk, htr, hkp, hbr⟩ := hrel
    subst hi
    have HBr := hid hbr; have HTR := hid htr; have HKP := hid hkp
    have hbrz := hbr.size
    clear hbr htr hkp
    by_cases hlk : k < PL.length
    · obtain ⟨b5, o5, y, rfl, hy, hcy⟩ := HS1.out.elemI hlk
      have hcy2 := (World.cell?_of_block (a := ⟨b5, o5 + k, none⟩) (HKP.out b5 (HP1.out b5 o5 rfl)).2).trans hcy
      obtain ⟨y0, y1⟩ := HI.out y (List.mem_of_getElem? hy)
      obtain ⟨yn, rfl⟩ := Int.eq_ofNat_of_zero_le y0
      have hyn : yn < xs.length := by omega
      have HTK := hid (take_get hy)
      clear hy hcy y0 y1
      have hlen := updAll_len blankN (PL.take k) xs
      have hyl : yn < (updAll blankN xs (PL.take k)).length := by rw [hlen]; exact hyn
      have hx : (updAll blankN xs (PL.take k))[yn]? = some _ := List.getElem?_eq_getElem hyl
      generalize (updAll blankN xs (PL.take k))[yn] = x at hx
      have HX := hid hx
      have HN := hid (show updAll blankN xs (PL.take (k + 1)) = (updAll blankN xs (PL.take k)).set yn (blankN x) by
        rw [HTK.out, updAll_snoc, Int.toNat_natCast, upd_at HX.out])
      clear hx hlen hyl
      go_wp2_with (go_at_call 181; refine (chg1_any base g cap _ rs yn x _ HTR.out HX.out).mono ?_; rintro e3 w3 ⟨qs3, rfl, htr3, hkp3, hb3⟩; have HT3 := hid htr3; have HK3 := hid hkp3; have HB3 := hid hb3; clear htr3 hkp3 hb3)
      go_roundw
      case rel => exact ⟨k + 1, qs3, by go_num, by omega, by rw [HN.out]; exact HT3.out, by rw [HN.out]; exact HKP.out.trans HK3.out, HBr.out.trans HB3.out⟩
      case measure => simp [intOf]; omega
    · have HJ := hid (show PL.take k = PL from List.take_of_length_le (by omega))
      go_wp2
      go_end0
      have h1 := HTR.out
      rw [HJ.out] at h1
      exact ⟨rs, rfl, by rw [HPL.out]; exact h1, HBr.out⟩
end Go.Proofs.YtpkijlmkgomfeaaGreatDoor

