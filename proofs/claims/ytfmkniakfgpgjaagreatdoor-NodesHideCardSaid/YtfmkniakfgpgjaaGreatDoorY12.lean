import Derived.Test.YtfmkniakfgpgjaaGreatDoorY02
import Derived.Test.YtfmkniakfgpgjaaGreatDoorRows
import Derived.Test.YtfmkniakfgpgjaaGreatDoorY11
import Derived.Test.YtfmkniakfgpgjaaGreatDoorY04
import Derived.Test.YtfmkniakfgpgjaaGreatDoorY08
import Derived.Deep.QuietTactic
import Derived.BigQuiet
import Derived.Deep.RegionWith
import Derived.Deep.RegionLaw
import Derived.Lib.AppendZerosOnto
/- A tree that is the call's own: a row of nodes that may be written, whose parents' lists are rows of their own. -/
namespace Go.KK
open Go.RowKit
set_option linter.unusedVariables false
set_option linter.unusedSimpArgs false

theorem ncs_ext {L : List Value} {xs : List TN} {qs : List Value} (hq : qs.length = xs.length) (hl : L.length = xs.length * 6)
    (h : ∀ (j : Nat) x q, xs[j]? = some x → qs[j]? = some q → ∀ k, k < 6 → L[j * 6 + k]? = (x.cells q)[k]?) : L = ncs xs qs := by
  apply List.ext_getElem?
  intro i
  by_cases hi : i < xs.length * 6
  · have hx : xs[i / 6]? = some (xs[i / 6]'(by omega)) := List.getElem?_eq_getElem _
    have hqq : qs[i / 6]? = some (qs[i / 6]'(by omega)) := List.getElem?_eq_getElem _
    have h1 := h _ _ _ hx hqq (i % 6) (Nat.mod_lt _ (by omega))
    have h2 := ncs_get hx hqq (Nat.mod_lt i (show 0 < 6 by omega))
    rw [show i / 6 * 6 + i % 6 = i by omega] at h1 h2
    rw [h1, h2]
  · rw [List.getElem?_eq_none (by omega), List.getElem?_eq_none (by rw [ncs_len hq]; omega)]

/-- A node is stored, cell by cell. -/
theorem ncs_set {xs : List TN} {qs : List Value} (hq : qs.length = xs.length) {j : Nat} (hj : j < xs.length) (y : TN) (q : Value) :
    ((((((ncs xs qs).set (j * 6) (.int .i64 y.k)).set (j * 6 + 1) (.int .i64 y.i)).set (j * 6 + 2) (.int .i64 y.e)).set (j * 6 + 3) (.int .i64 y.s)).set (j * 6 + 4) (.int .i64 y.h)).set (j * 6 + 5) q = ncs (xs.set j y) (qs.set j q) := by
  refine ncs_ext (by simpa using hq) (by simp [ncs_len hq]) ?_
  intro i x p hx hp k hk
  have hlen : (ncs xs qs).length = xs.length * 6 := ncs_len hq
  by_cases hij : i = j
  · subst hij
    rw [List.getElem?_set_self (by omega)] at hx hp
    injection hx with hx; injection hp with hp
    subst hx; subst hp
    have hk' : k = 0 ∨ k = 1 ∨ k = 2 ∨ k = 3 ∨ k = 4 ∨ k = 5 := by omega
    rcases hk' with rfl | rfl | rfl | rfl | rfl | rfl <;> simp [TN.cells, List.getElem?_set, hlen] <;> omega
  · rw [List.getElem?_set_ne (by omega)] at hx hp
    have h0 := ncs_get hx hp hk
    rw [← h0]
    repeat rw [List.getElem?_set_ne (by omega)]
/-- One cell of a node is stored. -/
theorem ncs_set1 {xs : List TN} {qs : List Value} (hq : qs.length = xs.length) {j d : Nat} {x y : TN} {p q : Value} (hx : xs[j]? = some x) (hp : qs[j]? = some p) (hd : d < 6) (v : Value)
    (h : (x.cells p).set d v = y.cells q) : (ncs xs qs).set (j * 6 + d) v = ncs (xs.set j y) (qs.set j q) := by
  have hj : j < xs.length := (List.getElem?_eq_some_iff.1 hx).1
  refine ncs_ext (by simpa using hq) (by simp [ncs_len hq]) ?_
  intro i x' p' hx' hp' k hk
  have hlen : (ncs xs qs).length = xs.length * 6 := ncs_len hq
  by_cases hij : i = j
  · subst hij
    rw [List.getElem?_set_self (by omega)] at hx' hp'
    injection hx' with hx'; injection hp' with hp'
    subst hx'; subst hp'
    rw [← h]
    by_cases hkd : k = d
    · subst hkd
      rw [List.getElem?_set_self (by omega), List.getElem?_set_self (by simp [TN.cells]; omega)]
    · rw [List.getElem?_set_ne (by omega), List.getElem?_set_ne (by omega), ncs_get hx hp hk]
  · rw [List.getElem?_set_ne (by omega)] at hx' hp'
    rw [← ncs_get hx' hp' hk, List.getElem?_set_ne (by omega)]

/-- A node's list, in a tree of the call's own: a parent's is a row of its own; all others' are empty. -/
def LsO (w : World) (base g : Nat) (x : TN) (q : Value) : Prop :=
  (x.k = 2 → w.ownsRow base 3 1 q x.u.length (x.u.map (.int .i64)) ∧ q.ownBlock ≠ some g) ∧ (x.k ≠ 2 → x.u = [] ∧ ∃ A c, q = .slice A 0 c ∧ c ≤ maxLen)
structure TrW (w : World) (base g cap : Nat) (xs : List TN) (qs : List Value) : Prop where
  row : w.ownsRow base 46 6 (.slice (some ⟨g, 0, none⟩) xs.length cap) xs.length (ncs xs qs)
  ql : qs.length = xs.length
  own : ∀ (j : Nat) x q, xs[j]? = some x → qs[j]? = some q → LsO w base g x q
  apart : ∀ (i j : Nat) x y p q b, xs[i]? = some x → xs[j]? = some y → qs[i]? = some p → qs[j]? = some q → x.k = 2 → y.k = 2 → p.ownBlock = some b → q.ownBlock = some b → i = j

theorem LsO.in1 {w : World} {base g : Nat} {x : TN} {q : Value} (h : LsO w base g x q) : In1 w q x.u := by
  by_cases hk : x.k = 2
  · obtain ⟨A, c, e, hs⟩ := SlA.owned (h.1 hk).1
    exact ⟨A, c, e, hs⟩
  · obtain ⟨hu, A, c, e, hc⟩ := h.2 hk
    rw [hu]
    exact ⟨A, c, e, SlA.zero _ _ _ _ hc⟩
theorem LsO.grown {w w' : World} {base g : Nat} {x : TN} {q : Value} {r : Option Nat} (h : LsO w base g x q) (hg : w.grownBy w' r) (hr : x.k = 2 → q.ownBlock = none ∨ q.ownBlock ≠ r) : LsO w' base g x q :=
  ⟨fun hk => ⟨(h.1 hk).1.kept hg (hr hk), (h.1 hk).2⟩, h.2⟩

section
variable {w w' : World} {base g cap : Nat} {xs : List TN} {qs : List Value}
theorem TrW.tr (h : TrW w base g cap xs qs) : Tr w (some ⟨g, 0, none⟩) xs.length cap xs := by
  refine ⟨qs, h.ql, (SlA.of_own h.row).2, fun j x q hx hq => (h.own j x q hx hq).in1⟩
theorem TrW.lt (h : TrW w base g cap xs qs) : base ≤ g ∧ g < w.heap.size := h.row.lt g rfl
/-- Another row turned, or new blocks. -/
theorem TrW.grown {r : Option Nat} (h : TrW w base g cap xs qs) (hg : w.grownBy w' r) (hr : r ≠ some g) (hrq : ∀ (j : Nat) x q, xs[j]? = some x → qs[j]? = some q → x.k = 2 → q.ownBlock = none ∨ q.ownBlock ≠ r) : TrW w' base g cap xs qs :=
  ⟨h.row.kept hg (.inr (by simpa [Value.ownBlock] using fun e => hr e.symm)), h.ql, fun j x q hx hq => (h.own j x q hx hq).grown hg (hrq j x q hx hq), h.apart⟩
theorem TrW.ext (h : TrW w base g cap xs qs) (hb : Below w.heap.size w w') : TrW w' base g cap xs qs :=
  h.grown (grown_of_below hb none) (by simp) (fun j x q _ _ _ => by cases q.ownBlock <;> simp)
theorem TrW.alloc (h : TrW w base g cap xs qs) (o : Obj) : TrW (w.alloc o) base g cap xs qs := h.ext ((Below.refl _ _).alloc (Nat.le_refl _) o)
theorem TrW.drew (h : TrW w base g cap xs qs) : TrW w.drew base g cap xs qs := ⟨h.row, h.ql, h.own, h.apart⟩
theorem TrW.drewN (h : TrW w base g cap xs qs) (k : Nat) : TrW (w.drewN k) base g cap xs qs := ⟨h.row, h.ql, h.own, h.apart⟩
theorem TrW.to (h : TrW w base g cap xs qs) {p : Nat} (hp : p ≤ xs.length) : TrW w base g cap (xs.take p) (qs.take p) := by
  have hlp : (xs.take p).length = p := by rw [List.length_take, Nat.min_eq_left hp]
  have hlq : (qs.take p).length = p := by rw [List.length_take, h.ql, Nat.min_eq_left hp]
  have tk : ∀ {α : Type} {l : List α} {j : Nat} {x : α}, (l.take p)[j]? = some x → l[j]? = some x := by
    intro α l j x hx
    rw [List.getElem?_take] at hx
    split at hx
    · exact hx
    · cases hx
  refine ⟨?_, by rw [hlp, hlq], fun j x q hx hq => h.own j x q (tk hx) (tk hq), fun i j x y a q b hx hy ha hq k1 k2 => h.apart i j x y a q b (tk hx) (tk hy) (tk ha) (tk hq) k1 k2⟩
  rcases h.row with ⟨h1, h2⟩
  refine ⟨by rw [ncs_len (by rw [hlp, hlq])], ?_⟩
  rcases h2 with ⟨e, _⟩ | ⟨g', cap', cur, e, hb, hg, hnc, hcm, hcs, htake⟩
  · cases e
  · injection e with e1 e2 e3
    injection e1 with e1
    injection e1 with e4 e5
    subst e4; subst e3
    refine .inr ⟨g, cap, cur, rfl, hb, hg, by omega, hcm, hcs, ?_⟩
    rw [hlp]
    have e : ncs (xs.take p) (qs.take p) = (ncs xs qs).take (p * 6) := by
      symm
      refine ncs_ext (by rw [hlp, hlq]) (by rw [List.length_take, ncs_len h.ql, hlp]; omega) ?_
      intro j x q hx hq k hk
      have hjp : j < p := by
        rcases Nat.lt_or_ge j p with hh | hh
        · exact hh
        · rw [List.getElem?_eq_none (by omega)] at hx; cases hx
      rw [List.getElem?_take, if_pos (by omega), ncs_get (tk hx) (tk hq) hk]
    rw [e, ← htake, List.take_take, Nat.min_eq_left (by omega)]
theorem set_get {α : Type} {l : List α} {i j : Nat} {x y : α} (h : (l.set j y)[i]? = some x) : (i = j ∧ x = y) ∨ (i ≠ j ∧ l[i]? = some x) := by
  by_cases hij : i = j
  · subst hij
    have hl : i < l.length := by
      rcases Nat.lt_or_ge i l.length with hh | hh
      · exact hh
      · rw [List.getElem?_eq_none (by simpa using hh)] at h; cases h
    rw [List.getElem?_set_self hl] at h
    injection h with h
    exact .inl ⟨rfl, h.symm⟩
  · rw [List.getElem?_set_ne (by omega)] at h
    exact .inr ⟨hij, h⟩
/-- What the row holds has turned; a node is another one. -/
theorem TrW.put' {L : List Value} {j : Nat} {y : TN} {q : Value} (h : TrW w base g cap xs qs) (hw : ∀ (i : Nat) x p, i ≠ j → xs[i]? = some x → qs[i]? = some p → x.k = 2 → w'.ownsRow base 3 1 p x.u.length (x.u.map (.int .i64))) (hrow : w'.ownsRow base 46 6 (.slice (some ⟨g, 0, none⟩) xs.length cap) xs.length L)
    (hL : L = ncs (xs.set j y) (qs.set j q)) (hy : LsO w' base g y q) (hap : y.k = 2 → ∀ b, q.ownBlock = some b → ∀ (i : Nat) x p, xs[i]? = some x → qs[i]? = some p → i ≠ j → x.k = 2 → p.ownBlock ≠ some b) :
    TrW w' base g cap (xs.set j y) (qs.set j q) := by
  subst hL
  refine ⟨by simpa using hrow, by simpa using h.ql, fun i x p hx hp => ?_, fun i k x z p r b hx hz hp hr k1 k2 hb1 hb2 => ?_⟩
  · rcases set_get hx with ⟨rfl, rfl⟩ | ⟨hij, hx⟩
    · rcases set_get hp with ⟨_, rfl⟩ | ⟨hij, _⟩
      · exact hy
      · exact absurd rfl hij
    · rcases set_get hp with ⟨hh, _⟩ | ⟨_, hp⟩
      · exact absurd hh hij
      · exact ⟨fun hk => ⟨hw i x p hij hx hp hk, ((h.own i x p hx hp).1 hk).2⟩, (h.own i x p hx hp).2⟩
  · rcases set_get hx with ⟨rfl, rfl⟩ | ⟨hij, hx'⟩
    · rcases set_get hz with ⟨rfl, rfl⟩ | ⟨hkj, hz'⟩
      · rfl
      · rcases set_get hp with ⟨_, rfl⟩ | ⟨hh, _⟩
        · rcases set_get hr with ⟨hh, _⟩ | ⟨_, hr'⟩
          · exact absurd hh hkj
          · exact absurd hb2 (hap k1 b hb1 k z r hz' hr' hkj k2)
        · exact absurd rfl hh
    · rcases set_get hp with ⟨hh, _⟩ | ⟨_, hp'⟩
      · exact absurd hh hij
      · rcases set_get hz with ⟨rfl, rfl⟩ | ⟨hkj, hz'⟩
        · rcases set_get hr with ⟨_, rfl⟩ | ⟨hh, _⟩
          · exact absurd hb1 (hap k2 b hb2 i x p hx' hp' hij k1)
          · exact absurd rfl hh
        · rcases set_get hr with ⟨hh, _⟩ | ⟨_, hr'⟩
          · exact absurd hh hkj
          · exact h.apart i k x z p r b hx' hz' hp' hr' k1 k2 hb1 hb2
theorem TrW.put {L : List Value} {j : Nat} {y : TN} {q : Value} (h : TrW w base g cap xs qs) (hw : w.grownBy w' (some g)) (hrow : w'.ownsRow base 46 6 (.slice (some ⟨g, 0, none⟩) xs.length cap) xs.length L)
    (hL : L = ncs (xs.set j y) (qs.set j q)) (hy : LsO w' base g y q) (hap : y.k = 2 → ∀ b, q.ownBlock = some b → ∀ (i : Nat) x p, xs[i]? = some x → qs[i]? = some p → i ≠ j → x.k = 2 → p.ownBlock ≠ some b) :
    TrW w' base g cap (xs.set j y) (qs.set j q) :=
  h.put' (fun i x p _ hx hp hk => ((h.own i x p hx hp).1 hk).1.kept hw (.inr ((h.own i x p hx hp).1 hk).2)) hrow hL hy hap
theorem grown_setCell {a : World} {p : Addr} (h : a.grownBy w (some g)) (hp : p.block = g) (u : Value) : a.grownBy (w.setCell p u) (some g) :=
  ⟨h.os, h.tape, h.output, by simpa [World.setCell] using h.size, fun i hi hne => (Below.heap_setCell w p u i (by rintro rfl; exact hne (by rw [hp]))).trans (h.block i hi hne)⟩
/-- A node is stored that is no parent. -/
theorem TrW.node (h : TrW w base g cap xs qs) {j : Nat} (hj : j < xs.length) (y : TN) (A : Option Addr) (c : Nat) (hk : y.k ≠ 2) (hu : y.u = []) (hc : c ≤ maxLen) :
    TrW ((((((w.setCell ⟨g, j * 6, none⟩ (.int .i64 y.k)).setCell ⟨g, j * 6 + 1, none⟩ (.int .i64 y.i)).setCell ⟨g, j * 6 + 2, none⟩ (.int .i64 y.e)).setCell ⟨g, j * 6 + 3, none⟩ (.int .i64 y.s)).setCell ⟨g, j * 6 + 4, none⟩ (.int .i64 y.h)).setCell ⟨g, j * 6 + 5, none⟩ (.slice A 0 c)) base g cap (xs.set j y) (qs.set j (.slice A 0 c)) := by
  have g1 := grown_setCell (World.grownBy.refl w (some g)) (p := ⟨g, j * 6, none⟩) rfl (.int .i64 y.k)
  have g2 := grown_setCell g1 (p := ⟨g, j * 6 + 1, none⟩) rfl (.int .i64 y.i)
  have g3 := grown_setCell g2 (p := ⟨g, j * 6 + 2, none⟩) rfl (.int .i64 y.e)
  have g4 := grown_setCell g3 (p := ⟨g, j * 6 + 3, none⟩) rfl (.int .i64 y.s)
  have g5 := grown_setCell g4 (p := ⟨g, j * 6 + 4, none⟩) rfl (.int .i64 y.h)
  have g6 := grown_setCell g5 (p := ⟨g, j * 6 + 5, none⟩) rfl (.slice A 0 c)
  have r1 := (h.row.stored (j * 6) (.int .i64 y.k)).1
  have r2 := (r1.stored (j * 6 + 1) (.int .i64 y.i)).1
  have r3 := (r2.stored (j * 6 + 2) (.int .i64 y.e)).1
  have r4 := (r3.stored (j * 6 + 3) (.int .i64 y.s)).1
  have r5 := (r4.stored (j * 6 + 4) (.int .i64 y.h)).1
  exact h.put g6 (r5.stored (j * 6 + 5) (.slice A 0 c)).1 (ncs_set h.ql hj y _) ⟨fun hh => absurd hh hk, fun _ => ⟨hu, A, c, rfl, hc⟩⟩ (fun hh => absurd hh hk)
/-- A parent's list is another one. -/
theorem TrW.list (h : TrW w base g cap xs qs) {j : Nat} {x : TN} (hx : xs[j]? = some x) (u : List Int) (q : Value) (hk : x.k = 2) (hq : w.ownsRow base 3 1 q u.length (u.map (.int .i64))) (hg : q.ownBlock ≠ some g)
    (hap : ∀ b, q.ownBlock = some b → ∀ (i : Nat) y p, xs[i]? = some y → qs[i]? = some p → i ≠ j → y.k = 2 → p.ownBlock ≠ some b) :
    TrW (w.setCell ⟨g, j * 6 + 5, none⟩ q) base g cap (xs.set j { x with u := u }) (qs.set j q) := by
  have hj : j < xs.length := (List.getElem?_eq_some_iff.1 hx).1
  have hp : qs[j]? = some (qs[j]'(by rw [h.ql]; exact hj)) := List.getElem?_eq_getElem _
  have g1 := grown_setCell (World.grownBy.refl w (some g)) (p := ⟨g, j * 6 + 5, none⟩) rfl q
  refine h.put g1 (h.row.stored (j * 6 + 5) q).1 (ncs_set1 (d := 5) h.ql hx hp (by omega) q rfl) ⟨fun _ => ⟨hq.kept g1 (.inr hg), hg⟩, fun hh => absurd hk hh⟩ (fun _ => hap)
end
end Go.KK

/- ratchet: whether a tree may be, as one answer; who is in it; a tree copied. -/
namespace Go.Proofs.YtfmkniakfgpgjaaGreatDoor
open Go.RowKit Go.KK
set_option linter.unusedVariables false
set_option linter.unusedSimpArgs false

end Go.Proofs.YtfmkniakfgpgjaaGreatDoor

/- ratchet: a tree copied. -/
namespace Go.Proofs.YtfmkniakfgpgjaaGreatDoor
open Go.RowKit Go.KK Go.Shelf
set_option linter.unusedVariables false
set_option linter.unusedSimpArgs false

theorem Tryz.infoTN : (Tryz.prog.info? 46).map (fun i => (i.zero, i.size, i.bytes)) = some (some (.agg #[.int .i64 0, .int .i64 0, .int .i64 0, .int .i64 0, .int .i64 0, .slice none 0 0]), 6, 64) := by kernel_rfl
/-- What holds of the copy, whose first lists are copied. -/
structure Cp (base : Nat) (wr : World) (g cap : Nat) (xs : List TN) (qs : List Value) (j : Nat) (rs : List Value) : Prop where
  ql : rs.length = xs.length
  row : wr.ownsRow base 46 6 (.slice (some ⟨g, 0, none⟩) xs.length cap) xs.length (ncs xs rs)
  old : ∀ k, j ≤ k → rs[k]? = qs[k]?
  new : ∀ (k : Nat) x q, k < j → xs[k]? = some x → rs[k]? = some q → wr.ownsRow base 3 1 q x.u.length (x.u.map (.int .i64)) ∧ q.ownBlock ≠ some g
  apart : ∀ (i k : Nat) p q b, i < j → k < j → rs[i]? = some p → rs[k]? = some q → p.ownBlock = some b → q.ownBlock = some b → i = k
theorem Cp.step {base : Nat} {wr w2 : World} {g cap : Nat} {xs : List TN} {qs rs : List Value} {j : Nat} {x : TN} {v : Value} (h : Cp base wr g cap xs qs j rs) (hx : xs[j]? = some x) (hb : Below wr.heap.size wr w2) (hbase : base ≤ wr.heap.size)
    (hv : w2.ownsRow wr.heap.size 3 1 v x.u.length (x.u.map (.int .i64))) : Cp base (w2.setCell ⟨g, j * 6 + 5, none⟩ v) g cap xs qs (j + 1) (rs.set j v) := by
  have hj : j < xs.length := (List.getElem?_eq_some_iff.1 hx).1
  have hp : rs[j]? = some (rs[j]'(by rw [h.ql]; exact hj)) := List.getElem?_eq_getElem _
  have hgl : g < wr.heap.size := (h.row.lt g rfl).2
  have hvg : v.ownBlock ≠ some g := fun e => by have := (hv.lt g e).1; omega
  have hrow := ((own_ext h.row hb).stored (j * 6 + 5) v)
  refine ⟨by simpa using h.ql, ?_, fun k hk => ?_, fun k y q hk hy hq => ?_, fun i k p q b hi hk hpi hqk hb1 hb2 => ?_⟩
  · have e := ncs_set1 (d := 5) (y := x) (q := v) h.ql hx hp (by omega) v rfl
    rw [show xs.set j x = xs from List.ext_getElem? fun i => by
      by_cases hij : i = j
      · subst hij; rw [List.getElem?_set_self hj, hx]
      · rw [List.getElem?_set_ne (by omega)]] at e
    rw [← e]
    exact hrow.1
  · rw [List.getElem?_set_ne (by omega)]; exact h.old k (by omega)
  · rcases set_get hq with ⟨rfl, rfl⟩ | ⟨hne, hq'⟩
    · rw [hx] at hy
      injection hy with hy
      subst hy
      exact ⟨(Go.KK.own_mono hv hbase).kept hrow.2 (.inr hvg), hvg⟩
    · obtain ⟨h1, h2⟩ := h.new k y q (by omega) hy hq'
      exact ⟨(own_ext h1 hb).kept hrow.2 (.inr h2), h2⟩
  · rcases set_get hpi with ⟨rfl, rfl⟩ | ⟨hne, hp'⟩
    · rcases set_get hqk with ⟨rfl, rfl⟩ | ⟨hne2, hq'⟩
      · rfl
      · have hkl : k < xs.length := by
          have := (List.getElem?_eq_some_iff.1 hq').1
          rw [h.ql] at this; exact this
        have h3 := (h.new k _ q (by omega) (List.getElem?_eq_getElem hkl) hq').1.lt b hb2
        have h4 := (hv.lt b hb1).1
        omega
    · rcases set_get hqk with ⟨rfl, rfl⟩ | ⟨hne2, hq'⟩
      · have hil : i < xs.length := by
          have := (List.getElem?_eq_some_iff.1 hp').1
          rw [h.ql] at this; exact this
        have h3 := (h.new i _ p (by omega) (List.getElem?_eq_getElem hil) hp').1.lt b hb1
        have h4 := (hv.lt b hb2).1
        omega
      · exact h.apart i k p q b (by omega) (by omega) hp' hq' hb1 hb2
end Go.Proofs.YtfmkniakfgpgjaaGreatDoor

/- nodes: Open. -/
namespace Go.Proofs.YtfmkniakfgpgjaaGreatDoor
open Go.RowKit Go.KK Go.Shelf Go.Maps
set_option linter.unusedVariables false
set_option linter.unusedSimpArgs false

theorem sla_six {w : World} {T : TypeId} (a0 a1 a2 a3 a4 a5 : Value) : SlA (w.alloc (.cells #[a0, a1, a2, a3, a4, a5] T)) 6 (some ⟨w.heap.size, 0, none⟩) 1 1 [a0, a1, a2, a3, a4, a5] :=
  ⟨Nat.le_refl _, by unfold maxLen; decide, rfl, fun j u hj => ⟨w.heap.size, 0, rfl, by rw [Nat.zero_add, cell_of_row _ w.heap.size j _ _ (0, 0) (heap_alloc_new w _)]; simpa using hj⟩⟩
theorem six_one (x : TN) (A : Option Addr) (n c : Nat) : ∀ u ∈ x.cells (.slice A n c), u.oneCell' = true := by
  intro u hu
  unfold TN.cells at hu
  simp only [List.mem_cons, List.mem_nil_iff, or_false] at hu
  rcases hu with rfl | rfl | rfl | rfl | rfl | rfl <;> rfl
theorem ncs_snoc {ts : List TN} {qs : List Value} {x : TN} {q : Value} (h : qs.length = ts.length) : ncs (ts ++ [x]) (qs ++ [q]) = ncs ts qs ++ x.cells q := by
  unfold ncs
  rw [List.zipWith_append h.symm, List.flatten_append]
  simp
section
variable {w0 W V V' : World} {Z Z' Z2 : Nat → Prop} {sa bk : Nat} {S : KS} {ex cx : Int} {v v' q : Value} {ts : List TN} {qs : List Value} {x : TN} {X : List ND} {P : World → Prop}
/-- The nodes read so far: a row, and their lists. -/
structure OuM (W V : World) (Q : Nat → Prop) (v : Value) (ts : List TN) (qs : List Value) : Prop where
  own : V.ownsRow W.heap.size 46 6 v ts.length (ncs ts qs)
  ql : qs.length = ts.length
  nb : ∀ b, v.ownBlock = some b → ¬ Q b
  un : ∀ (j : Nat) x q, ts[j]? = some x → qs[j]? = some q → V.ownsRow W.heap.size 3 1 q x.u.length (x.u.map (.int .i64)) ∧ ∀ b, q.ownBlock = some b → ¬ Q b ∧ v.ownBlock ≠ some b
theorem OuM.nil (W V : World) (Q : Nat → Prop) : OuM W V Q (.slice none 0 0) [] [] := ⟨World.ownsRow_nil _ _ _ _, rfl, fun b hb => (by cases hb), fun j x q hx => by simp at hx⟩
theorem OuM.mv {Q Q2 : Nat → Prop} (h : OuM W V Q v ts qs) (m : Mv Q V Q2 V') : OuM W V' Q2 v ts qs := by
  have nz : ∀ b, b < V.heap.size → ¬ Q b → ¬ Q2 b := fun b hb hz h2 => (m.n b h2).elim hz fun h' => by omega
  refine ⟨own_block h.own fun b hb => m.t.block b (h.own.lt b hb).2 (h.nb b hb), h.ql, fun b hb => nz b (h.own.lt b hb).2 (h.nb b hb), fun j x q hx hq => ?_⟩
  obtain ⟨a1, a2⟩ := h.un j x q hx hq
  exact ⟨own_block a1 fun b hb => m.t.block b (a1.lt b hb).2 (a2 b hb).1, fun b hb => ⟨nz b (a1.lt b hb).2 (a2 b hb).1, (a2 b hb).2⟩⟩
theorem OuM.ext {Q : Nat → Prop} (h : OuM W V Q v ts qs) (hb : Below V.heap.size V V') : OuM W V' Q v ts qs := h.mv (Mv.below hb)
theorem OuM.app {Q : Nat → Prop} (h : OuM W V Q v ts qs) (hW : W.heap.size ≤ V.heap.size) (hQ : ∀ b, Q b → b < V.heap.size) (hq : V.ownsRow W.heap.size 3 1 q x.u.length (x.u.map (.int .i64))) (hqn : ∀ b, q.ownBlock = some b → ¬ Q b ∧ v.ownBlock ≠ some b) (hn : V'.ownsRow W.heap.size 46 6 v' (ts.length + 1) (ncs ts qs ++ x.cells q)) (hg : V.grownBy V' v.ownBlock) (hl : v'.ownBlock = v.ownBlock ∨ v'.ownBlock = some V.heap.size) : OuM W V' Q v' (ts ++ [x]) (qs ++ [q]) := by
  have new : ∀ b, v'.ownBlock = some b → v.ownBlock = some b ∨ b = V.heap.size := fun b hb => by
    rcases hl with hl | hl
    · exact .inl (hl ▸ hb)
    · rw [hl] at hb; injection hb with hb; exact .inr hb.symm
  have keep : ∀ {y : TN} {r : Value}, V.ownsRow W.heap.size 3 1 r y.u.length (y.u.map (.int .i64)) → (∀ b, r.ownBlock = some b → ¬ Q b ∧ v.ownBlock ≠ some b) → V'.ownsRow W.heap.size 3 1 r y.u.length (y.u.map (.int .i64)) ∧ ∀ b, r.ownBlock = some b → ¬ Q b ∧ v'.ownBlock ≠ some b := fun {y r} a1 a2 =>
    ⟨own_block a1 fun b hb => hg.block b (a1.lt b hb).2 (fun e => (a2 b hb).2 e.symm), fun b hb => ⟨(a2 b hb).1, fun e => (new b e).elim (a2 b hb).2 fun e => by have := (a1.lt b hb).2; omega⟩⟩
  refine ⟨by rw [List.length_append, ncs_snoc h.ql]; exact hn, by rw [List.length_append, List.length_append, h.ql]; rfl, fun b hb => ?_, fun j y r hy hr => ?_⟩
  · rcases new b hb with e | e
    · exact h.nb b e
    · intro hq'; have := hQ b hq'; omega
  · have hj : j < ts.length + 1 := by have := (List.getElem?_eq_some_iff.1 hy).1; rw [List.length_append] at this; exact this
    by_cases hjt : j < ts.length
    · rw [List.getElem?_append_left hjt] at hy
      rw [List.getElem?_append_left (by rw [h.ql]; exact hjt)] at hr
      obtain ⟨a1, a2⟩ := h.un j y r hy hr
      exact keep a1 a2
    · obtain rfl : j = ts.length := by omega
      rw [List.getElem?_append_right (Nat.le_refl _), Nat.sub_self] at hy
      rw [List.getElem?_append_right (by rw [h.ql]; exact Nat.le_refl _), h.ql, Nat.sub_self] at hr
      injection hy with hy
      injection hr with hr
      subst hy; subst hr
      exact keep hq hqn
theorem OuM.mono {Q Q' : Nat → Prop} (h : OuM W V Q v ts qs) (hq : ∀ b, Q' b → Q b) : OuM W V Q' v ts qs :=
  ⟨h.own, h.ql, fun b hb hz => h.nb b hb (hq b hz), fun j x q hx hq' => ⟨(h.un j x q hx hq').1, fun b hb => ⟨fun hz => ((h.un j x q hx hq').2 b hb).1 (hq b hz), ((h.un j x q hx hq').2 b hb).2⟩⟩⟩
theorem nrm_u (n : TN) : (nrm n).u = n.u := by unfold nrm; split <;> (try split) <;> rfl
/-- The tree that was read. -/
theorem OuM.trq {Q : Nat → Prop} (h : OuM W V Q v ts qs) : ∃ A c, v = .slice A ts.length c ∧ TrQ V A ts.length c ts qs := by
  obtain ⟨A, c, rfl, hs⟩ := SlA.owned h.own
  refine ⟨A, c, rfl, h.ql, hs, fun j x q hx hq => ?_⟩
  obtain ⟨A2, c2, rfl, hs2⟩ := SlA.owned (h.un j x q hx hq).1
  exact ⟨A2, c2, rfl, hs2⟩
theorem GM.grow {l : List Int} {V V' : World} {v : Value} (h : GM w0 W V Z Z' sa bk [] (.slice none 0 0) l S ex cx P) (hv : ∀ b, v.ownBlock = some b → ¬ Zk Z' bk b ∧ W.heap.size ≤ b) (hg : V.grownBy V' v.ownBlock) : GM w0 W V' Z Z' sa bk [] (.slice none 0 0) l S ex cx P := by
  have ht : Turn (fun b => v.ownBlock = some b) V V' := Turn.grown hg fun b hb => .inl hb
  have sz := h.m.t.size
  obtain ⟨R, r1, r2⟩ := h.fu
  exact ⟨⟨h.lk.la.turn ht (fun b hz e => (hv b e).1 (.inl hz)) (fun b e => Nat.le_trans (h.m0) (hv b e).2), (ht.block bk h.lk.lt fun e => (hv bk e).1 (.inr rfl)).trans h.lk.k, h.lk.nz, h.lk.lo⟩, fun p hp => (by cases hp), own_block h.un fun b hb => (by cases hb), fun b hb => (by cases hb), ⟨R, r1, fun V2 hv2 => r2 V2 fun b hr => (hv2 b hr).trans (ht.block b (Nat.lt_of_lt_of_le (r1 b hr).2 sz) fun e => by have := (hv b e).2; have := (r1 b hr).2; omega)⟩, ⟨h.m.t.trans ht fun b e => .inr (hv b e).2, h.m.n⟩, h.m0⟩
/-- What Open leaves: all opened, or one that does not. -/
def OpS (w0 W : World) (Z : Nat → Prop) (sa : Nat) (B : KS) (ex : Int) (n m : Nat) (t : List TN) (e : Ending) (w' : World) : Prop := ∃ Z', Mv Z W Z' w' ∧ ((m = n ∧ LA w0 w' Z' sa B.x ∧ ∃ v qs, e = .returned (.tuple #[v, .int .i64 0]) ∧ OuM W w' Z' v (t.map nrm) qs) ∨ (m < n ∧ LA w0 w' Z' sa (kyF ex B m).1.x ∧ e = .returned (.tuple #[.slice none 0 0, .int .i64 40])))
set_option maxHeartbeats 8000000 in
set_option maxRecDepth 100000 in
theorem open_any (h : LA w0 W Z sa X) (hT : Tb w0.heap.size w0) {ep : List Int} (h11 : ep.length = 11) (h5 : I64 (ep.getD 5 0)) (hx : I64 cx) {A : Option Addr} {n c : Nat} {l : List Int} (hl : Fx W Z fun V => SlA V 1 A n c (l.map (.int .i64))) (hn : n ≤ 511) {m : Nat} {t : List TN} (hm : m ≤ n) (ht : t.length = m) (he : (beF X ep cx).e = 0)
    (hlo : ∀ j : Nat, j < m → LockAt (beF X ep cx).x (l.getD j 0) (beI X ep cx) cx j (t.getD j tn0)) (hg : ∀ q ∈ t, TnG q ∧ q.u.length ≤ 1000)
    (hend : m = n ∨ (m < n ∧ (kyF (beI X ep cx) (beF X ep cx) m).1.e = 0 ∧ ∃ k' n' a' c', At (beF X ep cx).x (l.getD m 0) (ndN 9 [k', n', a', c']) ∧ hasB (beF X ep cx).x cx = true ∧ ([k', n', a'] == [(kyB (beI X ep cx) (beF X ep cx) m).2, (kyF (beI X ep cx) (beF X ep cx) m).2, cx]) = false)) :
    Calls Tryz.prog 17 #[.pointer (some ⟨sa, 0, none⟩), epV ep, .int .i64 cx, .slice A n c] W (OpS w0 W Z sa (beF X ep cx) (beI X ep cx) n m t) := by
  obtain ⟨i0, hi, hz0, hz1, hz2⟩ := info_parts Tryz.infoTN
  have HA := hid h; have HT := hid hT; have HX := hid hx; have HLF := hid hl; have HM := hid hm; have HTL := hid ht; have HLO := hid hlo; have HG := hid hg; have HEND := hid hend; have HE0 := hid he
  have HLN := hid hl.here.lenI
  obtain ⟨e0, e1, e2, e3, e4, e5, e6, e7, e8, e9, e10, rfl⟩ := len11 h11
  have H11 := hid h11; have H5 := hid h5
  have HIX := hid (show I64 (beI X [e0, e1, e2, e3, e4, e5, e6, e7, e8, e9, e10] cx) from xp_i HA.out.ar.ok _ _ _)
  clear h hT h11 h5 hx hl hm ht hlo hg hend he
  have HE := hid (show epV [e0, e1, e2, e3, e4, e5, e6, e7, e8, e9, e10] = .agg #[.int .i64 e0, .int .i64 e1, .int .i64 e2, .int .i64 e3, .int .i64 e4, .int .i64 e5, .int .i64 e6, .int .i64 e7, .int .i64 e8, .int .i64 e9, .int .i64 e10] from rfl)
  rw [HE.out]
  have hn511 : ¬ (511 : Int) < (n : Int) := by omega
  have B1 := hid ((Below.refl W.heap.size W).alloc (Nat.le_refl _) (.cells #[.int .i64 e0, .int .i64 e1, .int .i64 e2, .int .i64 e3, .int .i64 e4, .int .i64 e5, .int .i64 e6, .int .i64 e7, .int .i64 e8, .int .i64 e9, .int .i64 e10] 29))
  have HBG := hid (k_begin (HA.out.ext B1.out) HT.out H11.out H5.out HX.out)
  rw [HE.out] at HBG
  go_enter Tryz.func17, Tryz.ntmps17
  go_wp2_with fail
  refine HBG.out.mono ?_
  rintro e w3 ⟨Z3, bk, rfl, lk3, hbk, m3⟩
  have hbk0 : W.heap.size ≤ bk := Nat.le_trans B1.out.size hbk
  have HM3 := hid ((Mv.below (Z := Z) B1.out).trans m3)
  have HG3 := hid (show GM w0 W w3 Z Z3 sa bk [] (.slice none 0 0) [] (beF X [e0, e1, e2, e3, e4, e5, e6, e7, e8, e9, e10] cx) (beI X [e0, e1, e2, e3, e4, e5, e6, e7, e8, e9, e10] cx) cx (fun V => SlA V 1 A n c (l.map (.int .i64))) from by
    obtain ⟨R, r1, r2⟩ := HLF.out
    exact ⟨lk3, fun p hp => (by cases hp), World.ownsRow_nil _ _ _ _, fun b hb => (by cases hb), ⟨R, fun b hr => ⟨fun h2 => h2.elim (fun h2 => (HM3.out.n b h2).elim (r1 b hr).1 fun h' => by have := (r1 b hr).2; omega) (fun e => by have := (r1 b hr).2; omega), (r1 b hr).2⟩, fun V' hv => r2 V' fun b hr => (hv b hr).trans (HM3.out.t.block b (r1 b hr).2 (r1 b hr).1)⟩, HM3.out.zk bk, HA.out.bl.size⟩)
  have HBK := hid hbk0
  clear lk3 hbk hbk0 m3 HBG HE
  generalize beI X [e0, e1, e2, e3, e4, e5, e6, e7, e8, e9, e10] cx = ex at *
  generalize beF X [e0, e1, e2, e3, e4, e5, e6, e7, e8, e9, e10] cx = B at *
  obtain ⟨BX, be⟩ := B
  dsimp only at HE0
  have hbe := HE0.out
  subst hbe
  clear HE0
  go_upto_region 6 with fail
  go_loopw [29, 11] (fun v ov wr => ∃ (j : Nat) (Zj : Nat → Prop) (qs : List Value), v = .int .i64 j ∧ j ≤ m ∧ GM w0 W wr Z Zj sa bk [] (.slice none 0 0) [] ⟨BX, 0⟩ ex cx (fun V => SlA V 1 A n c (l.map (.int .i64))) ∧ OuM W wr (Zk Zj bk) ov ((t.take j).map nrm) qs) (fun v _ _ => n - (intOf v).toNat)
  case atStart => exact ⟨0, Z3, [], rfl, Nat.zero_le _, HG3.out, OuM.nil _ _ _⟩
  case round =>
    clear HG3
    obtain ⟨j, Zj, qs, hv, hj, hgm, hou⟩ := hrel
    subst hv
    have HGM := hid hgm; have HOU := hid hou
    clear hgm hou
    by_cases hlt : j < n
    · have hlt' : (j : Int) < (n : Int) := by omega
      have HLT := hid hlt
      obtain ⟨b, off, z, rfl, hz, hcz⟩ := (fu_here HGM.out.fu).elemI hlt
      have HZ := hid (show l.getD j 0 = z by rw [List.getD_eq_getElem?_getD, hz]; rfl)
      clear hz
      have HKY := hid (k_keys HGM.out.lk HT.out HIX.out (x := (j : Int)) ⟨by omega, by omega⟩)
      by_cases hjm : j < m
      · obtain ⟨tt, key, nonce, cc, o, ki, li, us, hky, hct, hat⟩ := HLO.out j hjm
        rw [HZ.out] at hat
        have hok := HGM.out.lk.la.ar.ok
        obtain ⟨ka, kb, kf⟩ := ky_again hok hky
        unfold KyS at HKY
        rw [kb, kf] at HKY
        obtain ⟨q, hq⟩ : ∃ q, t[j]? = some q := ⟨_, List.getElem?_eq_getElem (by have := HTL.out; omega)⟩
        rw [show t.getD j tn0 = q by rw [List.getD_eq_getElem?_getD, hq]; rfl] at hct
        have HCT := hid hct; have HQG := hid (HG.out q (List.mem_of_getElem? hq))
        have HTK := hid (show (t.take (j + 1)).map nrm = (t.take j).map nrm ++ [nrm q] by rw [List.take_add_one, hq, List.map_append]; rfl)
        have HTN := hid (show ((t.take j).map nrm).length = j by rw [List.length_map, List.length_take]; have := HTL.out; omega)
        have HAT := hid hat
        have HH1 := hid (show hasB BX key = true by obtain ⟨_, _, h2⟩ := hky.hk; exact h2.has)
        have HH2 := hid (show hasB BX nonce = true by obtain ⟨_, _, h2⟩ := hky.hn; exact h2.has)
        have HH3 := hid (at_part hok hat cx (by simp))
        clear hky hct hat hq ka kb kf hok
        go_wp2_with fail
        refine HKY.out.mono ?_
        rintro e w4 ⟨Z4, rfl, l4, m4⟩
        have HG4 := hid (HGM.out.mv l4 m4); have HO4 := hid (HOU.out.mv m4)
        clear l4 m4 HGM HOU HKY hcz
        have k1 : w4.cell? ⟨bk, 1, none⟩ = some (.int .i64 0) := HG4.out.lk.c1
        have HUN := l_unl HG4.out.lk.la.ar.vw HAT.out HH1.out HH2.out HH3.out
        rw [beq_self_eq_true] at HUN
        have HUS := hid (show Calls Tryz.prog 56 #[.pointer (some ⟨sa, 0, none⟩), .int .i64 key, .int .i64 nonce, .int .i64 cx, .int .i64 z] w4 (fun e w' => e = .returned (.tuple #[.int .i64 cc, .int .i64 0]) ∧ Below w4.heap.size w4 w') from HUN)
        clear HUN
        go_wp2_with fail
        refine HUS.out.mono ?_
        rintro e w5 ⟨rfl, b5⟩
        have HG5 := hid (HG4.out.ext b5); have HO5 := hid (HO4.out.ext b5)
        clear b5 HG4 HO4 HUS k1
        have HND := hid (k_node HG5.out.lk HT.out HCT.out HQG.out.1 HQG.out.2)
        go_wp2_with fail
        refine HND.out.mono ?_
        rintro e w6 ⟨uv, rfl, own6, nb6, lk6, m6⟩
        obtain ⟨Au, cu, rfl⟩ := own_shape own6
        have HG6 := hid (HG5.out.mv lk6 m6); have HO6 := hid (HO5.out.mv m6)
        have HU6 := hid (Go.KK.own_mono own6 HG5.out.m.t.size)
        have HN6 := hid nb6
        have HV6 := hid (show ∀ b, (Value.slice Au q.u.length cu).ownBlock = some b → u11.ownBlock ≠ some b from fun b hb e => by
          have := (own6.lt b hb).1; have := (HO5.out.own.lt b e).2; omega)
        clear own6 nb6 lk6 m6 HG5 HO5 HND
        have HNU := hid (nrm_u q)
        have HCL := hid (show (nrm q).cells (.slice Au q.u.length cu) = [.int .i64 (nrm q).k, .int .i64 (nrm q).i, .int .i64 (nrm q).e, .int .i64 (nrm q).s, .int .i64 (nrm q).h, .slice Au q.u.length cu] from rfl)
        have HON := hid (six_one (nrm q) Au q.u.length cu)
        unfold tnV
        generalize nrm q = nq at *
        obtain ⟨nk, ni, ne, ns, nh, nu⟩ := nq
        dsimp only at HNU HCL ⊢
        have hnu := HNU.out
        subst hnu
        have B18 := hid (show Below w6.heap.size w6 (w6.alloc (.cells #[.int .i64 nk, .int .i64 ni, .int .i64 ne, .int .i64 ns, .int .i64 nh, .slice Au q.u.length cu] 46)) from (Below.refl _ _).alloc (Nat.le_refl _) _)
        have X18 := hid (HasO.new (.cells #[.int .i64 nk, .int .i64 ni, .int .i64 ne, .int .i64 ns, .int .i64 nh, .slice Au q.u.length cu] 46 (0, 0)) w6)
        go_upto_region 16 with fail
        have HP := hid (And.intro (HG6.out.ext B18.out) (And.intro (HO6.out.ext B18.out) (And.intro (own_ext HU6.out B18.out) X18.out)))
        clear HG6 HO6 HU6 X18 B18
        generalize w6.heap.size = b18 at *
        generalize (t.take j).map nrm = ts at *
        refine forget (R := fun V => GM w0 W V Z Z4 sa bk [] (.slice none 0 0) [] ⟨BX, 0⟩ ex cx (fun V => SlA V 1 (some ⟨b, off, none⟩) n c (l.map (.int .i64))) ∧ OuM W V (Zk Z4 bk) u11 ts qs ∧ V.ownsRow W.heap.size 3 1 (.slice Au q.u.length cu) q.u.length (q.u.map (.int .i64)) ∧ HasO (.cells #[.int .i64 nk, .int .i64 ni, .int .i64 ne, .int .i64 ns, .int .i64 nh, .slice Au q.u.length cu] 46 (0, 0)) b18 V) ?_ HP.out
        clear HP
        rintro V ⟨hg, ho, hu, hx⟩
        have HG7 := hid hg; have HO7 := hid ho; have HU7 := hid hu
        have d0 : V.cell? ⟨b18, 0, none⟩ = some (.int .i64 nk) := by rw [cell_of_row _ b18 0 _ _ (0, 0) hx]; rfl
        have d1 : V.cell? ⟨b18, 1, none⟩ = some (.int .i64 ni) := by rw [cell_of_row _ b18 1 _ _ (0, 0) hx]; rfl
        have d2 : V.cell? ⟨b18, 2, none⟩ = some (.int .i64 ne) := by rw [cell_of_row _ b18 2 _ _ (0, 0) hx]; rfl
        have d3 : V.cell? ⟨b18, 3, none⟩ = some (.int .i64 ns) := by rw [cell_of_row _ b18 3 _ _ (0, 0) hx]; rfl
        have d4 : V.cell? ⟨b18, 4, none⟩ = some (.int .i64 nh) := by rw [cell_of_row _ b18 4 _ _ (0, 0) hx]; rfl
        have d5 : V.cell? ⟨b18, 5, none⟩ = some (.slice Au q.u.length cu) := by rw [cell_of_row _ b18 5 _ _ (0, 0) hx]; rfl
        have BL := hid (show Below V.heap.size V (V.alloc (.cells #[.int .i64 nk, .int .i64 ni, .int .i64 ne, .int .i64 ns, .int .i64 nh, .slice Au q.u.length cu] 46)) from (Below.refl _ _).alloc (Nat.le_refl _) _)
        rw [HCL.out] at HON
        have HQQ := hid (show ∀ b, Zk Z4 bk b → b < (V.alloc (.cells #[.int .i64 nk, .int .i64 ni, .int .i64 ne, .int .i64 ns, .int .i64 nh, .slice Au q.u.length cu] 46)).heap.size from fun b hz => by
          have hv : V.heap.size ≤ (V.alloc (.cells #[.int .i64 nk, .int .i64 ni, .int .i64 ne, .int .i64 ns, .int .i64 nh, .slice Au q.u.length cu] 46)).heap.size := BL.out.size
          exact hz.elim (fun hz => Nat.lt_of_lt_of_le (HG7.out.lk.la.ar.zlt _ hz) hv) fun e => e ▸ Nat.lt_of_lt_of_le HG7.out.lk.lt hv)
        clear hg ho hu hx
        go_wp2_with (first
          | (at_builtin; refine wpList_append_sl _ rfl _ _ 22 rfl W.heap.size 46 i0 _ 6 64 Tryz.underlying22 hi hz0 hz1 hz2 rfl (by decide) u11 ts.length (ncs ts qs) rfl (HO7.out.ext BL.out).own _ 1 1 [.int .i64 nk, .int .i64 ni, .int .i64 ne, .int .i64 ns, .int .i64 nh, .slice Au q.u.length cu] rfl (sla_six _ _ _ _ _ _) HON.out (by have := HTN.out; unfold maxLen; omega) (by have := HTN.out; omega) (by have := HG7.out.m.t.size; have := BL.out.size; omega) ?_; intro v1 w9 own1 gr1 loc1; obtain ⟨Av, cv, rfl⟩ := own_shape own1; have HG9 := hid ((HG7.out.ext BL.out).grow (v := u11) (fun b hb => ⟨HO7.out.nb b hb, (HO7.out.own.lt b hb).1⟩) gr1); have HO9 := hid ((HO7.out.ext BL.out).app (x := ⟨nk, ni, ne, ns, nh, q.u⟩) (Nat.le_trans HG7.out.m.t.size BL.out.size) HQQ.out (own_ext HU7.out BL.out) (fun b hb => ⟨HN6.out b hb, HV6.out b hb⟩) own1 gr1 loc1); clear own1 gr1 loc1)
          | fail)
        go_roundw
        case rel =>
          refine ⟨j + 1, Z4, qs ++ [.slice Au q.u.length cu], by go_num, by omega, HG9.out, ?_⟩
          rw [HTK.out]
          exact HO9.out
        case measure => have := HLT.out; simp [intOf]; omega
      · obtain rfl : j = m := by omega
        obtain hmn | ⟨-, he0, k', n', a', c', hat, hcx, hne⟩ := HEND.out
        · omega
        rw [HZ.out] at hat
        have g2 := ky_go ex ⟨BX, 0⟩ (j : Int)
        have hka := ky_at he0
        have HAT := hid (g2.at hat)
        have HH1 := hid (show hasB (kyF ex ⟨BX, 0⟩ j).1.x (kyB ex ⟨BX, 0⟩ j).2 = true by obtain ⟨_, _, h2⟩ := hka.hk; exact h2.has)
        have HH2 := hid (show hasB (kyF ex ⟨BX, 0⟩ j).1.x (kyF ex ⟨BX, 0⟩ j).2 = true by obtain ⟨_, _, h2⟩ := hka.hn; exact h2.has)
        have HH3 := hid (show hasB (kyF ex ⟨BX, 0⟩ j).1.x cx = true by obtain ⟨mm, hmm⟩ := g2.ext; rw [hmm]; exact has_ext hcx mm)
        have HNE := hid hne
        clear hat hcx hne g2 hka
        unfold KyS at HKY
        have HEE := hid he0
        clear he0
        go_wp2_with fail
        refine HKY.out.mono ?_
        rintro e w4 ⟨Z4, rfl, l4, m4⟩
        have HG4 := hid (HGM.out.mv l4 m4)
        clear l4 m4 HGM HOU HKY hcz
        have k1 : w4.cell? ⟨bk, 1, none⟩ = some (.int .i64 0) := by have h := HG4.out.lk.c1; rw [HEE.out] at h; exact h
        have HUN := l_unl HG4.out.lk.la.ar.vw HAT.out HH1.out HH2.out HH3.out
        rw [HNE.out] at HUN
        have HUS := hid (show Calls Tryz.prog 56 #[.pointer (some ⟨sa, 0, none⟩), .int .i64 (kyB ex ⟨BX, 0⟩ j).2, .int .i64 (kyF ex ⟨BX, 0⟩ j).2, .int .i64 cx, .int .i64 z] w4 (fun e w' => e = .returned (.tuple #[.int .i64 0, .int .i64 40]) ∧ Below w4.heap.size w4 w') from HUN)
        clear HUN
        go_wp2_with fail
        refine HUS.out.mono ?_
        rintro e w5 ⟨rfl, b5⟩
        have HG5 := hid (HG4.out.ext b5)
        clear b5 HG4 HUS k1
        go_wp2_with fail
        go_ret2
        exact ⟨Z4, HG5.out.m.unk HBK.out, .inr ⟨HLT.out, HG5.out.lk.la, rfl⟩⟩
    · have hmn : m = n := by have := HM.out; rcases HEND.out with h | h <;> omega
      obtain rfl : j = m := by
        rcases Nat.lt_or_ge j m with h | h
        · omega
        · omega
      have k1 : wr.cell? ⟨bk, 1, none⟩ = some (.int .i64 0) := HGM.out.lk.c1
      have HMN := hid hmn
      have hge : ¬ (j : Int) < (n : Int) := by omega
      have HTK := hid (show t.take j = t from List.take_of_length_le (by have := HTL.out; omega))
      clear hmn hlt
      rw [HTK.out] at HOU
      obtain ⟨Av, cv, hu11⟩ := own_shape HOU.out.own
      rw [List.length_map] at hu11
      subst hu11
      go_wp2_with fail
      go_ret2
      exact ⟨Zj, HGM.out.m.unk HBK.out, .inl ⟨HMN.out, HGM.out.lk.la, .slice Av t.length cv, qs, rfl, HOU.out.mono fun b hz => .inl hz⟩⟩
end
end Go.Proofs.YtfmkniakfgpgjaaGreatDoor

/- what changed between two rows. -/
namespace Go.Proofs.YtfmkniakfgpgjaaGreatDoor
open Go.RowKit Go.KK Go.Shelf Go.Maps
set_option linter.unusedVariables false
set_option linter.unusedSimpArgs false

def chB (l m : List Int) (i : Int) : Bool := !(decide (i < l.length) && decide (i < m.length) && (l.getD i.toNat 0 == m.getD i.toNat 0))
def chL (l m : List Int) (j : Nat) : List Int := ((List.range j).map fun i : Nat => (i : Int)).filter (chB l m)
def chF (l m : List Int) : List Int := chL l m (max l.length m.length)
theorem chL_le (l m : List Int) (j : Nat) : (chL l m j).length ≤ j := by
  unfold chL
  have := List.length_filter_le (chB l m) ((List.range j).map fun i : Nat => (i : Int))
  rw [List.length_map, List.length_range] at this
  exact this
theorem chL_yes {l m : List Int} {j : Nat} (h : chB l m (j : Int) = true) : chL l m (j + 1) = chL l m j ++ [(j : Int)] := by
  unfold chL
  rw [List.range_succ, List.map_append, List.filter_append]
  congr 1
  exact List.filter_cons_of_pos h
theorem chL_no {l m : List Int} {j : Nat} (h : chB l m (j : Int) = false) : chL l m (j + 1) = chL l m j := by
  unfold chL
  rw [List.range_succ, List.map_append, List.filter_append]
  have : List.filter (chB l m) (List.map (fun i : Nat => (i : Int)) [j]) = [] := by
    rw [List.map_cons, List.filter_cons_of_neg (by rw [h]; decide)]; rfl
  rw [this, List.append_nil]
theorem chB_out {l m : List Int} {j : Nat} (h : ¬ (j < l.length ∧ j < m.length)) : chB l m (j : Int) = true := by
  unfold chB
  by_cases h1 : j < l.length
  · have h2 : ¬ j < m.length := fun h2 => h ⟨h1, h2⟩
    simp [h2]
  · simp [h1]
theorem chB_at {l m : List Int} {j : Nat} {z z' : Int} (h : l[j]? = some z) (h' : m[j]? = some z') : chB l m (j : Int) = (z != z') := by
  have h1 := (List.getElem?_eq_some_iff.1 h).1
  have h2 := (List.getElem?_eq_some_iff.1 h').1
  unfold chB
  simp only [List.getD_eq_getElem?_getD, Int.toNat_natCast, h, h', Option.getD_some]
  simp [h1, h2, bne]
set_option maxHeartbeats 2000000 in
set_option maxRecDepth 20000 in
theorem changed_any (A : Option Addr) (n c : Nat) (l : List Int) (B : Option Addr) (m d : Nat) (l' : List Int) (w : World) (h : SlA w 1 A n c (l.map (.int .i64))) (h' : SlA w 1 B m d (l'.map (.int .i64))) (hn : n ≤ 1000000) (hm : m ≤ 1000000) :
    Calls Tryz.prog 23 #[.slice A n c, .slice B m d] w fun e w' => ∃ v, e = .returned v ∧ w'.ownsRow w.heap.size 3 1 v (chF l l').length ((chF l l').map (.int .i64)) ∧ Below w.heap.size w w' := by
  have HS := hid h; have HS' := hid h'
  have HL := hid h.lenI; have HL' := hid h'.lenI
  clear h h'
  have HM := hid (show chF l l' = chL l l' (max n m) by unfold chF; rw [HL.out, HL'.out])
  obtain ⟨i0, hi, hz0, hz1, hz2⟩ := info_parts Tryz.infoInt
  have hN : max n m ≤ 1000000 := by omega
  generalize hmx : max n m = M at *
  have HMX := hid hmx; clear hmx
  have HX := hid (show (max (n : Int) (m : Int)) = (M : Int) by have := HMX.out; omega)
  go_enter Tryz.func23, Tryz.ntmps23
  go_wp2
  try rw [HX.out]

  go_loopw [12, 5] (fun i v wr => ∃ j : Nat, i = .int .i64 j ∧ j ≤ M ∧ wr.ownsRow w.heap.size 3 1 v (chL l l' j).length ((chL l l' j).map (.int .i64)) ∧ Below w.heap.size w wr) (fun i _ _ => M - (intOf i).toNat)
  case atStart => exact ⟨0, rfl, by omega, World.ownsRow_nil _ _ _ _, Below.refl _ _⟩
  case round =>
    obtain ⟨j, hi1, hj, hown, hbr⟩ := hrel
    subst hi1
    have HBr := hid hbr; clear hbr
    by_cases hlt : j < M
    · have hlt' : (j : Int) < (M : Int) := by omega
      by_cases hin : j < n ∧ j < m
      · obtain ⟨b, o, z, rfl, hz, hc⟩ := (HS.out.ext HBr.out).elemI hin.1
        obtain ⟨b', o', z', rfl, hz', hc'⟩ := (HS'.out.ext HBr.out).elemI hin.2
        have HC := hid (chB_at hz hz')
        have hj0 : (0 : Int) ≤ (j : Int) := by omega
        have hj1 : (j : Int) < (n : Int) := by omega
        have hj2 : (j : Int) < (m : Int) := by omega
        have hge : ¬ (min (n : Int) (m : Int) ≤ (j : Int)) := by omega
        clear hz hz'
        by_cases hzx : z = z'
        · have HJ := hid (chL_no (l := l) (m := l') (j := j) (by rw [HC.out, hzx]; simp))
          have hzx' : (z != z') = false := by rw [hzx]; simp
          clear hzx
          go_wp2
          go_quiet (fail)
          go_wp2
          go_roundw
          case rel => exact ⟨j + 1, by go_num, by omega, by rw [HJ.out]; exact hown, below_drewN HBr.out nq⟩
          case measure => simp [intOf]; omega
        · have HJ := hid (chL_yes (l := l) (m := l') (j := j) (by rw [HC.out]; exact bne_iff_ne.2 hzx))
          have hzx' : (z != z') = true := bne_iff_ne.2 hzx
          clear hzx
          go_wp2
          go_quiet (fail)
          have HO3 := hid ((show (wr.drewN nq).ownsRow w.heap.size 3 1 _ _ _ from hown).alloc (.cells #[.int .i64 j] 3))
          have HLT := hid (SlA.lit1 (w := wr.drewN nq) (T := 3) (.int .i64 j))
          have HBz := hid (below_drewN HBr.out nq)
          have HZ := hid (HBz.out.alloc HBz.out.size (.cells #[.int .i64 j] 3)).size
          have HML := hid (chL_le l l' j)
          go_wp2_with (at_builtin; refine wpList_append_sl _ rfl _ _ 33 rfl w.heap.size 3 i0 (.int .i64 0) 1 8 Tryz.underlying33 hi hz0 hz1 hz2 rfl (by decide) _ _ _ rfl HO3.out _ 1 1 _ rfl HLT.out (one_int _ _) (by have := HML.out; unfold maxLen; omega) (by have := HML.out; omega) HZ.out ?_; intro v3 w3 hown4 hg4 _; have HO4 := hid hown4; have HG4 := hid hg4; clear hown4 hg4)
          go_roundw
          case rel =>
            refine ⟨j + 1, by go_num, by omega, ?_, below_append (HBz.out.alloc HBz.out.size _) HG4.out HO3.out (Nat.le_refl _) HZ.out⟩
            rw [HJ.out, List.map_append, List.length_append]
            exact HO4.out
          case measure => simp [intOf]; omega
      · have HJ := hid (chL_yes (l := l) (m := l') (j := j) (chB_out (by rw [HL.out, HL'.out]; exact hin)))
        have hge : min (n : Int) (m : Int) ≤ (j : Int) := by omega
        go_wp2
        go_quiet (fail)
        have HO3 := hid ((show (wr.drewN nq).ownsRow w.heap.size 3 1 _ _ _ from hown).alloc (.cells #[.int .i64 j] 3))
        have HLT := hid (SlA.lit1 (w := wr.drewN nq) (T := 3) (.int .i64 j))
        have HBz := hid (below_drewN HBr.out nq)
        have HZ := hid (HBz.out.alloc HBz.out.size (.cells #[.int .i64 j] 3)).size
        have HML := hid (chL_le l l' j)
        go_wp2_with (at_builtin; refine wpList_append_sl _ rfl _ _ 33 rfl w.heap.size 3 i0 (.int .i64 0) 1 8 Tryz.underlying33 hi hz0 hz1 hz2 rfl (by decide) _ _ _ rfl HO3.out _ 1 1 _ rfl HLT.out (one_int _ _) (by have := HML.out; unfold maxLen; omega) (by have := HML.out; omega) HZ.out ?_; intro v3 w3 hown4 hg4 _; have HO4 := hid hown4; have HG4 := hid hg4; clear hown4 hg4)
        go_roundw
        case rel =>
          refine ⟨j + 1, by go_num, by omega, ?_, below_append (HBz.out.alloc HBz.out.size _) HG4.out HO3.out (Nat.le_refl _) HZ.out⟩
          rw [HJ.out, List.map_append, List.length_append]
          exact HO4.out
        case measure => simp [intOf]; omega
    · have hjn : j = M := by omega
      have HJ := hid hjn; clear hjn
      go_wp2
      go_ret
      refine ⟨_, rfl, ?_, HBr.out⟩
      rw [HM.out, ← HJ.out]
      exact hown
end Go.Proofs.YtfmkniakfgpgjaaGreatDoor

/- ratchet: what Add does to a node above. -/
namespace Go.Proofs.YtfmkniakfgpgjaaGreatDoor
open Go.RowKit Go.KK Go.Shelf
set_option linter.unusedVariables false
set_option linter.unusedSimpArgs false

/-- How many of a list's numbers are less. -/
def lessN (u : List Int) (i : Int) : Nat := u.countP (· < i)
theorem lessN_le (u : List Int) (i : Int) : lessN u i ≤ u.length := List.countP_le_length
/-- The numbers in a parent's list, and one more. -/
def addN (i : Int) (x : TN) : TN := if x.k = 2 then { x with u := insL x.u (lessN x.u i) i } else x
/-- A block beside the tree. -/
structure Far (w : World) (g : Nat) (xs : List TN) (qs : List Value) (b : Nat) : Prop where
  lt : b < w.heap.size
  ne : b ≠ g
  far : ∀ (j : Nat) x q, xs[j]? = some x → qs[j]? = some q → x.k = 2 → q.ownBlock ≠ some b
/-- What a step on the tree leaves alone. -/
def Keeps (w w' : World) (g : Nat) (xs xs' : List TN) (qs qs' : List Value) : Prop := ∀ b, Far w g xs qs b → Far w' g xs' qs' b ∧ w'.heap[b]? = w.heap[b]?
theorem Keeps.refl (w : World) (g : Nat) (xs : List TN) (qs : List Value) : Keeps w w g xs xs qs qs := fun _ h => ⟨h, rfl⟩
theorem Keeps.trans {a b c : World} {g : Nat} {xs ys zs : List TN} {qs rs ts : List Value} (h : Keeps a b g xs ys qs rs) (k : Keeps b c g ys zs rs ts) : Keeps a c g xs zs qs ts := fun x hx =>
  have h1 := h x hx
  have h2 := k x h1.1
  ⟨h2.1, h2.2.trans h1.2⟩
theorem Far.new {w w' : World} {base g cap : Nat} {xs : List TN} {qs : List Value} (h : TrW w base g cap xs qs) {b : Nat} (hb : w.heap.size ≤ b) (hb' : b < w'.heap.size) : Far w' g xs qs b :=
  ⟨hb', by have := h.lt; omega, fun j x q hx hq hk e => by have := (((h.own j x q hx hq).1 hk).1.lt b e).2; omega⟩
theorem Far.ext {w w' : World} {g : Nat} {xs : List TN} {qs : List Value} {b : Nat} (h : Far w g xs qs b) (hb : w.heap.size ≤ w'.heap.size) : Far w' g xs qs b := ⟨Nat.lt_of_lt_of_le h.lt hb, h.ne, h.far⟩
end Go.Proofs.YtfmkniakfgpgjaaGreatDoor

/- append(t, make([]T, k)...) onto a row of the call's own; of nodes. -/
namespace Go.KK
open Go.RowKit
set_option linter.unusedVariables false
set_option linter.unusedSimpArgs false

def zeroN : TN := ⟨0, 0, 0, 0, 0, []⟩
theorem ncs_app {xs ys : List TN} {qs rs : List Value} (hq : qs.length = xs.length) (hr : rs.length = ys.length) : ncs (xs ++ ys) (qs ++ rs) = ncs xs qs ++ ncs ys rs := by
  unfold ncs
  rw [List.zipWith_append hq.symm, List.flatten_append]
theorem TrW.mono {w : World} {base base' g cap : Nat} {xs : List TN} {qs : List Value} (h : TrW w base g cap xs qs) (hb : base' ≤ base) : TrW w base' g cap xs qs :=
  ⟨Go.KK.own_mono h.row hb, h.ql, fun j x q hx hq => ⟨fun hk => ⟨Go.KK.own_mono ((h.own j x q hx hq).1 hk).1 hb, ((h.own j x q hx hq).1 hk).2⟩, (h.own j x q hx hq).2⟩, h.apart⟩
/-- More nodes, all of them blank. -/
theorem TrW.more {w w' : World} {base g cap g' cap' k : Nat} {xs : List TN} {qs : List Value} (h : TrW w base g cap xs qs) (hw : w.grownBy w' (some g)) (hg' : g' = g ∨ g' = w.heap.size)
    (hrow : w'.ownsRow base 46 6 (.slice (some ⟨g', 0, none⟩) (xs.length + k) cap') (xs.length + k) (ncs xs qs ++ ncs (List.replicate k zeroN) (List.replicate k (.slice none 0 0)))) :
    TrW w' base g' cap' (xs ++ List.replicate k zeroN) (qs ++ List.replicate k (.slice none 0 0)) := by
  have at_old : ∀ {j : Nat} {x : TN}, (xs ++ List.replicate k zeroN)[j]? = some x → x.k = 2 → xs[j]? = some x := by
    intro j x hx hk
    by_cases hj : j < xs.length
    · rwa [List.getElem?_append_left hj] at hx
    · rw [List.getElem?_append_right (by omega), List.getElem?_replicate] at hx
      split at hx
      · injection hx with hx; subst hx; exact absurd hk (by decide)
      · cases hx
  have q_old : ∀ {j : Nat} {q : Value}, j < xs.length → (qs ++ List.replicate k (Value.slice none 0 0))[j]? = some q → qs[j]? = some q := by
    intro j q hj hq
    rwa [List.getElem?_append_left (by rw [h.ql]; exact hj)] at hq
  refine ⟨?_, by simp [h.ql], fun j x q hx hq => ⟨fun hk => ?_, fun hk => ?_⟩, fun i j x y p q b hx hy hp hq k1 k2 b1 b2 => ?_⟩
  · rw [ncs_app h.ql (by simp), List.length_append, List.length_replicate]
    exact hrow
  · have hx' := at_old hx hk
    have hq' := q_old (List.getElem?_eq_some_iff.1 hx').1 hq
    obtain ⟨o1, o2⟩ := (h.own j x q hx' hq').1 hk
    refine ⟨o1.kept hw (.inr o2), ?_⟩
    rcases hg' with e | e
    · rw [e]; exact o2
    · intro e2
      have := (o1.lt g' e2).2
      omega
  · by_cases hj : j < xs.length
    · rw [List.getElem?_append_left hj] at hx
      exact (h.own j x q hx (q_old hj hq)).2 hk
    · rw [List.getElem?_append_right (by omega), List.getElem?_replicate] at hx
      rw [List.getElem?_append_right (by rw [h.ql]; omega), List.getElem?_replicate] at hq
      split at hx
      · injection hx with hx
        split at hq
        · injection hq with hq
          subst hx; subst hq
          exact ⟨rfl, none, 0, rfl, Nat.zero_le _⟩
        · cases hq
      · cases hx
  · have hx' := at_old hx k1
    have hy' := at_old hy k2
    exact h.apart i j x y p q b hx' hy' (q_old (List.getElem?_eq_some_iff.1 hx').1 hp) (q_old (List.getElem?_eq_some_iff.1 hy').1 hq) k1 k2 b1 b2

end Go.KK

/- ratchet: the way up from a leaf. -/
namespace Go.Proofs.YtfmkniakfgpgjaaGreatDoor
open Go.RowKit Go.KK Go.Shelf
set_option linter.unusedVariables false
set_option linter.unusedSimpArgs false

/-- One node turned. -/
def upd (f : TN → TN) (xs : List TN) (j : Nat) : List TN := match xs[j]? with | some x => xs.set j (f x) | none => xs
def updAll (f : TN → TN) : List TN → List Int → List TN
  | xs, [] => xs
  | xs, y :: l => updAll f (upd f xs y.toNat) l
theorem upd_get {f : TN → TN} {xs : List TN} {j k : Nat} {x : TN} (h : (upd f xs j)[k]? = some x) : (k = j ∧ ∃ y, xs[j]? = some y ∧ x = f y) ∨ (k ≠ j ∧ xs[k]? = some x) := by
  unfold upd at h
  split at h
  · rename_i y hy
    rcases set_get h with ⟨rfl, rfl⟩ | ⟨hne, h'⟩
    · exact .inl ⟨rfl, y, hy, rfl⟩
    · exact .inr ⟨hne, h'⟩
  · rename_i hn
    by_cases hk : k = j
    · subst hk; rw [hn] at h; cases h
    · exact .inr ⟨hk, h⟩

/-- Parents' lists are in order, and short. -/
def Ord (B : Nat) (xs : List TN) : Prop := ∀ (j : Nat) x, xs[j]? = some x → x.u.Pairwise (· ≤ ·) ∧ x.u.length ≤ B
theorem lessN_take {u : List Int} (h : u.Pairwise (· ≤ ·)) (i : Int) : (∀ y ∈ u.take (lessN u i), y < i) ∧ (∀ y ∈ u.drop (lessN u i), i ≤ y) := by
  induction u with
  | nil => simp [lessN]
  | cons a u ih =>
    have h' := List.pairwise_cons.1 h
    obtain ⟨i1, i2⟩ := ih h'.2
    by_cases ha : a < i
    · have e : lessN (a :: u) i = lessN u i + 1 := by unfold lessN; rw [List.countP_cons_of_pos (by simpa using ha)]
      rw [e, List.take_succ_cons, List.drop_succ_cons]
      refine ⟨fun y hy => ?_, i2⟩
      rcases List.mem_cons.1 hy with rfl | hy
      · exact ha
      · exact i1 y hy
    · have e : lessN (a :: u) i = 0 := by
        unfold lessN
        rw [List.countP_eq_zero]
        intro y hy
        rcases List.mem_cons.1 hy with rfl | hy
        · simpa using ha
        · have := h'.1 y hy; simp; omega
      rw [e]
      refine ⟨by simp, fun y hy => ?_⟩
      rw [List.drop_zero] at hy
      rcases List.mem_cons.1 hy with rfl | hy
      · omega
      · have := h'.1 y hy; omega
theorem insL_sorted {u : List Int} (h : u.Pairwise (· ≤ ·)) (i : Int) : (insL u (lessN u i) i).Pairwise (· ≤ ·) := by
  obtain ⟨h1, h2⟩ := lessN_take h i
  unfold insL
  have hp : (u.take (lessN u i) ++ u.drop (lessN u i)).Pairwise (· ≤ ·) := by rw [List.take_append_drop]; exact h
  rw [List.pairwise_append] at hp ⊢
  refine ⟨hp.1, List.pairwise_cons.2 ⟨h2, hp.2.1⟩, fun a ha b hb => ?_⟩
  rcases List.mem_cons.1 hb with rfl | hb
  · have := h1 a ha; omega
  · exact hp.2.2 a ha b hb
theorem Ord.add {B : Nat} {xs : List TN} {i : Int} (h : Ord B xs) (j : Nat) : Ord (B + 1) (upd (addN i) xs j) := by
  intro k x hx
  rcases upd_get hx with ⟨rfl, y, hy, rfl⟩ | ⟨_, hx'⟩
  · obtain ⟨h1, h2⟩ := h k y hy
    unfold addN
    split
    · exact ⟨insL_sorted h1 i, by show (insL _ _ _).length ≤ _; rw [insL_len _ _ _ (lessN_le _ _)]; omega⟩
    · exact ⟨h1, by omega⟩
  · obtain ⟨h1, h2⟩ := h k x hx'
    exact ⟨h1, by omega⟩

end Go.Proofs.YtfmkniakfgpgjaaGreatDoor

/- ratchet: Add. -/
namespace Go.Proofs.YtfmkniakfgpgjaaGreatDoor
open Go.RowKit Go.KK Go.Shelf
set_option linter.unusedVariables false
set_option linter.unusedSimpArgs false

/-- The first place that is free. -/
def freeN (xs : List TN) : Nat := ((List.range (lvN xs.length)).takeWhile fun j : Nat => pres xs (j : Int)).length
def growL (xs : List TN) (f : Nat) : List TN := if f = lvN xs.length then xs ++ List.replicate (2 * f) zeroN else xs
/-- A tree with one more leaf. -/
def addL (xs : List TN) (l : TN) : List TN := updAll (addN (freeN xs)) ((growL xs (freeN xs)).set (2 * freeN xs) l) (pathL (2 * (freeN xs : Int)) (lvN (growL xs (freeN xs)).length))

/-- What holds while the first free place is looked for. -/
structure AddR (w wr : World) (g cap bi : Nat) (xs : List TN) (qs : List Value) (lb : Array Value) (j : Nat) : Prop where
  cell : wr.cell? ⟨bi, 0, none⟩ = some (.int .i64 j)
  froz : wr.frozen? ⟨bi, 0, none⟩ = false
  tr : TrW wr w.heap.size g cap xs qs
  far : Far wr g xs qs bi
  box : wr.heap[w.heap.size]? = some (.cells lb 46 (0, 0))
  bfar : Far wr g xs qs w.heap.size
  below : Below w.heap.size w wr
  bne : w.heap.size < bi
theorem AddR.drewN {w wr : World} {g cap bi : Nat} {xs : List TN} {qs : List Value} {lb : Array Value} {j : Nat} (h : AddR w wr g cap bi xs qs lb j) (k : Nat) : AddR w (wr.drewN k) g cap bi xs qs lb j :=
  ⟨h.cell, h.froz, h.tr.drewN k, ⟨h.far.lt, h.far.ne, h.far.far⟩, h.box, ⟨h.bfar.lt, h.bfar.ne, h.bfar.far⟩, below_drewN h.below k, h.bne⟩
theorem far_set {w : World} {base g cap : Nat} {xs : List TN} {qs : List Value} {b : Nat} (h : TrW w base g cap xs qs) (hf : Far w g xs qs b) (u : Value) : TrW (w.setCell ⟨b, 0, none⟩ u) base g cap xs qs := by
  have hg : w.grownBy (w.setCell ⟨b, 0, none⟩ u) (some b) := ⟨rfl, rfl, rfl, by simp, fun k _ hk => Below.heap_setCell w ⟨b, 0, none⟩ u k (fun e => hk (by rw [e]))⟩
  exact h.grown hg (fun e => hf.ne (by injection e)) (fun j x q hx hq hk => .inr (hf.far j x q hx hq hk))
theorem AddR.step {w wr : World} {g cap bi : Nat} {xs : List TN} {qs : List Value} {lb : Array Value} {j : Nat} (h : AddR w wr g cap bi xs qs lb j) (k : Nat) (v : Value) (hv : v = .int .i64 (k : Int)) : AddR w (wr.setCell ⟨bi, 0, none⟩ v) g cap bi xs qs lb k := by
  subst hv
  exact ⟨World.cell?_setCell_same _ _ _ h.cell, by simpa using h.froz, far_set h.tr h.far _, ⟨by simpa using h.far.lt, h.far.ne, h.far.far⟩, by rw [Below.heap_setCell _ _ _ _ (by have := h.bne; show w.heap.size ≠ bi; omega)]; exact h.box, ⟨by simpa using h.bfar.lt, h.bfar.ne, h.bfar.far⟩, h.below.setCell (Nat.le_of_lt h.bne) _, h.bne⟩
theorem AddR.start {w w1 w2 : World} {g cap : Nat} {xs : List TN} {qs : List Value} {lb : Array Value} (htr : TrW w2 w1.heap.size g cap xs qs) (hlt : w.heap.size < w1.heap.size) (hbox : w2.heap[w.heap.size]? = some (.cells lb 46 (0, 0))) (hb : Below w.heap.size w w2) (hz : w1.heap.size ≤ w2.heap.size) :
    AddR w (w2.alloc (.cells #[.int .i64 0] 3)) g cap w2.heap.size xs qs lb 0 := by
  have hgl := htr.lt
  refine ⟨by rw [World.cell?_alloc_at _ _ _ _ rfl]; rfl, by rw [World.frozen?_alloc_at _ _ _ _ rfl], (htr.alloc _).mono (Nat.le_of_lt hlt), Far.new htr (Nat.le_refl _) (by simp), ?_, ⟨by simp; omega, by omega, fun j x q hx hq hk e => ?_⟩, hb.alloc (by omega) _, by omega⟩
  · exact (World.grownBy_alloc w2 _ none).block _ (by omega) (by simp) |>.trans hbox
  · have := (((htr.own j x q hx hq).1 hk).1.lt _ e).1
    omega
end Go.Proofs.YtfmkniakfgpgjaaGreatDoor

/- ratchet: change, Remove, Update, New. -/
namespace Go.Proofs.YtfmkniakfgpgjaaGreatDoor
open Go.RowKit Go.KK Go.Shelf
set_option linter.unusedVariables false
set_option linter.unusedSimpArgs false

end Go.Proofs.YtfmkniakfgpgjaaGreatDoor

