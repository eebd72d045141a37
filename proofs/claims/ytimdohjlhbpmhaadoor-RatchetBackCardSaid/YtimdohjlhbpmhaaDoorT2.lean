/- A tree that is the call's own: a row of nodes that may be written, whose parents' lists are rows of their own. -/
import Derived.Test.YtimdohjlhbpmhaaDoorT1
import Derived.Test.YtimdohjlhbpmhaaDoorRows
namespace Go.KK
open Go.RowKit
set_option linter.unusedVariables false
set_option linter.unusedSimpArgs false

theorem ncs_ext {L : List Value} {xs : List TN} {qs : List Value} (hq : qs.length = xs.length) (hl : L.length = xs.length * 6)
    (h : ∀ (j : Nat) x q, xs[j]? = some x → qs[j]? = some q → ∀ k, k < 6 → L[j * 6 + k]? = (x.cells q)[k]?) : L = ncs xs qs := by
  apply List.ext_getElem?
  intro i
  by_cases hi : i < xs.length * 6
  · have hx : xs[i / 6]? = some (xs[i / 6]'(by omega)) := List.getElem?_eq_getElem _
    have hqq : qs[i / 6]? = some (qs[i / 6]'(by omega)) := List.getElem?_eq_getElem _
    have h1 := h _ _ _ hx hqq (i % 6) (Nat.mod_lt _ (by omega))
    have h2 := ncs_get hx hqq (Nat.mod_lt i (show 0 < 6 by omega))
    rw [show i / 6 * 6 + i % 6 = i by omega] at h1 h2
    rw [h1, h2]
  · rw [List.getElem?_eq_none (by omega), List.getElem?_eq_none (by rw [ncs_len hq]; omega)]

/-- A node is stored, cell by cell. -/
theorem ncs_set {xs : List TN} {qs : List Value} (hq : qs.length = xs.length) {j : Nat} (hj : j < xs.length) (y : TN) (q : Value) :
    ((((((ncs xs qs).set (j * 6) (.int .i64 y.k)).set (j * 6 + 1) (.int .i64 y.i)).set (j * 6 + 2) (.int .i64 y.e)).set (j * 6 + 3) (.int .i64 y.s)).set (j * 6 + 4) (.int .i64 y.h)).set (j * 6 + 5) q = ncs (xs.set j y) (qs.set j q) := by
  refine ncs_ext (by simpa using hq) (by simp [ncs_len hq]) ?_
  intro i x p hx hp k hk
  have hlen : (ncs xs qs).length = xs.length * 6 := ncs_len hq
  by_cases hij : i = j
  · subst hij
    rw [List.getElem?_set_self (by omega)] at hx hp
    injection hx with hx; injection hp with hp
    subst hx; subst hp
    have hk' : k = 0 ∨ k = 1 ∨ k = 2 ∨ k = 3 ∨ k = 4 ∨ k = 5 := by omega
    rcases hk' with rfl | rfl | rfl | rfl | rfl | rfl <;> simp [TN.cells, List.getElem?_set, hlen] <;> omega
  · rw [List.getElem?_set_ne (by omega)] at hx hp
    have h0 := ncs_get hx hp hk
    rw [← h0]
    repeat rw [List.getElem?_set_ne (by omega)]
/-- One cell of a node is stored. -/
theorem ncs_set1 {xs : List TN} {qs : List Value} (hq : qs.length = xs.length) {j d : Nat} {x y : TN} {p q : Value} (hx : xs[j]? = some x) (hp : qs[j]? = some p) (hd : d < 6) (v : Value)
    (h : (x.cells p).set d v = y.cells q) : (ncs xs qs).set (j * 6 + d) v = ncs (xs.set j y) (qs.set j q) := by
  have hj : j < xs.length := (List.getElem?_eq_some_iff.1 hx).1
  refine ncs_ext (by simpa using hq) (by simp [ncs_len hq]) ?_
  intro i x' p' hx' hp' k hk
  have hlen : (ncs xs qs).length = xs.length * 6 := ncs_len hq
  by_cases hij : i = j
  · subst hij
    rw [List.getElem?_set_self (by omega)] at hx' hp'
    injection hx' with hx'; injection hp' with hp'
    subst hx'; subst hp'
    rw [← h]
    by_cases hkd : k = d
    · subst hkd
      rw [List.getElem?_set_self (by omega), List.getElem?_set_self (by simp [TN.cells]; omega)]
    · rw [List.getElem?_set_ne (by omega), List.getElem?_set_ne (by omega), ncs_get hx hp hk]
  · rw [List.getElem?_set_ne (by omega)] at hx' hp'
    rw [← ncs_get hx' hp' hk, List.getElem?_set_ne (by omega)]

/-- A node's list, in a tree of the call's own: a parent's is a row of its own; all others' are empty. -/
def LsO (w : World) (base g : Nat) (x : TN) (q : Value) : Prop :=
  (x.k = 2 → w.ownsRow base 3 1 q x.u.length (x.u.map (.int .i64)) ∧ q.ownBlock ≠ some g) ∧ (x.k ≠ 2 → x.u = [] ∧ ∃ A c, q = .slice A 0 c ∧ c ≤ maxLen)
structure TrW (w : World) (base g cap : Nat) (xs : List TN) (qs : List Value) : Prop where
  row : w.ownsRow base 25 6 (.slice (some ⟨g, 0, none⟩) xs.length cap) xs.length (ncs xs qs)
  ql : qs.length = xs.length
  own : ∀ (j : Nat) x q, xs[j]? = some x → qs[j]? = some q → LsO w base g x q
  apart : ∀ (i j : Nat) x y p q b, xs[i]? = some x → xs[j]? = some y → qs[i]? = some p → qs[j]? = some q → x.k = 2 → y.k = 2 → p.ownBlock = some b → q.ownBlock = some b → i = j

theorem LsO.in1 {w : World} {base g : Nat} {x : TN} {q : Value} (h : LsO w base g x q) : In1 w q x.u := by
  by_cases hk : x.k = 2
  · obtain ⟨A, c, e, hs⟩ := SlA.owned (h.1 hk).1
    exact ⟨A, c, e, hs⟩
  · obtain ⟨hu, A, c, e, hc⟩ := h.2 hk
    rw [hu]
    exact ⟨A, c, e, SlA.zero _ _ _ _ hc⟩
theorem LsO.grown {w w' : World} {base g : Nat} {x : TN} {q : Value} {r : Option Nat} (h : LsO w base g x q) (hg : w.grownBy w' r) (hr : x.k = 2 → q.ownBlock = none ∨ q.ownBlock ≠ r) : LsO w' base g x q :=
  ⟨fun hk => ⟨(h.1 hk).1.kept hg (hr hk), (h.1 hk).2⟩, h.2⟩

section
variable {w w' : World} {base g cap : Nat} {xs : List TN} {qs : List Value}
theorem TrW.tr (h : TrW w base g cap xs qs) : Tr w (some ⟨g, 0, none⟩) xs.length cap xs := by
  refine ⟨qs, h.ql, (SlA.of_own h.row).2, fun j x q hx hq => (h.own j x q hx hq).in1⟩
theorem TrW.lt (h : TrW w base g cap xs qs) : base ≤ g ∧ g < w.heap.size := h.row.lt g rfl
/-- Another row turned, or new blocks. -/
theorem TrW.grown {r : Option Nat} (h : TrW w base g cap xs qs) (hg : w.grownBy w' r) (hr : r ≠ some g) (hrq : ∀ (j : Nat) x q, xs[j]? = some x → qs[j]? = some q → x.k = 2 → q.ownBlock = none ∨ q.ownBlock ≠ r) : TrW w' base g cap xs qs :=
  ⟨h.row.kept hg (.inr (by simpa [Value.ownBlock] using fun e => hr e.symm)), h.ql, fun j x q hx hq => (h.own j x q hx hq).grown hg (hrq j x q hx hq), h.apart⟩
theorem TrW.ext (h : TrW w base g cap xs qs) (hb : Below w.heap.size w w') : TrW w' base g cap xs qs :=
  h.grown (grown_of_below hb none) (by simp) (fun j x q _ _ _ => by cases q.ownBlock <;> simp)
theorem TrW.alloc (h : TrW w base g cap xs qs) (o : Obj) : TrW (w.alloc o) base g cap xs qs := h.ext ((Below.refl _ _).alloc (Nat.le_refl _) o)
theorem TrW.drew (h : TrW w base g cap xs qs) : TrW w.drew base g cap xs qs := ⟨h.row, h.ql, h.own, h.apart⟩
theorem TrW.drewN (h : TrW w base g cap xs qs) (k : Nat) : TrW (w.drewN k) base g cap xs qs := ⟨h.row, h.ql, h.own, h.apart⟩
theorem TrW.to (h : TrW w base g cap xs qs) {p : Nat} (hp : p ≤ xs.length) : TrW w base g cap (xs.take p) (qs.take p) := by
  have hlp : (xs.take p).length = p := by rw [List.length_take, Nat.min_eq_left hp]
  have hlq : (qs.take p).length = p := by rw [List.length_take, h.ql, Nat.min_eq_left hp]
  have tk : ∀ {α : Type} {l : List α} {j : Nat} {x : α}, (l.take p)[j]? = some x → l[j]? = some x := by
    intro α l j x hx
    rw [List.getElem?_take] at hx
    split at hx
    · exact hx
    · cases hx
  refine ⟨?_, by rw [hlp, hlq], fun j x q hx hq => h.own j x q (tk hx) (tk hq), fun i j x y a q b hx hy ha hq k1 k2 => h.apart i j x y a q b (tk hx) (tk hy) (tk ha) (tk hq) k1 k2⟩
  rcases h.row with ⟨h1, h2⟩
  refine ⟨by rw [ncs_len (by rw [hlp, hlq])], ?_⟩
  rcases h2 with ⟨e, _⟩ | ⟨g', cap', cur, e, hb, hg, hnc, hcm, hcs, htake⟩
  · cases e
  · injection e with e1 e2 e3
    injection e1 with e1
    injection e1 with e4 e5
    subst e4; subst e3
    refine .inr ⟨g, cap, cur, rfl, hb, hg, by omega, hcm, hcs, ?_⟩
    rw [hlp]
    have e : ncs (xs.take p) (qs.take p) = (ncs xs qs).take (p * 6) := by
      symm
      refine ncs_ext (by rw [hlp, hlq]) (by rw [List.length_take, ncs_len h.ql, hlp]; omega) ?_
      intro j x q hx hq k hk
      have hjp : j < p := by
        rcases Nat.lt_or_ge j p with hh | hh
        · exact hh
        · rw [List.getElem?_eq_none (by omega)] at hx; cases hx
      rw [List.getElem?_take, if_pos (by omega), ncs_get (tk hx) (tk hq) hk]
    rw [e, ← htake, List.take_take, Nat.min_eq_left (by omega)]
theorem set_get {α : Type} {l : List α} {i j : Nat} {x y : α} (h : (l.set j y)[i]? = some x) : (i = j ∧ x = y) ∨ (i ≠ j ∧ l[i]? = some x) := by
  by_cases hij : i = j
  · subst hij
    have hl : i < l.length := by
      rcases Nat.lt_or_ge i l.length with hh | hh
      · exact hh
      · rw [List.getElem?_eq_none (by simpa using hh)] at h; cases h
    rw [List.getElem?_set_self hl] at h
    injection h with h
    exact .inl ⟨rfl, h.symm⟩
  · rw [List.getElem?_set_ne (by omega)] at h
    exact .inr ⟨hij, h⟩
/-- What the row holds has turned; a node is another one. -/
theorem TrW.put' {L : List Value} {j : Nat} {y : TN} {q : Value} (h : TrW w base g cap xs qs) (hw : ∀ (i : Nat) x p, i ≠ j → xs[i]? = some x → qs[i]? = some p → x.k = 2 → w'.ownsRow base 3 1 p x.u.length (x.u.map (.int .i64))) (hrow : w'.ownsRow base 25 6 (.slice (some ⟨g, 0, none⟩) xs.length cap) xs.length L)
    (hL : L = ncs (xs.set j y) (qs.set j q)) (hy : LsO w' base g y q) (hap : y.k = 2 → ∀ b, q.ownBlock = some b → ∀ (i : Nat) x p, xs[i]? = some x → qs[i]? = some p → i ≠ j → x.k = 2 → p.ownBlock ≠ some b) :
    TrW w' base g cap (xs.set j y) (qs.set j q) := by
  subst hL
  refine ⟨by simpa using hrow, by simpa using h.ql, fun i x p hx hp => ?_, fun i k x z p r b hx hz hp hr k1 k2 hb1 hb2 => ?_⟩
  · rcases set_get hx with ⟨rfl, rfl⟩ | ⟨hij, hx⟩
    · rcases set_get hp with ⟨_, rfl⟩ | ⟨hij, _⟩
      · exact hy
      · exact absurd rfl hij
    · rcases set_get hp with ⟨hh, _⟩ | ⟨_, hp⟩
      · exact absurd hh hij
      · exact ⟨fun hk => ⟨hw i x p hij hx hp hk, ((h.own i x p hx hp).1 hk).2⟩, (h.own i x p hx hp).2⟩
  · rcases set_get hx with ⟨rfl, rfl⟩ | ⟨hij, hx'⟩
    · rcases set_get hz with ⟨rfl, rfl⟩ | ⟨hkj, hz'⟩
      · rfl
      · rcases set_get hp with ⟨_, rfl⟩ | ⟨hh, _⟩
        · rcases set_get hr with ⟨hh, _⟩ | ⟨_, hr'⟩
          · exact absurd hh hkj
          · exact absurd hb2 (hap k1 b hb1 k z r hz' hr' hkj k2)
        · exact absurd rfl hh
    · rcases set_get hp with ⟨hh, _⟩ | ⟨_, hp'⟩
      · exact absurd hh hij
      · rcases set_get hz with ⟨rfl, rfl⟩ | ⟨hkj, hz'⟩
        · rcases set_get hr with ⟨_, rfl⟩ | ⟨hh, _⟩
          · exact absurd hb1 (hap k2 b hb2 i x p hx' hp' hij k1)
          · exact absurd rfl hh
        · rcases set_get hr with ⟨hh, _⟩ | ⟨_, hr'⟩
          · exact absurd hh hkj
          · exact h.apart i k x z p r b hx' hz' hp' hr' k1 k2 hb1 hb2
theorem TrW.put {L : List Value} {j : Nat} {y : TN} {q : Value} (h : TrW w base g cap xs qs) (hw : w.grownBy w' (some g)) (hrow : w'.ownsRow base 25 6 (.slice (some ⟨g, 0, none⟩) xs.length cap) xs.length L)
    (hL : L = ncs (xs.set j y) (qs.set j q)) (hy : LsO w' base g y q) (hap : y.k = 2 → ∀ b, q.ownBlock = some b → ∀ (i : Nat) x p, xs[i]? = some x → qs[i]? = some p → i ≠ j → x.k = 2 → p.ownBlock ≠ some b) :
    TrW w' base g cap (xs.set j y) (qs.set j q) :=
  h.put' (fun i x p _ hx hp hk => ((h.own i x p hx hp).1 hk).1.kept hw (.inr ((h.own i x p hx hp).1 hk).2)) hrow hL hy hap
theorem grown_setCell {a : World} {p : Addr} (h : a.grownBy w (some g)) (hp : p.block = g) (u : Value) : a.grownBy (w.setCell p u) (some g) :=
  ⟨h.os, h.tape, h.output, by simpa [World.setCell] using h.size, fun i hi hne => (Below.heap_setCell w p u i (by rintro rfl; exact hne (by rw [hp]))).trans (h.block i hi hne)⟩
/-- A node is stored that is no parent. -/
theorem TrW.node (h : TrW w base g cap xs qs) {j : Nat} (hj : j < xs.length) (y : TN) (A : Option Addr) (c : Nat) (hk : y.k ≠ 2) (hu : y.u = []) (hc : c ≤ maxLen) :
    TrW ((((((w.setCell ⟨g, j * 6, none⟩ (.int .i64 y.k)).setCell ⟨g, j * 6 + 1, none⟩ (.int .i64 y.i)).setCell ⟨g, j * 6 + 2, none⟩ (.int .i64 y.e)).setCell ⟨g, j * 6 + 3, none⟩ (.int .i64 y.s)).setCell ⟨g, j * 6 + 4, none⟩ (.int .i64 y.h)).setCell ⟨g, j * 6 + 5, none⟩ (.slice A 0 c)) base g cap (xs.set j y) (qs.set j (.slice A 0 c)) := by
  have g1 := grown_setCell (World.grownBy.refl w (some g)) (p := ⟨g, j * 6, none⟩) rfl (.int .i64 y.k)
  have g2 := grown_setCell g1 (p := ⟨g, j * 6 + 1, none⟩) rfl (.int .i64 y.i)
  have g3 := grown_setCell g2 (p := ⟨g, j * 6 + 2, none⟩) rfl (.int .i64 y.e)
  have g4 := grown_setCell g3 (p := ⟨g, j * 6 + 3, none⟩) rfl (.int .i64 y.s)
  have g5 := grown_setCell g4 (p := ⟨g, j * 6 + 4, none⟩) rfl (.int .i64 y.h)
  have g6 := grown_setCell g5 (p := ⟨g, j * 6 + 5, none⟩) rfl (.slice A 0 c)
  have r1 := (h.row.stored (j * 6) (.int .i64 y.k)).1
  have r2 := (r1.stored (j * 6 + 1) (.int .i64 y.i)).1
  have r3 := (r2.stored (j * 6 + 2) (.int .i64 y.e)).1
  have r4 := (r3.stored (j * 6 + 3) (.int .i64 y.s)).1
  have r5 := (r4.stored (j * 6 + 4) (.int .i64 y.h)).1
  exact h.put g6 (r5.stored (j * 6 + 5) (.slice A 0 c)).1 (ncs_set h.ql hj y _) ⟨fun hh => absurd hh hk, fun _ => ⟨hu, A, c, rfl, hc⟩⟩ (fun hh => absurd hh hk)
/-- A parent's list is another one. -/
theorem TrW.list (h : TrW w base g cap xs qs) {j : Nat} {x : TN} (hx : xs[j]? = some x) (u : List Int) (q : Value) (hk : x.k = 2) (hq : w.ownsRow base 3 1 q u.length (u.map (.int .i64))) (hg : q.ownBlock ≠ some g)
    (hap : ∀ b, q.ownBlock = some b → ∀ (i : Nat) y p, xs[i]? = some y → qs[i]? = some p → i ≠ j → y.k = 2 → p.ownBlock ≠ some b) :
    TrW (w.setCell ⟨g, j * 6 + 5, none⟩ q) base g cap (xs.set j { x with u := u }) (qs.set j q) := by
  have hj : j < xs.length := (List.getElem?_eq_some_iff.1 hx).1
  have hp : qs[j]? = some (qs[j]'(by rw [h.ql]; exact hj)) := List.getElem?_eq_getElem _
  have g1 := grown_setCell (World.grownBy.refl w (some g)) (p := ⟨g, j * 6 + 5, none⟩) rfl q
  refine h.put g1 (h.row.stored (j * 6 + 5) q).1 (ncs_set1 (d := 5) h.ql hx hp (by omega) q rfl) ⟨fun _ => ⟨hq.kept g1 (.inr hg), hg⟩, fun hh => absurd hk hh⟩ (fun _ => hap)
/-- A parent's list has turned in its row (or lies in a new one), and is stored. -/
theorem TrW.list' {w2 : World} (h : TrW w base g cap xs qs) {j : Nat} {x : TN} {p : Value} (hx : xs[j]? = some x) (hp : qs[j]? = some p) (u : List Int) (q : Value) (hk : x.k = 2) (hg2 : w.grownBy w2 p.ownBlock) (hq : w2.ownsRow base 3 1 q u.length (u.map (.int .i64)))
    (hnew : q.ownBlock = p.ownBlock ∨ q.ownBlock = some w.heap.size) : TrW (w2.setCell ⟨g, j * 6 + 5, none⟩ q) base g cap (xs.set j { x with u := u }) (qs.set j q) := by
  have hpg := ((h.own j x p hx hp).1 hk).2
  have hqg : q.ownBlock ≠ some g := by
    rcases hnew with e | e <;> rw [e]
    · exact hpg
    · intro e2; injection e2 with e2; have := h.lt.2; omega
  have g1 := grown_setCell (World.grownBy.refl w2 (some g)) (p := ⟨g, j * 6 + 5, none⟩) rfl q
  have r2 : w2.ownsRow base 25 6 (.slice (some ⟨g, 0, none⟩) xs.length cap) xs.length (ncs xs qs) := h.row.kept hg2 (.inr fun e => hpg e.symm)
  refine h.put' (fun i y r hij hy hr hk2 => ?_) (r2.stored (j * 6 + 5) q).1 (ncs_set1 (d := 5) h.ql hx hp (by omega) q rfl) ⟨fun _ => ⟨hq.kept g1 (.inr hqg), hqg⟩, fun hh => absurd hk hh⟩ (fun _ b hb i y r hy hr hij hk2 e => ?_)
  · obtain ⟨o1, o2⟩ := (h.own i y r hy hr).1 hk2
    have hne : r.ownBlock = none ∨ r.ownBlock ≠ p.ownBlock := by
      rcases hb : r.ownBlock with _ | b
      · exact .inl rfl
      · exact .inr fun e => hij (h.apart i j y x r p b hy hx hr hp hk2 hk hb e.symm)
    exact (o1.kept hg2 hne).kept g1 (.inr o2)
  · rcases hnew with e2 | e2
    · exact hij (h.apart i j y x r p b hy hx hr hp hk2 hk e (e2.symm.trans hb))
    · rw [e2] at hb
      injection hb with hb
      have := (((h.own i y r hy hr).1 hk2).1.lt b e).2
      omega
end
end Go.KK
