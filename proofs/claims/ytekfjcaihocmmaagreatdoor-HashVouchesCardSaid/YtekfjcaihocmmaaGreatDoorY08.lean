import Derived.Test.YtekfjcaihocmmaaGreatDoorY02
import Derived.Test.YtekfjcaihocmmaaGreatDoorRows
import Derived.Test.YtekfjcaihocmmaaGreatDoorY07
import Derived.Test.YtekfjcaihocmmaaGreatDoorY04
import Derived.Laws.EntriesVeiled
import Derived.Deep.QuietTactic
import Derived.BigQuiet
import Derived.Deep.RegionWith
import Derived.Deep.RegionLaw
import Derived.Lib.AppendZerosOnto
/- A tree that is the call's own: a row of nodes that may be written, whose parents' lists are rows of their own. -/
namespace Go.KK
open Go.RowKit
set_option linter.unusedVariables false
set_option linter.unusedSimpArgs false

theorem ncs_ext {L : List Value} {xs : List TN} {qs : List Value} (hq : qs.length = xs.length) (hl : L.length = xs.length * 6)
    (h : ∀ (j : Nat) x q, xs[j]? = some x → qs[j]? = some q → ∀ k, k < 6 → L[j * 6 + k]? = (x.cells q)[k]?) : L = ncs xs qs := by
  apply List.ext_getElem?
  intro i
  by_cases hi : i < xs.length * 6
  · have hx : xs[i / 6]? = some (xs[i / 6]'(by omega)) := List.getElem?_eq_getElem _
    have hqq : qs[i / 6]? = some (qs[i / 6]'(by omega)) := List.getElem?_eq_getElem _
    have h1 := h _ _ _ hx hqq (i % 6) (Nat.mod_lt _ (by omega))
    have h2 := ncs_get hx hqq (Nat.mod_lt i (show 0 < 6 by omega))
    rw [show i / 6 * 6 + i % 6 = i by omega] at h1 h2
    rw [h1, h2]
  · rw [List.getElem?_eq_none (by omega), List.getElem?_eq_none (by rw [ncs_len hq]; omega)]

/-- One cell of a node is stored. -/
theorem ncs_set1 {xs : List TN} {qs : List Value} (hq : qs.length = xs.length) {j d : Nat} {x y : TN} {p q : Value} (hx : xs[j]? = some x) (hp : qs[j]? = some p) (hd : d < 6) (v : Value)
    (h : (x.cells p).set d v = y.cells q) : (ncs xs qs).set (j * 6 + d) v = ncs (xs.set j y) (qs.set j q) := by
  have hj : j < xs.length := (List.getElem?_eq_some_iff.1 hx).1
  refine ncs_ext (by simpa using hq) (by simp [ncs_len hq]) ?_
  intro i x' p' hx' hp' k hk
  have hlen : (ncs xs qs).length = xs.length * 6 := ncs_len hq
  by_cases hij : i = j
  · subst hij
    rw [List.getElem?_set_self (by omega)] at hx' hp'
    injection hx' with hx'; injection hp' with hp'
    subst hx'; subst hp'
    rw [← h]
    by_cases hkd : k = d
    · subst hkd
      rw [List.getElem?_set_self (by omega), List.getElem?_set_self (by simp [TN.cells]; omega)]
    · rw [List.getElem?_set_ne (by omega), List.getElem?_set_ne (by omega), ncs_get hx hp hk]
  · rw [List.getElem?_set_ne (by omega)] at hx' hp'
    rw [← ncs_get hx' hp' hk, List.getElem?_set_ne (by omega)]

/-- A node's list, in a tree of the call's own: a parent's is a row of its own; all others' are empty. -/
def LsO (w : World) (base g : Nat) (x : TN) (q : Value) : Prop :=
  (x.k = 2 → w.ownsRow base 3 1 q x.u.length (x.u.map (.int .i64)) ∧ q.ownBlock ≠ some g) ∧ (x.k ≠ 2 → x.u = [] ∧ ∃ A c, q = .slice A 0 c ∧ c ≤ maxLen)
structure TrW (w : World) (base g cap : Nat) (xs : List TN) (qs : List Value) : Prop where
  row : w.ownsRow base 37 6 (.slice (some ⟨g, 0, none⟩) xs.length cap) xs.length (ncs xs qs)
  ql : qs.length = xs.length
  own : ∀ (j : Nat) x q, xs[j]? = some x → qs[j]? = some q → LsO w base g x q
  apart : ∀ (i j : Nat) x y p q b, xs[i]? = some x → xs[j]? = some y → qs[i]? = some p → qs[j]? = some q → x.k = 2 → y.k = 2 → p.ownBlock = some b → q.ownBlock = some b → i = j

theorem LsO.in1 {w : World} {base g : Nat} {x : TN} {q : Value} (h : LsO w base g x q) : In1 w q x.u := by
  by_cases hk : x.k = 2
  · obtain ⟨A, c, e, hs⟩ := SlA.owned (h.1 hk).1
    exact ⟨A, c, e, hs⟩
  · obtain ⟨hu, A, c, e, hc⟩ := h.2 hk
    rw [hu]
    exact ⟨A, c, e, SlA.zero _ _ _ _ hc⟩
theorem LsO.grown {w w' : World} {base g : Nat} {x : TN} {q : Value} {r : Option Nat} (h : LsO w base g x q) (hg : w.grownBy w' r) (hr : x.k = 2 → q.ownBlock = none ∨ q.ownBlock ≠ r) : LsO w' base g x q :=
  ⟨fun hk => ⟨(h.1 hk).1.kept hg (hr hk), (h.1 hk).2⟩, h.2⟩

section
variable {w w' : World} {base g cap : Nat} {xs : List TN} {qs : List Value}
theorem TrW.tr (h : TrW w base g cap xs qs) : Tr w (some ⟨g, 0, none⟩) xs.length cap xs := by
  refine ⟨qs, h.ql, (SlA.of_own h.row).2, fun j x q hx hq => (h.own j x q hx hq).in1⟩
theorem TrW.lt (h : TrW w base g cap xs qs) : base ≤ g ∧ g < w.heap.size := h.row.lt g rfl
/-- Another row turned, or new blocks. -/
theorem TrW.grown {r : Option Nat} (h : TrW w base g cap xs qs) (hg : w.grownBy w' r) (hr : r ≠ some g) (hrq : ∀ (j : Nat) x q, xs[j]? = some x → qs[j]? = some q → x.k = 2 → q.ownBlock = none ∨ q.ownBlock ≠ r) : TrW w' base g cap xs qs :=
  ⟨h.row.kept hg (.inr (by simpa [Value.ownBlock] using fun e => hr e.symm)), h.ql, fun j x q hx hq => (h.own j x q hx hq).grown hg (hrq j x q hx hq), h.apart⟩
theorem TrW.ext (h : TrW w base g cap xs qs) (hb : Below w.heap.size w w') : TrW w' base g cap xs qs :=
  h.grown (grown_of_below hb none) (by simp) (fun j x q _ _ _ => by cases q.ownBlock <;> simp)
theorem TrW.alloc (h : TrW w base g cap xs qs) (o : Obj) : TrW (w.alloc o) base g cap xs qs := h.ext ((Below.refl _ _).alloc (Nat.le_refl _) o)
theorem TrW.drew (h : TrW w base g cap xs qs) : TrW w.drew base g cap xs qs := ⟨h.row, h.ql, h.own, h.apart⟩
theorem TrW.drewN (h : TrW w base g cap xs qs) (k : Nat) : TrW (w.drewN k) base g cap xs qs := ⟨h.row, h.ql, h.own, h.apart⟩
theorem set_get {α : Type} {l : List α} {i j : Nat} {x y : α} (h : (l.set j y)[i]? = some x) : (i = j ∧ x = y) ∨ (i ≠ j ∧ l[i]? = some x) := by
  by_cases hij : i = j
  · subst hij
    have hl : i < l.length := by
      rcases Nat.lt_or_ge i l.length with hh | hh
      · exact hh
      · rw [List.getElem?_eq_none (by simpa using hh)] at h; cases h
    rw [List.getElem?_set_self hl] at h
    injection h with h
    exact .inl ⟨rfl, h.symm⟩
  · rw [List.getElem?_set_ne (by omega)] at h
    exact .inr ⟨hij, h⟩
/-- What the row holds has turned; a node is another one. -/
theorem TrW.put' {L : List Value} {j : Nat} {y : TN} {q : Value} (h : TrW w base g cap xs qs) (hw : ∀ (i : Nat) x p, i ≠ j → xs[i]? = some x → qs[i]? = some p → x.k = 2 → w'.ownsRow base 3 1 p x.u.length (x.u.map (.int .i64))) (hrow : w'.ownsRow base 37 6 (.slice (some ⟨g, 0, none⟩) xs.length cap) xs.length L)
    (hL : L = ncs (xs.set j y) (qs.set j q)) (hy : LsO w' base g y q) (hap : y.k = 2 → ∀ b, q.ownBlock = some b → ∀ (i : Nat) x p, xs[i]? = some x → qs[i]? = some p → i ≠ j → x.k = 2 → p.ownBlock ≠ some b) :
    TrW w' base g cap (xs.set j y) (qs.set j q) := by
  subst hL
  refine ⟨by simpa using hrow, by simpa using h.ql, fun i x p hx hp => ?_, fun i k x z p r b hx hz hp hr k1 k2 hb1 hb2 => ?_⟩
  · rcases set_get hx with ⟨rfl, rfl⟩ | ⟨hij, hx⟩
    · rcases set_get hp with ⟨_, rfl⟩ | ⟨hij, _⟩
      · exact hy
      · exact absurd rfl hij
    · rcases set_get hp with ⟨hh, _⟩ | ⟨_, hp⟩
      · exact absurd hh hij
      · exact ⟨fun hk => ⟨hw i x p hij hx hp hk, ((h.own i x p hx hp).1 hk).2⟩, (h.own i x p hx hp).2⟩
  · rcases set_get hx with ⟨rfl, rfl⟩ | ⟨hij, hx'⟩
    · rcases set_get hz with ⟨rfl, rfl⟩ | ⟨hkj, hz'⟩
      · rfl
      · rcases set_get hp with ⟨_, rfl⟩ | ⟨hh, _⟩
        · rcases set_get hr with ⟨hh, _⟩ | ⟨_, hr'⟩
          · exact absurd hh hkj
          · exact absurd hb2 (hap k1 b hb1 k z r hz' hr' hkj k2)
        · exact absurd rfl hh
    · rcases set_get hp with ⟨hh, _⟩ | ⟨_, hp'⟩
      · exact absurd hh hij
      · rcases set_get hz with ⟨rfl, rfl⟩ | ⟨hkj, hz'⟩
        · rcases set_get hr with ⟨_, rfl⟩ | ⟨hh, _⟩
          · exact absurd hb1 (hap k2 b hb2 i x p hx' hp' hij k1)
          · exact absurd rfl hh
        · rcases set_get hr with ⟨hh, _⟩ | ⟨_, hr'⟩
          · exact absurd hh hkj
          · exact h.apart i k x z p r b hx' hz' hp' hr' k1 k2 hb1 hb2
theorem TrW.put {L : List Value} {j : Nat} {y : TN} {q : Value} (h : TrW w base g cap xs qs) (hw : w.grownBy w' (some g)) (hrow : w'.ownsRow base 37 6 (.slice (some ⟨g, 0, none⟩) xs.length cap) xs.length L)
    (hL : L = ncs (xs.set j y) (qs.set j q)) (hy : LsO w' base g y q) (hap : y.k = 2 → ∀ b, q.ownBlock = some b → ∀ (i : Nat) x p, xs[i]? = some x → qs[i]? = some p → i ≠ j → x.k = 2 → p.ownBlock ≠ some b) :
    TrW w' base g cap (xs.set j y) (qs.set j q) :=
  h.put' (fun i x p _ hx hp hk => ((h.own i x p hx hp).1 hk).1.kept hw (.inr ((h.own i x p hx hp).1 hk).2)) hrow hL hy hap
theorem grown_setCell {a : World} {p : Addr} (h : a.grownBy w (some g)) (hp : p.block = g) (u : Value) : a.grownBy (w.setCell p u) (some g) :=
  ⟨h.os, h.tape, h.output, by simpa [World.setCell] using h.size, fun i hi hne => (Below.heap_setCell w p u i (by rintro rfl; exact hne (by rw [hp]))).trans (h.block i hi hne)⟩
end
end Go.KK

/- ratchet: whether a tree may be, as one answer; who is in it; a tree copied. -/
namespace Go.Proofs.YtekfjcaihocmmaaGreatDoor
open Go.RowKit Go.KK
set_option linter.unusedVariables false
set_option linter.unusedSimpArgs false

def chkE (xs : List TN) : Int := if chkB xs then 0 else 1
theorem chk_any (A : Option Addr) (n c : Nat) (xs : List TN) (w : World) (h : Tr w A n c xs) (hnm : n ≤ 600) (hT : Tab w) (hu : Shorts xs) :
    Calls Tryz.prog 116 #[.slice A n c] w fun e w' => e = .returned (.int .i64 (chkE xs)) ∧ Below w.heap.size w w' := by
  have hl := h.len
  rcases hf : fullN (lvN n) with _ | _
  · have hc : chkE xs = 1 := by unfold chkE chkB; rw [hl, hf]; rfl
    rw [hc]; exact check_no A n c xs w h hnm (.inl hf)
  · by_cases hn : 2 * (lvN n : Int) - 1 = n
    · rcases hh : halfB xs with _ | _
      · have hc : chkE xs = allR xs := by
          unfold chkE chkB allR
          rw [hl, hf, hh, hn]
          simp
        rw [hc]; exact check_go A n c xs w h hnm hf hn hh hT hu
      · have hc : chkE xs = 1 := by unfold chkE chkB; rw [hh]; simp
        rw [hc]; exact check_no A n c xs w h hnm (.inr (.inr ⟨hf, hn, hh⟩))
    · have hc : chkE xs = 1 := by
        unfold chkE chkB
        rw [hl, show (2 * (lvN n : Int) - 1 == (n : Int)) = false from beq_eq_false_iff_ne.2 hn]
        simp
      rw [hc]; exact check_no A n c xs w h hnm (.inr (.inl ⟨hf, hn⟩))
theorem chk_full {xs : List TN} (h : chkB xs = true) : fullN (lvN xs.length) = true ∧ 2 * (lvN xs.length : Int) - 1 = (xs.length : Int) ∧ halfB xs = false ∧ ∀ k, k < xs.length → okAt xs k = true := by
  unfold chkB at h
  simp only [Bool.and_eq_true, beq_iff_eq, Bool.not_eq_true', List.all_eq_true, List.mem_range] at h
  exact ⟨h.1.1.1, h.1.1.2, h.1.2, h.2⟩

end Go.Proofs.YtekfjcaihocmmaaGreatDoor

/- layer 9: whether a tree's terms are terms. -/
namespace Go.Proofs.YtekfjcaihocmmaaGreatDoor
open Go.RowKit Go.KK Go.Shelf Go.Maps
set_option linter.unusedVariables false
set_option linter.unusedSimpArgs false

set_option maxHeartbeats 1000000 in
theorem ix_tho (p : Int → Bool) {q1 : Value} (A : Option Addr) (n c : Nat) (l : List Int) (W : World) (hl : SlA W 1 A n c (l.map (.int .i64))) (hn : n ≤ 2147483648)
    (hcl : ∀ W', Below W.heap.size W W' → ∀ x ∈ l, Calls Tryz.prog 149 #[.int .i64 x, q1] W' fun e w' => e = .returned (.bool (p x)) ∧ Below W'.heap.size W' w') :
    Calls Tryz.prog 218 #[.slice A n c, .func (.func 149) #[] #[q1]] W fun e w' => (∃ k : Int, e = .returned (.int .i64 k) ∧ decide (0 ≤ k) = l.any p) ∧ Below W.heap.size W w' := by
  have HS := hid hl; have HL := hid hl.lenI; have HCL := hid hcl
  clear hl hcl
  go_enter Tryz.func218, Tryz.ntmps218
  go_wp2
  go_loopw [8] (fun i wr => ∃ j : Nat, i = .int .i64 j ∧ j ≤ n ∧ Hid (l.any p = (l.drop j).any p) ∧ Hid (Below W.heap.size W wr)) (fun i _ => n - (intOf i).toNat)
  case atStart => exact ⟨0, rfl, by omega, hid rfl, hid (Below.refl _ _)⟩
  case round =>
    obtain ⟨j, hi, hj, HJ, HB⟩ := hrel
    subst hi
    by_cases hlt : j < n
    · obtain ⟨b1, o, z, rfl, hz, hc⟩ := (HS.out.ext HB.out).elemI hlt
      have hlt' : (j : Int) < (n : Int) := by omega
      have HD := hid (any_step (p := p) hz)
      have HC := hid (HCL.out wr HB.out z (List.mem_of_getElem? hz))
      clear hz
      rcases hh : p z with _ | _
      · have HF := hid (show l.any p = (l.drop (j + 1)).any p by rw [HJ.out, HD.out, hh]; rfl)
        rw [hh] at HC
        go_wp2_with (go_at_call 149; refine HC.out.mono ?_; rintro e w' ⟨rfl, hb⟩; have HB2 := hid (HB.out.trans (hb.mono HB.out.size)); clear hb)
        go_roundw
        case rel => exact ⟨j + 1, by go_num, by omega, HF, HB2⟩
        case measure => simp [intOf]; omega
      · have HF := hid (show l.any p = true by rw [HJ.out, HD.out, hh]; rfl)
        rw [hh] at HC
        go_wp2_with (go_at_call 149; refine HC.out.mono ?_; rintro e w' ⟨rfl, hb⟩; have HB2 := hid (HB.out.trans (hb.mono HB.out.size)); clear hb)
        go_ret
        exact ⟨⟨j, rfl, by rw [HF.out, decide_eq_true (by omega)]⟩, HB2.out⟩
    · have HF := hid (show l.any p = false by rw [HJ.out, List.drop_of_length_le (by have := HL.out; omega)]; rfl)
      go_wp2
      go_ret
      exact ⟨⟨-1, rfl, by rw [HF.out]; rfl⟩, HB.out⟩
theorem cf_tho (p : Int → Bool) {q1 : Value} (A : Option Addr) (n c : Nat) (l : List Int) (W : World) (hl : SlA W 1 A n c (l.map (.int .i64))) (hn : n ≤ 2147483648)
    (hcl : ∀ W', Below W.heap.size W W' → ∀ x ∈ l, Calls Tryz.prog 149 #[.int .i64 x, q1] W' fun e w' => e = .returned (.bool (p x)) ∧ Below W'.heap.size W' w') :
    Calls Tryz.prog 148 #[.slice A n c, .func (.func 149) #[] #[q1]] W fun e w' => e = .returned (.bool (l.any p)) ∧ Below W.heap.size W w' := by
  have HX := hid (ix_tho p A n c l W hl hn hcl)
  clear hl hcl
  go_enter Tryz.func148, Tryz.ntmps148
  go_wp2_with fail
  refine HX.out.mono ?_
  rintro e w' ⟨⟨k, rfl, hk⟩, hw⟩
  have HK := hid hk; have HW := hid hw
  clear hk hw
  go_wp2
  go_ret
  exact ⟨by rw [← HK.out]; rfl, HW.out⟩
set_option maxHeartbeats 1000000 in
theorem ix_thn (p : TN → Bool) {q1 : Value} (A : Option Addr) (n c : Nat) (t : List TN) (W : World) (hl : Tr W A n c t) (hn : n ≤ 2147483648)
    (hcl : ∀ W', Below W.heap.size W W' → ∀ x ∈ t, ∀ A2 c2, SlA W' 1 A2 x.u.length c2 (x.u.map (.int .i64)) → Calls Tryz.prog 150 #[tnV x (.slice A2 x.u.length c2), q1] W' fun e w' => e = .returned (.bool (p x)) ∧ Below W'.heap.size W' w') :
    Calls Tryz.prog 196 #[.slice A n c, .func (.func 150) #[] #[q1]] W fun e w' => (∃ k : Int, e = .returned (.int .i64 k) ∧ decide (0 ≤ k) = t.any p) ∧ Below W.heap.size W w' := by
  have HS := hid hl; have HL := hid hl.len; have HCL := hid hcl
  clear hl hcl
  unfold tnV at HCL
  go_enter Tryz.func196, Tryz.ntmps196
  go_wp2
  go_loopw [8] (fun i wr => ∃ j : Nat, i = .int .i64 j ∧ j ≤ n ∧ Hid (t.any p = (t.drop j).any p) ∧ Hid (Below W.heap.size W wr)) (fun i _ => n - (intOf i).toNat)
  case atStart => exact ⟨0, rfl, by omega, hid rfl, hid (Below.refl _ _)⟩
  case round =>
    obtain ⟨j, hi, hj, HJ, HB⟩ := hrel
    subst hi
    by_cases hlt : j < n
    · obtain ⟨b, o, x, A2, c2, rfl, hx, d0, d1, d2, d3, d4, d5, hsx⟩ := (HS.out.ext HB.out).at hlt
      have hlt' : (j : Int) < (n : Int) := by omega
      have HD := hid (any_step (p := p) hx)
      have HC := hid (HCL.out wr HB.out x (List.mem_of_getElem? hx) A2 c2 hsx)
      clear hx hsx
      rcases hh : p x with _ | _
      · have HF := hid (show t.any p = (t.drop (j + 1)).any p by rw [HJ.out, HD.out, hh]; rfl)
        rw [hh] at HC
        clear hh
        go_wp2_with (go_at_call 150; refine HC.out.mono ?_; rintro e w' ⟨rfl, hb⟩; have HB2 := hid (HB.out.trans (hb.mono HB.out.size)); clear hb)
        go_roundw
        case rel => exact ⟨j + 1, by go_num, by omega, HF, HB2⟩
        case measure => simp [intOf]; omega
      · have HF := hid (show t.any p = true by rw [HJ.out, HD.out, hh]; rfl)
        rw [hh] at HC
        clear hh
        go_wp2_with (go_at_call 150; refine HC.out.mono ?_; rintro e w' ⟨rfl, hb⟩; have HB2 := hid (HB.out.trans (hb.mono HB.out.size)); clear hb)
        go_ret
        exact ⟨⟨j, rfl, by rw [HF.out, decide_eq_true (by omega)]⟩, HB2.out⟩
    · have HF := hid (show t.any p = false by rw [HJ.out, List.drop_of_length_le (by have := HL.out; omega)]; rfl)
      go_wp2
      go_ret
      exact ⟨⟨-1, rfl, by rw [HF.out]; rfl⟩, HB.out⟩
theorem cf_thn (p : TN → Bool) {q1 : Value} (A : Option Addr) (n c : Nat) (t : List TN) (W : World) (hl : Tr W A n c t) (hn : n ≤ 2147483648)
    (hcl : ∀ W', Below W.heap.size W W' → ∀ x ∈ t, ∀ A2 c2, SlA W' 1 A2 x.u.length c2 (x.u.map (.int .i64)) → Calls Tryz.prog 150 #[tnV x (.slice A2 x.u.length c2), q1] W' fun e w' => e = .returned (.bool (p x)) ∧ Below W'.heap.size W' w') :
    Calls Tryz.prog 117 #[.slice A n c, .func (.func 150) #[] #[q1]] W fun e w' => e = .returned (.bool (t.any p)) ∧ Below W.heap.size W w' := by
  have HX := hid (ix_thn p A n c t W hl hn hcl)
  clear hl hcl
  go_enter Tryz.func117, Tryz.ntmps117
  go_wp2_with fail
  refine HX.out.mono ?_
  rintro e w' ⟨⟨k, rfl, hk⟩, hw⟩
  have HK := hid hk; have HW := hid hw
  clear hk hw
  go_wp2
  go_ret
  exact ⟨by rw [← HK.out]; rfl, HW.out⟩
/-- A node that names what is no term. -/
def thnB (X : List ND) (n : TN) : Bool := (n.k != 0 && [n.e, n.h].any (fun x => !hasB X x)) || (n.k == 1 && [n.i, n.s].any (fun x => !hasB X x))
/-- A tree that may be, whose terms are terms. -/
def trmB (X : List ND) (xs : List TN) : Bool := chkB xs && !xs.any (thnB X)
section
variable {W : World} {sa b : Nat} {X : List ND}
theorem tho_any (h : ArV W 169 sa X) (hb : W.cell? ⟨b, 0, none⟩ = some (.pointer (some ⟨sa, 0, none⟩))) (x : Int) :
    Calls Tryz.prog 149 #[.int .i64 x, .pointer (some ⟨b, 0, none⟩)] W fun e w' => e = .returned (.bool (!hasB X x)) ∧ Below W.heap.size W w' := by
  have H := hid h
  clear h
  by_cases h0 : x < 0
  · have HF := hid (show hasB X x = false by unfold hasB; rw [decide_eq_false (by omega : ¬ 0 ≤ x)]; rfl)
    rw [HF.out]
    go_enter Tryz.func149, Tryz.ntmps149
    go_wp2_with fail
    go_ret
    exact ⟨rfl, Below.refl _ _⟩
  · have HF := hid (show (!hasB X x) = decide ((X.length : Int) ≤ x) by
      unfold hasB
      rw [decide_eq_true (by omega : 0 ≤ x), Bool.true_and, ← decide_not]
      exact decide_eq_decide.2 (by omega))
    rw [HF.out]
    go_enter Tryz.func149, Tryz.ntmps149
    go_wp2_with fail
    refine (len_any sa X _ H.out).mono ?_
    rintro e w2 ⟨rfl, hw⟩
    subst hw
    go_wp2_with fail
    go_ret
    exact ⟨rfl, Below.refl _ _⟩
/-- out, of a row. -/
theorem tho1_any (h : ArV W 169 sa X) (hb : W.cell? ⟨b, 0, none⟩ = some (.pointer (some ⟨sa, 0, none⟩))) {A : Option Addr} {n c : Nat} {l : List Int} (hl : SlA W 1 A n c (l.map (.int .i64))) (hn : n ≤ 1000) :
    Calls Tryz.prog 147 #[.slice A n c, .pointer (some ⟨b, 0, none⟩)] W fun e w' => e = .returned (.bool (l.any fun x => !hasB X x)) ∧ Below W.heap.size W w' := by
  have HC := hid (cf_tho (fun x => !hasB X x) (q1 := .pointer (some ⟨b, 0, none⟩)) A n c l W hl (by omega) fun U hU x _ => tho_any (h.ext hU) ((hU.cell (p := ⟨b, 0, none⟩) (block_lt_of_cell hb)).trans hb) x)
  clear h hb hl
  generalize l.any (fun x => !hasB X x) = r at *
  go_enter Tryz.func147, Tryz.ntmps147
  go_wp2_with fail
  refine HC.out.mono ?_
  rintro e w' ⟨rfl, hw⟩
  have HW := hid hw
  clear hw
  go_wp2_with fail
  go_ret
  exact ⟨rfl, HW.out⟩
set_option maxHeartbeats 4000000 in
set_option maxRecDepth 100000 in
theorem thn_any {b5 : Nat} (h : ArV W 169 sa X) (hb : W.cell? ⟨b, 0, none⟩ = some (.pointer (some ⟨sa, 0, none⟩))) (h5 : W.cell? ⟨b5, 0, none⟩ = some (.func (.func 147) #[] #[.pointer (some ⟨b, 0, none⟩)])) (x : TN) (q : Value) :
    Calls Tryz.prog 150 #[tnV x q, .pointer (some ⟨b5, 0, none⟩)] W fun e w' => e = .returned (.bool (thnB X x)) ∧ Below W.heap.size W w' := by
  have HO := hid (fun (U : World) (hU : Below W.heap.size W U) (y z : Int) => tho1_any ((h.ext hU).ext ((Below.refl U.heap.size U).alloc (Nat.le_refl _) (.cells #[.int .i64 y, .int .i64 z] 3))) (((((Below.refl U.heap.size U).alloc (Nat.le_refl _) (.cells #[.int .i64 y, .int .i64 z] 3)).cell (p := ⟨b, 0, none⟩) (Nat.lt_of_lt_of_le (block_lt_of_cell hb) hU.size)).trans (hU.cell (p := ⟨b, 0, none⟩) (block_lt_of_cell hb))).trans hb) (l := [y, z]) (sla_row #[.int .i64 y, .int .i64 z] (by unfold maxLen; simp)) (by simp))
  have b1 : Below W.heap.size W (W.alloc (.cells #[.int .i64 x.k, .int .i64 x.i, .int .i64 x.e, .int .i64 x.s, .int .i64 x.h, q] 37)) := (Below.refl _ _).alloc (Nat.le_refl _) _
  have HP := hid (And.intro b1 (show (W.alloc (.cells #[.int .i64 x.k, .int .i64 x.i, .int .i64 x.e, .int .i64 x.s, .int .i64 x.h, q] 37)).heap[W.heap.size]? = some (tnC x q) from heap_alloc_new W _))
  have H5 := hid h5
  have HF := hid (show thnB X x = ((x.k != 0 && [x.e, x.h].any (fun x => !hasB X x)) || (x.k == 1 && [x.i, x.s].any (fun x => !hasB X x))) from rfl)
  clear h hb h5 b1
  unfold tnV at *
  obtain ⟨r, hr⟩ : ∃ r, r = thnB X x := ⟨_, rfl⟩
  rw [← hr]
  have HR := hid (hr.trans HF.out)
  clear hr
  generalize ha1 : [x.e, x.h].any (fun x => !hasB X x) = a1 at *
  generalize ha2 : [x.i, x.s].any (fun x => !hasB X x) = a2 at *
  have HA1 := hid ha1; have HA2 := hid ha2
  clear ha1 ha2 HF
  obtain ⟨xk, xi, xe, xs, xh, xu⟩ := x
  dsimp only at *
  go_enter Tryz.func150, Tryz.ntmps150
  go_upto_region 1 with fail
  obtain ⟨b6, hb6⟩ : ∃ b6, b6 = W.heap.size := ⟨_, rfl⟩
  rw [← hb6] at HP ⊢
  refine forget (R := fun V => Below b6 W V ∧ V.heap[b6]? = some (tnC ⟨xk, xi, xe, xs, xh, xu⟩ q)) ?_ HP.out
  clear HP
  rintro V ⟨hbl, hx⟩
  rw [hb6] at hbl
  have B1 := hid hbl; have HX := hid hx
  have g5 := (hbl.cell (p := ⟨b5, 0, none⟩) (block_lt_of_cell H5.out)).trans H5.out
  obtain ⟨x0, x1, x2, x3, x4, -⟩ := tn6 hx
  dsimp only at x0 x1 x2 x3 x4
  clear hbl hx
  have HB6 := hid hb6
  clear hb6
  have HO1 := hid (HO.out V B1.out xe xh)
  rw [HA1.out] at HO1
  by_cases h0 : xk = 0
  · subst h0
    have HE := hid (show r = false from by rw [HR.out]; rfl)
    clear HO1
    go_wp2_with fail
    go_ret
    exact ⟨by rw [HE.out]; rfl, B1.out⟩
  have h0' : (xk != 0) = true := bne_iff_ne.2 h0
  have HR1 := hid (show r = (a1 || (xk == 1 && a2)) from by rw [HR.out, h0', Bool.true_and])
  clear h0 HR
  rcases a1 with _ | _
  · by_cases h1 : xk = 1
    · subst h1
      have HE := hid (show r = a2 from by rw [HR1.out]; rfl)
      go_wp2_with fail
      refine HO1.out.mono ?_
      rintro e w6 ⟨rfl, b6'⟩
      have B6 := hid (B1.out.trans ((((Below.refl V.heap.size V).alloc (Nat.le_refl _) (.cells #[.int .i64 xe, .int .i64 xh] 3)).trans (b6'.mono (by simp))).mono B1.out.size))
      have BV := hid (((Below.refl V.heap.size V).alloc (Nat.le_refl _) (.cells #[.int .i64 xe, .int .i64 xh] 3)).trans (b6'.mono (by simp)))
      have k5 := (BV.out.cell (p := ⟨b5, 0, none⟩) (block_lt_of_cell g5)).trans g5
      obtain ⟨y0, y1, y2, y3, y4, -⟩ := tn6 ((BV.out.block _ (Array.getElem?_eq_some_iff.1 HX.out).1).trans HX.out)
      dsimp only at y0 y1 y2 y3 y4
      have HO2 := hid (HO.out w6 B6.out xi xs)
      rw [HA2.out] at HO2
      clear b6' HO1
      go_wp2_with fail
      refine HO2.out.mono ?_
      rintro e w7 ⟨rfl, b7⟩
      have B7 := hid (B6.out.trans ((((Below.refl w6.heap.size w6).alloc (Nat.le_refl _) (.cells #[.int .i64 xi, .int .i64 xs] 3)).trans (b7.mono (by simp))).mono B6.out.size))
      clear b7
      go_wp2_with fail
      go_ret
      exact ⟨by rw [HE.out]; rfl, B7.out⟩
    · have h1' : (xk == 1) = false := beq_eq_false_iff_ne.2 h1
      have HE := hid (show r = false from by rw [HR1.out, h1']; rfl)
      clear h1
      go_wp2_with fail
      refine HO1.out.mono ?_
      rintro e w6 ⟨rfl, b6'⟩
      have B6 := hid (B1.out.trans ((((Below.refl V.heap.size V).alloc (Nat.le_refl _) (.cells #[.int .i64 xe, .int .i64 xh] 3)).trans (b6'.mono (by simp))).mono B1.out.size))
      have BV := hid (((Below.refl V.heap.size V).alloc (Nat.le_refl _) (.cells #[.int .i64 xe, .int .i64 xh] 3)).trans (b6'.mono (by simp)))
      obtain ⟨y0, y1, y2, y3, y4, -⟩ := tn6 ((BV.out.block _ (Array.getElem?_eq_some_iff.1 HX.out).1).trans HX.out)
      dsimp only at y0 y1 y2 y3 y4
      clear b6' HO1
      go_wp2_with fail
      go_ret
      exact ⟨by rw [HE.out]; rfl, B6.out⟩
  · have HE := hid (show r = true from by rw [HR1.out]; rfl)
    go_wp2_with fail
    refine HO1.out.mono ?_
    rintro e w6 ⟨rfl, b6'⟩
    have B6 := hid (B1.out.trans ((((Below.refl V.heap.size V).alloc (Nat.le_refl _) (.cells #[.int .i64 xe, .int .i64 xh] 3)).trans (b6'.mono (by simp))).mono B1.out.size))
    clear b6' HO1
    go_wp2_with fail
    go_ret
    exact ⟨by rw [HE.out]; rfl, B6.out⟩
set_option maxHeartbeats 4000000 in
theorem thterms_any (h : ArV W 169 sa X) (hT : ∀ U, Below W.heap.size W U → Tab U) {A : Option Addr} {n c : Nat} {xs : List TN} (ht : Tr W A n c xs) (hn : n ≤ 600) (hu : Shorts xs) :
    Calls Tryz.prog 79 #[.pointer (some ⟨sa, 0, none⟩), .slice A n c] W fun e w' => e = .returned (.bool (trmB X xs)) ∧ Below W.heap.size W w' := by
  have b1 : Below W.heap.size W (W.alloc (.cells #[.pointer (some ⟨sa, 0, none⟩)] 26)) := (Below.refl _ _).alloc (Nat.le_refl _) _
  have b2 : Below W.heap.size W ((W.alloc (.cells #[.pointer (some ⟨sa, 0, none⟩)] 26)).alloc (.cells #[.func (.func 147) #[] #[.pointer (some ⟨W.heap.size, 0, none⟩)]] 203)) := b1.alloc (by simp) _
  have HP := hid (show Below W.heap.size W ((W.alloc (.cells #[.pointer (some ⟨sa, 0, none⟩)] 26)).alloc (.cells #[.func (.func 147) #[] #[.pointer (some ⟨W.heap.size, 0, none⟩)]] 203)) ∧ ((W.alloc (.cells #[.pointer (some ⟨sa, 0, none⟩)] 26)).alloc (.cells #[.func (.func 147) #[] #[.pointer (some ⟨W.heap.size, 0, none⟩)]] 203)).cell? ⟨W.heap.size, 0, none⟩ = some (.pointer (some ⟨sa, 0, none⟩)) ∧ ((W.alloc (.cells #[.pointer (some ⟨sa, 0, none⟩)] 26)).alloc (.cells #[.func (.func 147) #[] #[.pointer (some ⟨W.heap.size, 0, none⟩)]] 203)).cell? ⟨W.heap.size + 1, 0, none⟩ = some (.func (.func 147) #[] #[.pointer (some ⟨W.heap.size, 0, none⟩)]) from by
    refine ⟨b2, ?_, ?_⟩
    · rw [cell_of_row _ W.heap.size 0 _ _ (0, 0) ((((Below.refl _ _).alloc (Nat.le_refl _) _).block W.heap.size (by simp)).trans (heap_alloc_new W _))]; rfl
    · have := heap_alloc_new (W.alloc (.cells #[.pointer (some ⟨sa, 0, none⟩)] 26)) (.cells #[.func (.func 147) #[] #[.pointer (some ⟨W.heap.size, 0, none⟩)]] 203)
      rw [size_al] at this
      rw [cell_of_row _ (W.heap.size + 1) 0 _ _ (0, 0) this]; rfl)
  have HA := hid (fun (U : World) (hU : Below W.heap.size W U) => h.ext hU)
  have HTR := hid (fun (U : World) (hU : Below W.heap.size W U) => ht.ext hU)
  have HTB := hid hT; have HU := hid hu
  clear h hT ht hu b1 b2
  obtain ⟨r, hr⟩ : ∃ r, r = trmB X xs := ⟨_, rfl⟩
  rw [← hr]
  have HR := hid (show r = (chkB xs && !xs.any (thnB X)) from hr)
  clear hr
  go_enter Tryz.func79, Tryz.ntmps79
  go_upto_region 2 with fail
  try simp only [Nat.add_assoc, Nat.reduceAdd]
  obtain ⟨b2, hb2⟩ : ∃ b2, b2 = W.heap.size := ⟨_, rfl⟩
  obtain ⟨b5, hb5⟩ : ∃ b5, b5 = W.heap.size + 1 := ⟨_, rfl⟩
  rw [← hb5, ← hb2] at HP ⊢
  refine forget (R := fun V => Below b2 W V ∧ V.cell? ⟨b2, 0, none⟩ = some (.pointer (some ⟨sa, 0, none⟩)) ∧ V.cell? ⟨b5, 0, none⟩ = some (.func (.func 147) #[] #[.pointer (some ⟨b2, 0, none⟩)])) ?_ HP.out
  clear HP
  rintro V ⟨hb, h2, h5⟩
  rw [hb2] at hb
  have B1 := hid hb; have H2 := hid h2; have H5 := hid h5
  have HC := hid (chk_any A n c xs V (HTR.out V hb) hn (HTB.out V hb) HU.out)
  clear hb h2 h5 hb2 hb5
  unfold chkE at HC
  rcases hk : chkB xs with _ | _
  · have HE := hid (show r = false from by rw [HR.out, hk]; rfl)
    rw [hk] at HC
    clear hk
    go_wp2_with fail
    refine HC.out.mono ?_
    rintro e w6 ⟨rfl, b6⟩
    have B6 := hid (B1.out.trans (b6.mono B1.out.size))
    clear b6 HC
    go_wp2_with fail
    go_ret
    exact ⟨by rw [HE.out]; rfl, B6.out⟩
  · rw [hk] at HC
    have HE := hid (show r = !xs.any (thnB X) from by rw [HR.out, hk, Bool.true_and])
    clear hk
    go_wp2_with fail
    refine HC.out.mono ?_
    rintro e w6 ⟨rfl, b6⟩
    have B6 := hid (B1.out.trans (b6.mono B1.out.size))
    have HCF := hid (cf_thn (thnB X) (q1 := .pointer (some ⟨b5, 0, none⟩)) A n c xs w6 (HTR.out w6 B6.out) (by omega) fun U hU x _ A2 c2 _ =>
      thn_any (b := b2) ((HA.out w6 B6.out).ext hU) (((b6.trans (hU.mono b6.size)).cell (p := ⟨b2, 0, none⟩) (block_lt_of_cell H2.out)).trans H2.out) (((b6.trans (hU.mono b6.size)).cell (p := ⟨b5, 0, none⟩) (block_lt_of_cell H5.out)).trans H5.out) x _)
    clear b6 HC
    generalize xs.any (thnB X) = a at *
    go_wp2_with fail
    refine HCF.out.mono ?_
    rintro e w7 ⟨rfl, b7⟩
    have B7 := hid (B6.out.trans (b7.mono B6.out.size))
    clear b7 HCF
    go_wp2_with fail
    go_ret
    exact ⟨by rw [HE.out]; rfl, B7.out⟩
end
end Go.Proofs.YtekfjcaihocmmaaGreatDoor

/- layer 9: what a child says of a node. -/
namespace Go.Proofs.YtekfjcaihocmmaaGreatDoor
open Go.RowKit Go.KK Go.Shelf Go.Maps
set_option linter.unusedVariables false
set_option linter.unusedSimpArgs false

/-- A node's children. -/
def kidL (x : Nat) : List Int := if x % 2 = 0 then [] else [lfN x, rgN x]
theorem kid_two : ∀ x : Nat, x < 511 → x % 2 = 1 → 2 * (x : Int) - lfN x = rgN x ∧ 0 ≤ lfN x ∧ lfN x ≤ 510 ∧ 2 * (x : Int) - rgN x = lfN x := by decide +kernel
theorem kids_any (x : Nat) (w : World) (hx : x < 511) (hT : Tab w) :
    Calls Tryz.prog 81 #[.int .i64 x] w fun e w' => ∃ A m c, e = .returned (.slice A m c) ∧ m ≤ 2 ∧ SlA w' 1 A m c ((kidL x).map (.int .i64)) ∧ Below w.heap.size w w' := by
  have HL := hid (left6_any x w hx hT)
  clear hT
  rcases Nat.mod_two_eq_zero_or_one x with h | h
  · have HE := hid (show chE x = 1 ∧ kidL x = [] from ⟨by unfold chE; rw [if_pos h], by unfold kidL; rw [if_pos h]⟩)
    rw [HE.out.2]
    rw [HE.out.1] at HL
    clear h
    generalize lfN x = l at *
    go_enter Tryz.func81, Tryz.ntmps81
    go_wp2_with fail
    refine HL.out.mono ?_
    rintro e w' ⟨rfl, hb⟩
    have HB := hid hb
    clear hb HL
    go_wp2_with fail
    go_ret
    exact ⟨none, 0, 0, rfl, by decide, SlA.nil _ _, HB.out⟩
  · have HE := hid (show chE x = 0 ∧ kidL x = [lfN x, rgN x] from ⟨by unfold chE; rw [if_neg (by omega)], by unfold kidL; rw [if_neg (by omega)]⟩)
    obtain ⟨t1, t2, t3, -⟩ := kid_two x hx h
    have H1 := hid t1
    rw [HE.out.2]
    rw [HE.out.1] at HL
    clear h t1
    generalize lfN x = l at *
    generalize rgN x = r at *
    have hr : 2 * (x : Int) - l = r := H1.out
    go_enter Tryz.func81, Tryz.ntmps81
    go_wp2_with fail
    refine HL.out.mono ?_
    rintro e w' ⟨rfl, hb⟩
    have HB := hid hb
    clear hb HL
    go_wp2_with fail
    go_ret
    exact ⟨_, 2, 2, rfl, by decide, sla_row #[.int .i64 l, .int .i64 r] (by unfold maxLen; simp), HB.out.alloc HB.out.size _⟩
/-- The tree, its lists' heads these. -/
def TrP (A : Option Addr) (n c : Nat) (xs : List TN) (qs : List Value) (V : World) : Prop :=
  qs.length = xs.length ∧ SlA V 6 A n c (ncs xs qs) ∧ ∀ (j : Nat) x q, xs[j]? = some x → qs[j]? = some q → In1 V q x.u
theorem TrP.tr {A : Option Addr} {n c : Nat} {xs : List TN} {qs : List Value} {V : World} (h : TrP A n c xs qs V) : Tr V A n c xs := ⟨qs, h⟩
/-- A node of the tree, wherever the tree lies: its cells, and its list. -/
theorem trP_at {b off n c x : Nat} {xs : List TN} {qs : List Value} {V : World} (h : TrP (some ⟨b, off, none⟩) n c xs qs V) (hx : x < n) : ∃ A' c', ∀ U, TrP (some ⟨b, off, none⟩) n c xs qs U →
    (U.cell? ⟨b, off + x * 6, none⟩ = some (.int .i64 (tnF xs x).k) ∧ U.cell? ⟨b, off + x * 6 + 1, none⟩ = some (.int .i64 (tnF xs x).i) ∧ U.cell? ⟨b, off + x * 6 + 2, none⟩ = some (.int .i64 (tnF xs x).e) ∧ U.cell? ⟨b, off + x * 6 + 3, none⟩ = some (.int .i64 (tnF xs x).s) ∧ U.cell? ⟨b, off + x * 6 + 4, none⟩ = some (.int .i64 (tnF xs x).h) ∧ U.cell? ⟨b, off + x * 6 + 5, none⟩ = some (.slice A' (tnF xs x).u.length c')) ∧
    NdP (some ⟨b, off, none⟩) n c xs qs A' (tnF xs x).u.length c' (tnF xs x).u U := by
  have hln := h.tr.len
  have hy := tn_get (xs := xs) (x := x) (by omega)
  have hq : qs[x]? = some (qs[x]'(by rw [h.1]; omega)) := List.getElem?_eq_getElem _
  obtain ⟨A', c', e5, -⟩ := h.2.2 x _ _ hy hq
  generalize qs[x]'(by rw [h.1]; omega) = q at *
  refine ⟨A', c', fun U hU => ?_⟩
  have cell : ∀ k (u : Value), k < 6 → ((tnF xs x).cells q)[k]? = some u → U.cell? ⟨b, off + x * 6 + k, none⟩ = some u := by
    intro k u hk hu
    obtain ⟨b1, o1, e, hc⟩ := hU.2.1.cells (x * 6 + k) u ((ncs_get hy hq hk).trans hu)
    injection e with e
    injection e with e1 e2
    subst e1; subst e2
    rw [Nat.add_assoc]; exact hc
  refine ⟨⟨cell 0 _ (by omega) rfl, cell 1 _ (by omega) rfl, cell 2 _ (by omega) rfl, cell 3 _ (by omega) rfl, cell 4 _ (by omega) rfl, ?_⟩, hU, ?_⟩
  · rw [cell 5 _ (by omega) rfl, e5]
  · obtain ⟨A2, c2, e6, hs⟩ := hU.2.2 x _ _ hy hq
    rw [e5] at e6
    injection e6 with f1 f2 f3
    subst f1; subst f3
    exact hs
theorem tr_some {V : World} {A : Option Addr} {n c : Nat} {xs : List TN} (h : Tr V A n c xs) (hn : 0 < n) : ∃ b off, A = some ⟨b, off, none⟩ := by
  obtain ⟨b, off, _, _, _, e, _⟩ := h.at hn
  exact ⟨b, off, e⟩
theorem Mv.unz {W V : World} {Z Z' : Nat → Prop} {bk : Nat} (m : Mv (Zk Z bk) W (Zk Z' bk) V) (hb : W.heap.size ≤ bk) : Mv Z W Z' V :=
  ⟨⟨m.t.os, m.t.tape, m.t.output, m.t.size, fun k hk hn => m.t.block k hk fun h => h.elim hn fun e => by omega⟩, fun b hz => (m.n b (.inl hz)).elim (fun h => h.elim .inl fun e => .inr (e ▸ hb)) .inr⟩
section
variable {w0 W : World} {Z : Nat → Prop} {sa bk : Nat} {S : KS}
set_option maxHeartbeats 4000000 in
set_option maxRecDepth 100000 in
theorem m_vouch (h : MK w0 W Z sa bk S) (hT : Tb w0.heap.size w0) (hTab : ∀ U, Below w0.heap.size w0 U → Tab U) {A : Option Addr} {n c x y k : Nat} {xs : List TN} {qs : List Value} (hf : Fx W (Zk Z bk) (TrP A n c xs qs)) (hx : x < n) (hn : n ≤ 511) (hy : lvl (y : Int) = k) (hyn : y + 2 ^ k ≤ n) (hy2 : y ≤ 2 * x) (hw : ∀ y ∈ xs, TnI y) (hu : ∀ y ∈ xs, y.u.length ≤ 1000) :
    Calls Tryz.prog 83 #[.pointer (some ⟨bk, 0, none⟩), .slice A n c, .int .i64 x, .int .i64 (2 * (x : Int) - y)] W (ThS w0 W Z sa bk (voF xs k S x y)) := by
  have HT := hid hT
  obtain ⟨b, off, rfl⟩ := tr_some hf.here.tr (by omega)
  have hln := hf.here.tr.len
  obtain ⟨A', c', hND⟩ := trP_at hf.here hx
  obtain ⟨⟨-, -, c2, -, c4, c5⟩, -⟩ := hND W hf.here
  have hyF := tn_get (xs := xs) (x := x) (by omega)
  obtain ⟨-, -, we, -, wh, -⟩ := hw _ (List.mem_of_getElem? hyF)
  have hul := hu _ (List.mem_of_getElem? hyF)
  have HWF := hid (And.intro we wh)
  have HM := hid (m_text h hT lbVouch)
  have HF := hid hf; have HND := hid hND
  have HAI := hid (show I64 (voA S).2 from tx_i h.la.ar.ok _)
  have HOK := hid (show Okay (voA S).1.x from (tx_go _ _).ok h.la.ar.ok)
  have HNO := hid (fun (S : KS) (W : World) (Z : Nat → Prop) (h : MK w0 W Z sa bk S) (hf : Fx W (Zk Z bk) (NdP (some ⟨b, off, none⟩) n c xs qs A' (tnF xs x).u.length c' (tnF xs x).u)) => m_node hT hTab hn hul hw hu k S y W Z h hf hy hyn)
  have HD := hid (show voF xs k S x y = haM (voB xs k S x y).1 [(voA S).2, (tnF xs x).e, (tnF xs x).h, (voB xs k S x y).2] from rfl)
  have HB := hid (show voB xs k S x y = thF xs (tnF xs x).u k (voA S).1 y from rfl)
  have hxn : (x : Int) < (n : Int) := by omega
  have hyy : 2 * (x : Int) - (2 * (x : Int) - (y : Int)) = (y : Int) := by omega
  rw [HD.out]
  change Hid (Calls _ _ _ W (ThS w0 W Z sa bk (voA S))) at HM
  unfold lbVouch at HM
  clear h hT hTab hf hND hyF we wh hul hw hu HD hyn hln
  generalize voA S = a at *
  generalize tnF xs x = t at *
  go_enter Tryz.func83, Tryz.ntmps83
  go_wp2_with fail
  refine HM.out.mono ?_
  rintro e w1 ⟨Z1, rfl, l1, m1⟩
  have HF1 := hid (HF.out.mv m1)
  have L1 := hid l1; have M1 := hid m1
  obtain ⟨⟨-, -, d2, -, d4, d5⟩, -⟩ := HND.out w1 HF1.out.here
  have HN1 := hid (HNO.out a.1 w1 Z1 L1.out (HF1.out.mono fun V hV => (HND.out V hV).2))
  have HBI := hid (show I64 (thF xs t.u k a.1 y).2 from th_i HOK.out)
  rw [← HB.out] at HN1 HBI
  clear l1 m1 c2 c4 c5 HNO HM HB
  generalize voB xs k S x y = v at *
  go_wp2_with fail
  refine HN1.out.mono ?_
  rintro e w2 ⟨Z2, rfl, l2, m2⟩
  have HF2 := hid (HF1.out.mv m2)
  have L2 := hid l2; have M2 := hid (M1.out.trans m2)
  obtain ⟨⟨-, -, e2, -, e4, -⟩, -⟩ := HND.out w2 HF2.out.here
  clear l2 m2 d2 d4 d5 HN1
  have HRW := hid (L2.out.ext ((below_drew (Below.refl w2.heap.size w2)).alloc (by exact Nat.le_refl _) (.cells #[.int .i64 a.2, .int .i64 t.e, .int .i64 t.h, .int .i64 v.2] 3)))
  have BRW := hid (show Below w2.heap.size w2 (w2.drew.alloc (.cells #[.int .i64 a.2, .int .i64 t.e, .int .i64 t.h, .int .i64 v.2] 3)) from (below_drew (Below.refl w2.heap.size w2)).alloc (by exact Nat.le_refl _) _)
  have HH := hid (m_hash HRW.out HT.out (l := [a.2, t.e, t.h, v.2]) (sla_row (w := w2.drew) #[.int .i64 a.2, .int .i64 t.e, .int .i64 t.h, .int .i64 v.2] (by unfold maxLen; simp)) (fun i hi => by
    simp only [List.mem_cons, List.mem_nil_iff, or_false] at hi
    rcases hi with rfl | rfl | rfl | rfl
    · exact HAI.out
    · exact HWF.out.1
    · exact HWF.out.2
    · exact HBI.out))
  clear HRW
  go_upto_region 3 with fail
  go_region_held3 (fun U => U.cell? ⟨b, off + x * 6 + 2, none⟩ = some (.int .i64 t.e) ∧ U.cell? ⟨b, off + x * 6 + 4, none⟩ = some (.int .i64 t.h)) (first | exact ⟨e2, e4⟩ | exact ⟨(HND.out _ HF3.out.here).1.2.2.1, (HND.out _ HF3.out.here).1.2.2.2.2.1⟩ | go_keep) (first
    | (go_at_call 154; refine HH.out.mono ?_; rintro e w3 ⟨Z3, rfl, l3, m3⟩; have HF3 := hid ((HF2.out.ext BRW.out).mv m3); have L3 := hid l3; have M3 := hid ((M2.out.trans (Mv.below BRW.out)).trans m3); clear l3 m3)
    | fail)
  all_goals
    go_wp2_with fail
    go_ret
    exact ⟨Z3, rfl, L3.out, M3.out⟩
end
end Go.Proofs.YtekfjcaihocmmaaGreatDoor

/- layer 9: Vouch. -/
namespace Go.Proofs.YtekfjcaihocmmaaGreatDoor
open Go.RowKit Go.KK Go.Shelf Go.Maps
set_option linter.unusedVariables false
set_option linter.unusedSimpArgs false

def vchB (X : List ND) (xs : List TN) (x ch : Int) : Bool := trmB X xs && decide (0 ≤ x) && decide (x < (xs.length : Int)) && ((tnF xs x.toNat).k == 2) && (kidL x.toNat).contains ch
def vchR (X : List ND) (xs : List TN) (x ch : Int) : KS × Int := voF xs (lvl x - 1) ⟨X, 0⟩ x.toNat (2 * x - ch).toNat
def vchF (X : List ND) (xs : List TN) (x ch : Int) : Rs := if vchB X xs x ch then ((vchR X xs x ch).1.x, if (vchR X xs x ch).1.e = 0 then (vchR X xs x ch).2 else 0, (vchR X xs x ch).1.e) else (X, 0, 1)
theorem in_tree : ((List.range 257).all fun N => !fullN (N : Int) || (List.range (2 * N - 1)).all fun x => decide (x + 2 ^ lvl (x : Int) ≤ 2 * N - 1)) = true := by decide +kernel
theorem chk_in {xs : List TN} (h : chkB xs = true) {x : Nat} (hx : x < xs.length) : x + 2 ^ lvl (x : Int) ≤ xs.length := by
  obtain ⟨h1, h2, -, -⟩ := chk_full h
  have hle := fullN_le h1
  have h3 := List.all_eq_true.1 in_tree (lvN xs.length) (List.mem_range.2 (by omega))
  rw [h1, Bool.not_true, Bool.false_or] at h3
  have h4 := of_decide_eq_true (List.all_eq_true.1 h3 x (List.mem_range.2 (by omega)))
  omega
theorem lf_nat {x k : Nat} (ho : x % 2 = 1) (hk : lvl (x : Int) = k + 1) (hx : 2 ^ k ≤ x) : lfN x = ((x - 2 ^ k : Nat) : Int) ∧ rgN x = ((x + 2 ^ k : Nat) : Int) := by
  unfold lfN rgN
  rw [if_neg (by omega), if_neg (by omega), hk, Nat.add_sub_cancel, Int.ofNat_sub hx]
  exact ⟨by simp, by simp⟩
/-- The child beside one that says something of a node. -/
theorem kid_other {xs : List TN} (h : chkB xs = true) {x : Nat} (hx : x < xs.length) (hx5 : x < 511) {ch : Int} (hc : (kidL x).contains ch = true) :
    ∃ y : Nat, (2 * (x : Int) - ch).toNat = y ∧ 2 * (x : Int) - (y : Int) = ch ∧ lvl (y : Int) = lvl (x : Int) - 1 ∧ y + 2 ^ (lvl (x : Int) - 1) ≤ xs.length ∧ y ≤ 2 * x := by
  have ho : x % 2 = 1 := by
    rcases Nat.mod_two_eq_zero_or_one x with h | h
    · unfold kidL at hc; rw [if_pos h] at hc; cases hc
    · exact h
  have hf := (ch_facts x hx5).1
  obtain ⟨k, hk⟩ : ∃ k, lvl (x : Int) = k + 1 := ⟨lvl (x : Int) - 1, by
    have : lvl (x : Int) ≠ 0 := fun e => by rw [e, ho] at hf; exact absurd hf (by decide)
    omega⟩
  obtain ⟨-, h2, h3, h4⟩ := lvl_kids x hx5 k hk
  obtain ⟨e1, e2⟩ := lf_nat ho hk h2
  have hin := chk_in h hx
  have ep : 2 ^ lvl (x : Int) = 2 * 2 ^ k := by rw [hk, Nat.pow_succ]; omega
  rw [ep] at hin
  have e3 : 1 ≤ 2 ^ k := Nat.one_le_two_pow
  obtain ⟨hfu, hfn, -, -⟩ := chk_full h
  have hle := fullN_le hfu
  rw [hk, Nat.add_sub_cancel]
  have hc' : ch = lfN x ∨ ch = rgN x := by
    unfold kidL at hc; rw [if_neg (by omega)] at hc
    simpa using hc
  rcases hc' with rfl | rfl
  · rw [e1]
    exact ⟨x + 2 ^ k, by omega, by omega, h4 (by omega), by omega, by omega⟩
  · rw [e2]
    exact ⟨x - 2 ^ k, by omega, by omega, h3, by omega, by omega⟩
theorem trm_chk {X : List ND} {xs : List TN} (h : trmB X xs = true) : chkB xs = true := by
  unfold trmB at h
  rw [Bool.and_eq_true] at h
  exact h.1
section
variable {w0 W : World} {Z : Nat → Prop} {sa bk : Nat} {X : List ND}
set_option maxHeartbeats 8000000 in
set_option maxRecDepth 100000 in
theorem l_vouch (h : LA w0 W Z sa X) (hT : Tb w0.heap.size w0) (hTab : ∀ U, Below w0.heap.size w0 U → Tab U) {A : Option Addr} {n c : Nat} {xs : List TN} {qs : List Value} (hf : Fx W Z (TrP A n c xs qs)) (hn : n ≤ 511) (hw : ∀ y ∈ xs, TnI y) (hu : ∀ y ∈ xs, y.u.length ≤ 1000) (x ch : Int) :
    Calls Tryz.prog 27 #[.pointer (some ⟨sa, 0, none⟩), .slice A n c, .int .i64 x, .int .i64 ch] W (LrS w0 W Z sa (vchF X xs x ch)) := by
  have HT := hid hT; have HTB := hid hTab
  have hln := hf.here.tr.len
  have HSH := hid (show Shorts xs from fun j q hq => by have := hu q (List.mem_of_getElem? hq); omega)
  have HTM := hid (thterms_any h.ar.vw (fun U hU => hTab U (h.bl.trans (hU.mono h.bl.size))) hf.here.tr (by omega) HSH.out)
  have H := hid h; have HF := hid hf; have HW := hid hw; have HU := hid hu
  obtain ⟨r, hr⟩ : ∃ r : Rs, r = vchF X xs x ch := ⟨_, rfl⟩
  rw [← hr]
  have HR := hid hr
  clear h hT hTab hf hw hu hr
  rcases ht : trmB X xs with _ | _
  · have HE := hid (show r = (X, 0, 1) from by rw [HR.out]; unfold vchF vchB; rw [ht]; rfl)
    rw [ht] at HTM
    clear ht
    go_enter Tryz.func27, Tryz.ntmps27
    go_wp2_with fail
    refine HTM.out.mono ?_
    rintro e w1 ⟨rfl, b1⟩
    have B1 := hid b1
    clear b1 HTM
    go_wp2_with fail
    go_ret2
    rw [HE.out]
    exact ⟨Z, rfl, H.out.ext B1.out, Mv.below B1.out⟩
  rw [ht] at HTM
  have HCK := hid (trm_chk ht)
  by_cases hx0 : x < 0
  · have HE := hid (show r = (X, 0, 1) from by rw [HR.out]; unfold vchF vchB; rw [decide_eq_false (by omega : ¬ 0 ≤ x), Bool.and_false]; rfl)
    clear ht
    go_enter Tryz.func27, Tryz.ntmps27
    go_wp2_with fail
    refine HTM.out.mono ?_
    rintro e w1 ⟨rfl, b1⟩
    have B1 := hid b1
    clear b1 HTM
    go_wp2_with fail
    go_ret2
    rw [HE.out]
    exact ⟨Z, rfl, H.out.ext B1.out, Mv.below B1.out⟩
  by_cases hx1 : (n : Int) ≤ x
  · have HE := hid (show r = (X, 0, 1) from by rw [HR.out]; unfold vchF vchB; rw [decide_eq_false (by omega : ¬ x < (xs.length : Int)), Bool.and_false]; rfl)
    clear ht
    go_enter Tryz.func27, Tryz.ntmps27
    go_wp2_with fail
    refine HTM.out.mono ?_
    rintro e w1 ⟨rfl, b1⟩
    have B1 := hid b1
    clear b1 HTM
    go_wp2_with fail
    go_ret2
    rw [HE.out]
    exact ⟨Z, rfl, H.out.ext B1.out, Mv.below B1.out⟩
  obtain ⟨x, rfl⟩ := Int.eq_ofNat_of_zero_le (show 0 ≤ x by omega)
  have hxn : x < n := by omega
  have hxi : (x : Int) < (n : Int) := by omega
  obtain ⟨b, off, rfl⟩ := tr_some HF.out.here.tr (by omega)
  obtain ⟨A', c', hND⟩ := trP_at HF.out.here hxn
  have HND := hid hND
  clear hND hx0 hx1
  have HVB := hid (show vchB X xs (x : Int) ch = (((tnF xs x).k == 2) && (kidL x).contains ch) from by
    unfold vchB; rw [ht, decide_eq_true (by omega : (0 : Int) ≤ x), decide_eq_true (by omega : (x : Int) < (xs.length : Int))]; rfl)
  clear ht
  by_cases hk : (tnF xs x).k = 2
  case neg =>
    have hk' : ((tnF xs x).k != 2) = true := bne_iff_ne.2 hk
    have HE := hid (show r = (X, 0, 1) from by rw [HR.out]; unfold vchF; rw [HVB.out, beq_eq_false_iff_ne.2 hk]; rfl)
    clear hk
    generalize tnF xs x = t at *
    go_enter Tryz.func27, Tryz.ntmps27
    go_wp2_with fail
    refine HTM.out.mono ?_
    rintro e w1 ⟨rfl, b1⟩
    have B1 := hid b1
    obtain ⟨⟨d0, -⟩, -⟩ := HND.out w1 (HF.out.ext b1).here
    clear b1 HTM
    go_wp2_with fail
    go_ret2
    rw [HE.out]
    exact ⟨Z, rfl, H.out.ext B1.out, Mv.below B1.out⟩
  have hk' : ((tnF xs x).k != 2) = false := by rw [hk]; rfl
  have HKD := hid (fun (U : World) (hU : Below w0.heap.size w0 U) => kids_any x U (by omega) (HTB.out U hU))
  have HV2 := hid (show vchB X xs (x : Int) ch = (kidL x).contains ch from by rw [HVB.out, hk]; rfl)
  clear HVB hk
  generalize hkl : kidL x = kl at *
  have HKL := hid hkl
  clear hkl
  rcases hc : kl.contains ch with _ | _
  · have HE := hid (show r = (X, 0, 1) from by rw [HR.out]; unfold vchF; rw [HV2.out, hc]; rfl)
    generalize tnF xs x = t at *
    have HCO := hid (fun (U : World) (A2 : Option Addr) (m c2 : Nat) (hm : m ≤ 2) (h2 : SlA U 1 A2 m c2 (kl.map (.int .i64))) => contains_any A2 m c2 kl ch U h2 (by omega))
    rw [hc] at HCO
    clear hc
    go_enter Tryz.func27, Tryz.ntmps27
    go_wp2_with fail
    refine HTM.out.mono ?_
    rintro e w1 ⟨rfl, b1⟩
    have B1 := hid b1
    have HK1 := hid (HKD.out w1 (H.out.bl.trans (b1.mono H.out.bl.size)))
    obtain ⟨⟨d0, -⟩, -⟩ := HND.out w1 (HF.out.ext b1).here
    clear b1 HTM
    go_wp2_with fail
    refine HK1.out.mono ?_
    rintro e w2 ⟨A2, m2, c2, rfl, hm2, hs2, b2⟩
    have B2 := hid (B1.out.trans (b2.mono B1.out.size))
    have HC2 := hid (HCO.out w2 A2 m2 c2 hm2 hs2)
    clear b2 hs2 hm2 HK1
    go_wp2_with fail
    refine HC2.out.mono ?_
    rintro e w3 ⟨rfl, hw⟩
    have hw' := hw.symm
    clear hw
    subst hw'
    clear HC2
    go_wp2_with fail
    go_ret2
    rw [HE.out]
    exact ⟨Z, rfl, H.out.ext B2.out, Mv.below B2.out⟩
  obtain ⟨y, y1, y2, y3, y4, y5⟩ := kid_other HCK.out (show x < xs.length by omega) (by omega) (show (kidL x).contains ch = true by rw [HKL.out]; exact hc)
  have HE := hid (show r = ((vchR X xs x ch).1.x, if (vchR X xs x ch).1.e = 0 then (vchR X xs x ch).2 else 0, (vchR X xs x ch).1.e) from by rw [HR.out]; unfold vchF; rw [HV2.out, hc]; rfl)
  have HRR := hid (show vchR X xs x ch = voF xs (lvl (x : Int) - 1) ⟨X, 0⟩ x y from by unfold vchR; rw [y1]; rfl)
  have HVO := hid (fun (V : World) (bk : Nat) (h : MK w0 V Z sa bk ⟨X, 0⟩) (hf : Fx V (Zk Z bk) (TrP (some ⟨b, off, none⟩) n c xs qs)) => m_vouch h HT.out HTB.out hf hxn hn y3 (by omega) y5 HW.out HU.out)
  rw [y2, ← HRR.out] at HVO
  clear HRR HV2 HR y1 y2 y3 y4 y5
  generalize tnF xs x = t at *
  generalize vchR X xs x ch = v at *
  have HCO := hid (fun (U : World) (A2 : Option Addr) (m c2 : Nat) (hm : m ≤ 2) (h2 : SlA U 1 A2 m c2 (kl.map (.int .i64))) => contains_any A2 m c2 kl ch U h2 (by omega))
  rw [hc] at HCO
  clear hc
  go_enter Tryz.func27, Tryz.ntmps27
  go_wp2_with fail
  refine HTM.out.mono ?_
  rintro e w1 ⟨rfl, b1⟩
  have B1 := hid b1
  have HK1 := hid (HKD.out w1 (H.out.bl.trans (b1.mono H.out.bl.size)))
  obtain ⟨⟨d0, -⟩, -⟩ := HND.out w1 (HF.out.ext b1).here
  clear b1 HTM
  go_wp2_with fail
  refine HK1.out.mono ?_
  rintro e w2 ⟨A2, m2, c2, rfl, hm2, hs2, b2⟩
  have B2 := hid (B1.out.trans (b2.mono B1.out.size))
  have HC2 := hid (HCO.out w2 A2 m2 c2 hm2 hs2)
  clear b2 hs2 hm2 HK1
  go_wp2_with fail
  refine HC2.out.mono ?_
  rintro e w3 ⟨rfl, hw⟩
  have hw' := hw.symm
  clear hw
  subst hw'
  clear HC2 d0
  have BA := hid (B2.out.alloc B2.out.size (.cells #[.pointer (some ⟨sa, 0, none⟩), .int .i64 0] 137))
  have HMK := hid (show MK w0 (w2.alloc (.cells #[.pointer (some ⟨sa, 0, none⟩), .int .i64 0] 137)) Z sa w2.heap.size ⟨X, 0⟩ from
    ⟨H.out.ext BA.out, heap_alloc_new w2 _, fun hz => by have := H.out.ar.zlt _ hz; have := B2.out.size; omega, Nat.le_trans H.out.bl.size B2.out.size⟩)
  have HFK := hid (show Fx (w2.alloc (.cells #[.pointer (some ⟨sa, 0, none⟩), .int .i64 0] 137)) (Zk Z w2.heap.size) (TrP (some ⟨b, off, none⟩) n c xs qs) from by
    obtain ⟨R, r1, r2⟩ := HF.out.ext BA.out
    obtain ⟨R0, q1, q2⟩ := HF.out
    refine ⟨R0, fun b hb => ⟨fun h => h.elim (q1 b hb).1 fun e => by have := (q1 b hb).2; have := B2.out.size; omega, Nat.lt_of_lt_of_le (q1 b hb).2 BA.out.size⟩, fun V' hv => q2 V' fun b hb => (hv b hb).trans (BA.out.block b (q1 b hb).2)⟩)
  have HV := hid (HVO.out _ _ HMK.out HFK.out)
  go_wp2_with fail
  refine HV.out.mono ?_
  rintro e w4 ⟨Z4, rfl, l4, m4⟩
  have L4 := hid l4
  have MV := hid (((Mv.below (Z := Zk Z w2.heap.size) BA.out).trans m4).unz B2.out.size)
  have T4 := hid (m_told l4 v.2)
  clear l4 m4 HV HVO
  obtain ⟨hh, hhh⟩ : ∃ hh, hh = if v.1.e = 0 then v.2 else 0 := ⟨_, rfl⟩
  rw [← hhh] at HE T4
  clear hhh
  go_wp2_with fail
  refine T4.out.mono ?_
  rintro e w5 ⟨rfl, b5⟩
  have B5 := hid b5
  clear b5 T4
  go_wp2_with fail
  go_ret2
  rw [HE.out]
  exact ⟨Z4, rfl, L4.out.la.ext B5.out, MV.out.trans (Mv.below B5.out)⟩
end
end Go.Proofs.YtekfjcaihocmmaaGreatDoor

/- ratchet: a tree copied. -/
namespace Go.Proofs.YtekfjcaihocmmaaGreatDoor
open Go.RowKit Go.KK Go.Shelf
set_option linter.unusedVariables false
set_option linter.unusedSimpArgs false

theorem Tryz.infoTN : (Tryz.prog.info? 37).map (fun i => (i.zero, i.size, i.bytes)) = some (some (.agg #[.int .i64 0, .int .i64 0, .int .i64 0, .int .i64 0, .int .i64 0, .slice none 0 0]), 6, 64) := by kernel_rfl
/-- What holds of the copy, whose first lists are copied. -/
structure Cp (base : Nat) (wr : World) (g cap : Nat) (xs : List TN) (qs : List Value) (j : Nat) (rs : List Value) : Prop where
  ql : rs.length = xs.length
  row : wr.ownsRow base 37 6 (.slice (some ⟨g, 0, none⟩) xs.length cap) xs.length (ncs xs rs)
  old : ∀ k, j ≤ k → rs[k]? = qs[k]?
  new : ∀ (k : Nat) x q, k < j → xs[k]? = some x → rs[k]? = some q → wr.ownsRow base 3 1 q x.u.length (x.u.map (.int .i64)) ∧ q.ownBlock ≠ some g
  apart : ∀ (i k : Nat) p q b, i < j → k < j → rs[i]? = some p → rs[k]? = some q → p.ownBlock = some b → q.ownBlock = some b → i = k
theorem Cp.step {base : Nat} {wr w2 : World} {g cap : Nat} {xs : List TN} {qs rs : List Value} {j : Nat} {x : TN} {v : Value} (h : Cp base wr g cap xs qs j rs) (hx : xs[j]? = some x) (hb : Below wr.heap.size wr w2) (hbase : base ≤ wr.heap.size)
    (hv : w2.ownsRow wr.heap.size 3 1 v x.u.length (x.u.map (.int .i64))) : Cp base (w2.setCell ⟨g, j * 6 + 5, none⟩ v) g cap xs qs (j + 1) (rs.set j v) := by
  have hj : j < xs.length := (List.getElem?_eq_some_iff.1 hx).1
  have hp : rs[j]? = some (rs[j]'(by rw [h.ql]; exact hj)) := List.getElem?_eq_getElem _
  have hgl : g < wr.heap.size := (h.row.lt g rfl).2
  have hvg : v.ownBlock ≠ some g := fun e => by have := (hv.lt g e).1; omega
  have hrow := ((own_ext h.row hb).stored (j * 6 + 5) v)
  refine ⟨by simpa using h.ql, ?_, fun k hk => ?_, fun k y q hk hy hq => ?_, fun i k p q b hi hk hpi hqk hb1 hb2 => ?_⟩
  · have e := ncs_set1 (d := 5) (y := x) (q := v) h.ql hx hp (by omega) v rfl
    rw [show xs.set j x = xs from List.ext_getElem? fun i => by
      by_cases hij : i = j
      · subst hij; rw [List.getElem?_set_self hj, hx]
      · rw [List.getElem?_set_ne (by omega)]] at e
    rw [← e]
    exact hrow.1
  · rw [List.getElem?_set_ne (by omega)]; exact h.old k (by omega)
  · rcases set_get hq with ⟨rfl, rfl⟩ | ⟨hne, hq'⟩
    · rw [hx] at hy
      injection hy with hy
      subst hy
      exact ⟨(own_mono hv hbase).kept hrow.2 (.inr hvg), hvg⟩
    · obtain ⟨h1, h2⟩ := h.new k y q (by omega) hy hq'
      exact ⟨(own_ext h1 hb).kept hrow.2 (.inr h2), h2⟩
  · rcases set_get hpi with ⟨rfl, rfl⟩ | ⟨hne, hp'⟩
    · rcases set_get hqk with ⟨rfl, rfl⟩ | ⟨hne2, hq'⟩
      · rfl
      · have hkl : k < xs.length := by
          have := (List.getElem?_eq_some_iff.1 hq').1
          rw [h.ql] at this; exact this
        have h3 := (h.new k _ q (by omega) (List.getElem?_eq_getElem hkl) hq').1.lt b hb2
        have h4 := (hv.lt b hb1).1
        omega
    · rcases set_get hqk with ⟨rfl, rfl⟩ | ⟨hne2, hq'⟩
      · have hil : i < xs.length := by
          have := (List.getElem?_eq_some_iff.1 hp').1
          rw [h.ql] at this; exact this
        have h3 := (h.new i _ p (by omega) (List.getElem?_eq_getElem hil) hp').1.lt b hb1
        have h4 := (hv.lt b hb2).1
        omega
      · exact h.apart i k p q b (by omega) (by omega) hp' hq' hb1 hb2
end Go.Proofs.YtekfjcaihocmmaaGreatDoor

/- ratchet: what Add does to a node above. -/
namespace Go.Proofs.YtekfjcaihocmmaaGreatDoor
open Go.RowKit Go.KK Go.Shelf
set_option linter.unusedVariables false
set_option linter.unusedSimpArgs false

/-- How many of a list's numbers are less. -/
def lessN (u : List Int) (i : Int) : Nat := u.countP (· < i)
theorem lessN_le (u : List Int) (i : Int) : lessN u i ≤ u.length := List.countP_le_length
/-- The numbers in a parent's list, and one more. -/
def addN (i : Int) (x : TN) : TN := if x.k = 2 then { x with u := insL x.u (lessN x.u i) i } else x
/-- A block beside the tree. -/
structure Far (w : World) (g : Nat) (xs : List TN) (qs : List Value) (b : Nat) : Prop where
  lt : b < w.heap.size
  ne : b ≠ g
  far : ∀ (j : Nat) x q, xs[j]? = some x → qs[j]? = some q → x.k = 2 → q.ownBlock ≠ some b
/-- What a step on the tree leaves alone. -/
def Keeps (w w' : World) (g : Nat) (xs xs' : List TN) (qs qs' : List Value) : Prop := ∀ b, Far w g xs qs b → Far w' g xs' qs' b ∧ w'.heap[b]? = w.heap[b]?
theorem Keeps.refl (w : World) (g : Nat) (xs : List TN) (qs : List Value) : Keeps w w g xs xs qs qs := fun _ h => ⟨h, rfl⟩
theorem Keeps.trans {a b c : World} {g : Nat} {xs ys zs : List TN} {qs rs ts : List Value} (h : Keeps a b g xs ys qs rs) (k : Keeps b c g ys zs rs ts) : Keeps a c g xs zs qs ts := fun x hx =>
  have h1 := h x hx
  have h2 := k x h1.1
  ⟨h2.1, h2.2.trans h1.2⟩
theorem Far.new {w w' : World} {base g cap : Nat} {xs : List TN} {qs : List Value} (h : TrW w base g cap xs qs) {b : Nat} (hb : w.heap.size ≤ b) (hb' : b < w'.heap.size) : Far w' g xs qs b :=
  ⟨hb', by have := h.lt; omega, fun j x q hx hq hk e => by have := (((h.own j x q hx hq).1 hk).1.lt b e).2; omega⟩
theorem Far.ext {w w' : World} {g : Nat} {xs : List TN} {qs : List Value} {b : Nat} (h : Far w g xs qs b) (hb : w.heap.size ≤ w'.heap.size) : Far w' g xs qs b := ⟨Nat.lt_of_lt_of_le h.lt hb, h.ne, h.far⟩
end Go.Proofs.YtekfjcaihocmmaaGreatDoor

/- append(t, make([]T, k)...) onto a row of the call's own; of nodes. -/
namespace Go.KK
open Go.RowKit
set_option linter.unusedVariables false
set_option linter.unusedSimpArgs false

def zeroN : TN := ⟨0, 0, 0, 0, 0, []⟩
theorem ncs_app {xs ys : List TN} {qs rs : List Value} (hq : qs.length = xs.length) (hr : rs.length = ys.length) : ncs (xs ++ ys) (qs ++ rs) = ncs xs qs ++ ncs ys rs := by
  unfold ncs
  rw [List.zipWith_append hq.symm, List.flatten_append]
theorem TrW.mono {w : World} {base base' g cap : Nat} {xs : List TN} {qs : List Value} (h : TrW w base g cap xs qs) (hb : base' ≤ base) : TrW w base' g cap xs qs :=
  ⟨own_mono h.row hb, h.ql, fun j x q hx hq => ⟨fun hk => ⟨own_mono ((h.own j x q hx hq).1 hk).1 hb, ((h.own j x q hx hq).1 hk).2⟩, (h.own j x q hx hq).2⟩, h.apart⟩
/-- More nodes, all of them blank. -/
theorem TrW.more {w w' : World} {base g cap g' cap' k : Nat} {xs : List TN} {qs : List Value} (h : TrW w base g cap xs qs) (hw : w.grownBy w' (some g)) (hg' : g' = g ∨ g' = w.heap.size)
    (hrow : w'.ownsRow base 37 6 (.slice (some ⟨g', 0, none⟩) (xs.length + k) cap') (xs.length + k) (ncs xs qs ++ ncs (List.replicate k zeroN) (List.replicate k (.slice none 0 0)))) :
    TrW w' base g' cap' (xs ++ List.replicate k zeroN) (qs ++ List.replicate k (.slice none 0 0)) := by
  have at_old : ∀ {j : Nat} {x : TN}, (xs ++ List.replicate k zeroN)[j]? = some x → x.k = 2 → xs[j]? = some x := by
    intro j x hx hk
    by_cases hj : j < xs.length
    · rwa [List.getElem?_append_left hj] at hx
    · rw [List.getElem?_append_right (by omega), List.getElem?_replicate] at hx
      split at hx
      · injection hx with hx; subst hx; exact absurd hk (by decide)
      · cases hx
  have q_old : ∀ {j : Nat} {q : Value}, j < xs.length → (qs ++ List.replicate k (Value.slice none 0 0))[j]? = some q → qs[j]? = some q := by
    intro j q hj hq
    rwa [List.getElem?_append_left (by rw [h.ql]; exact hj)] at hq
  refine ⟨?_, by simp [h.ql], fun j x q hx hq => ⟨fun hk => ?_, fun hk => ?_⟩, fun i j x y p q b hx hy hp hq k1 k2 b1 b2 => ?_⟩
  · rw [ncs_app h.ql (by simp), List.length_append, List.length_replicate]
    exact hrow
  · have hx' := at_old hx hk
    have hq' := q_old (List.getElem?_eq_some_iff.1 hx').1 hq
    obtain ⟨o1, o2⟩ := (h.own j x q hx' hq').1 hk
    refine ⟨o1.kept hw (.inr o2), ?_⟩
    rcases hg' with e | e
    · rw [e]; exact o2
    · intro e2
      have := (o1.lt g' e2).2
      omega
  · by_cases hj : j < xs.length
    · rw [List.getElem?_append_left hj] at hx
      exact (h.own j x q hx (q_old hj hq)).2 hk
    · rw [List.getElem?_append_right (by omega), List.getElem?_replicate] at hx
      rw [List.getElem?_append_right (by rw [h.ql]; omega), List.getElem?_replicate] at hq
      split at hx
      · injection hx with hx
        split at hq
        · injection hq with hq
          subst hx; subst hq
          exact ⟨rfl, none, 0, rfl, Nat.zero_le _⟩
        · cases hq
      · cases hx
  · have hx' := at_old hx k1
    have hy' := at_old hy k2
    exact h.apart i j x y p q b hx' hy' (q_old (List.getElem?_eq_some_iff.1 hx').1 hp) (q_old (List.getElem?_eq_some_iff.1 hy').1 hq) k1 k2 b1 b2

end Go.KK

