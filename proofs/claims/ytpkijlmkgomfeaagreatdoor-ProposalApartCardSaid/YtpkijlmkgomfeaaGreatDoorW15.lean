import Derived.Test.YtpkijlmkgomfeaaGreatDoorW14
import Derived.Test.YtpkijlmkgomfeaaGreatDoorW05
import Derived.Test.YtpkijlmkgomfeaaGreatDoorW06
import Derived.Test.YtpkijlmkgomfeaaGreatDoorW09
import Derived.Test.YtpkijlmkgomfeaaGreatDoorW04
import Derived.Deep.DeepCutAuto
import Derived.Deep.RegionHeld3
import Derived.Test.YtpkijlmkgomfeaaGreatDoorW01
import Derived.ProofKit
import Derived.OpenShut
import Derived.ShutString
import Derived.ChangeOld
import Derived.Deep.Slices
import Derived.Deep.Fields
import Derived.ChangeArms
import Derived.Test.YtpkijlmkgomfeaaGreatDoorCards
import Derived.Test.YtpkijlmkgomfeaaGreatDoorTie
import Derived.SevenTiedAt
import Derived.Lib.LaidTab
import Derived.Stop.LaidErr
import Derived.LaidMore
import Derived.Lay
import Derived.Handed
import Derived.MakeChecks
/- what a longer walk of the document's maker carries. -/
namespace Go.Proofs.YtpkijlmkgomfeaaGreatDoor
open Go.RowKit Go.KK Go.Shelf Go.Maps
set_option linter.unusedVariables false
set_option linter.unusedSimpArgs false

theorem lq9_turn {w W W' : World} {Z' F : Nat → Prop} {sb : Nat} {ys : List ND} (h : LQ w W Z' sb ys) (ht : Turn F W W') (hd : ∀ b, Z' b → ¬ F b) (hf : ∀ b, F b → w.heap.size ≤ b) : LQ w W' Z' sb ys :=
  ⟨h.ar.turn ht hd, h.z, h.bl.trans (ht.below hf h.bl.size)⟩
section
variable {w0 W V V' : World} {Z Z' Z2 : Nat → Prop} {sa bk b3 : Nat} {S S' S2 : KS} {v v' : Value} {l l' : List Int} {P : World → Prop} {bs : List (Nat × Obj)} {X : List ND}
/-- A longer walk: boxes of its own, a row of terms, what it reads. -/
structure NQ (w0 W V : World) (Z Z' : Nat → Prop) (sa bk : Nat) (bs : List (Nat × Obj)) (v : Value) (l : List Int) (S' : KS) (P : World → Prop) : Prop where
  lk : MQ w0 V Z' sa bk S'
  bx : ∀ p ∈ bs, V.heap[p.1]? = some p.2 ∧ ¬ Zk Z' bk p.1 ∧ W.heap.size ≤ p.1
  un : V.ownsRow W.heap.size 3 1 v l.length (l.map (.int .i64))
  nu : ∀ b, v.ownBlock = some b → ¬ Zk Z' bk b ∧ ∀ p ∈ bs, b ≠ p.1
  fu : ∃ R : Nat → Prop, (∀ b, R b → ¬ Zk Z' bk b ∧ b < W.heap.size) ∧ ∀ V', (∀ b, R b → V'.heap[b]? = V.heap[b]?) → P V'
  m : Mv (Zk Z bk) W (Zk Z' bk) V
  m0 : w0.heap.size ≤ W.heap.size
theorem NQ.mv (h : NQ w0 W V Z Z' sa bk bs v l S' P) (k : MQ w0 V' Z2 sa bk S2) (m : Mv (Zk Z' bk) V (Zk Z2 bk) V') : NQ w0 W V' Z Z2 sa bk bs v l S2 P := by
  have nz : ∀ b, b < V.heap.size → ¬ Zk Z' bk b → ¬ Zk Z2 bk b := fun b hb hz h2 => (m.n b h2).elim hz fun h' => by omega
  obtain ⟨R, r1, r2⟩ := h.fu
  have sz := h.m.t.size
  exact ⟨k, fun p hp => by
      obtain ⟨a1, a2, a3⟩ := h.bx p hp
      have hlt := (Array.getElem?_eq_some_iff.1 a1).1
      exact ⟨(m.t.block p.1 hlt a2).trans a1, nz p.1 hlt a2, a3⟩, own_block h.un fun b hb => m.t.block b (h.un.lt b hb).2 (h.nu b hb).1, fun b hb => ⟨nz b (h.un.lt b hb).2 (h.nu b hb).1, (h.nu b hb).2⟩,
    ⟨R, fun b hr => ⟨nz b (Nat.lt_of_lt_of_le (r1 b hr).2 sz) (r1 b hr).1, (r1 b hr).2⟩, fun V2 hv => r2 V2 fun b hr => (hv b hr).trans (m.t.block b (Nat.lt_of_lt_of_le (r1 b hr).2 sz) (r1 b hr).1)⟩, h.m.trans m, h.m0⟩
theorem NQ.ext (h : NQ w0 W V Z Z' sa bk bs v l S' P) (hb : Below V.heap.size V V') : NQ w0 W V' Z Z' sa bk bs v l S' P := h.mv (h.lk.ext hb) (Mv.below hb)
theorem NQ.app (h : NQ w0 W V Z Z' sa bk bs v l S' P) (hn : V'.ownsRow W.heap.size 3 1 v' l'.length (l'.map (.int .i64))) (hg : V.grownBy V' v.ownBlock) (hl : v'.ownBlock = v.ownBlock ∨ v'.ownBlock = some V.heap.size) : NQ w0 W V' Z Z' sa bk bs v' l' S' P := by
  have ht : Turn (fun b => v.ownBlock = some b) V V' := Turn.grown hg fun b hb => .inl hb
  have sz := h.m.t.size
  obtain ⟨R, r1, r2⟩ := h.fu
  have new : ∀ b, v'.ownBlock = some b → v.ownBlock = some b ∨ b = V.heap.size := fun b hb => by
    rcases hl with hl | hl
    · exact .inl (hl ▸ hb)
    · rw [hl] at hb; injection hb with hb; exact .inr hb.symm
  refine ⟨⟨lq9_turn h.lk.la ht (fun b hz e => (h.nu b e).1 (.inl hz)) (fun b e => Nat.le_trans (h.m0) (h.un.lt b e).1), (ht.block bk h.lk.lt fun e => (h.nu bk e).1 (.inr rfl)).trans h.lk.k, h.lk.nz, h.lk.lo⟩, fun p hp => ?_, hn, fun b hb => ?_, ⟨R, r1, fun V2 hv => r2 V2 fun b hr => (hv b hr).trans (ht.block b (Nat.lt_of_lt_of_le (r1 b hr).2 sz) fun e => by have := (h.un.lt b e).1; have := (r1 b hr).2; omega)⟩, ⟨h.m.t.trans ht fun b e => .inr (h.un.lt b e).1, h.m.n⟩, h.m0⟩
  · obtain ⟨a1, a2, a3⟩ := h.bx p hp
    exact ⟨(ht.block p.1 (Array.getElem?_eq_some_iff.1 a1).1 fun e => (h.nu _ e).2 p hp rfl).trans a1, a2, a3⟩
  · rcases new b hb with e | e
    · exact h.nu b e
    · subst e
      exact ⟨h.lk.new, fun p hp e => by have := (Array.getElem?_eq_some_iff.1 (h.bx p hp).1).1; omega⟩
/-- A box more. -/
theorem NQ.push (h : NQ w0 W V Z Z' sa bk bs v l S' P) (o : Obj) : NQ w0 W (V.alloc o) Z Z' sa bk ((V.heap.size, o) :: bs) v l S' P := by
  have h2 := h.ext ((Below.refl V.heap.size V).alloc (Nat.le_refl _) o)
  refine ⟨h2.lk, fun p hp => ?_, h2.un, fun b hb => ⟨(h2.nu b hb).1, fun p hp => ?_⟩, h2.fu, h2.m, h2.m0⟩
  · rcases List.mem_cons.1 hp with rfl | hp
    · exact ⟨heap_alloc_new V o, h.lk.new, h.m.t.size⟩
    · exact h2.bx p hp
  · rcases List.mem_cons.1 hp with rfl | hp
    · have := (h.un.lt b hb).2; show b ≠ V.heap.size; omega
    · exact (h2.nu b hb).2 p hp
theorem NQ.fx (h : NQ w0 W V Z Z' sa bk bs v l S' P) : Fx V (Zk Z' bk) P := by
  obtain ⟨R, r1, r2⟩ := h.fu
  exact ⟨R, fun b hb => ⟨(r1 b hb).1, Nat.lt_of_lt_of_le (r1 b hb).2 h.m.t.size⟩, r2⟩
theorem NQ.here (h : NQ w0 W V Z Z' sa bk bs v l S' P) : P V := h.fx.here
theorem NQ.fz (h : NQ w0 W V Z Z' sa bk bs v l S' P) {b : Nat} {cs : Array Value} {T : TypeId} (hp : (b, .cells cs T (0, 0)) ∈ bs) (o : Nat) : V.frozen? ⟨b, o, none⟩ = false := frozen_of_row V b o _ _ (h.bx _ hp).1
theorem NQ.cell (h : NQ w0 W V Z Z' sa bk bs v l S' P) {b : Nat} {cs : Array Value} {T : TypeId} (hp : (b, .cells cs T (0, 0)) ∈ bs) (o : Nat) : V.cell? ⟨b, o, none⟩ = cs[o]? := cell_of_row V b o _ _ (0, 0) (h.bx _ hp).1
end
end Go.Proofs.YtpkijlmkgomfeaaGreatDoor

/- layer 9: what a child says of a node. -/
namespace Go.Proofs.YtpkijlmkgomfeaaGreatDoor
open Go.RowKit Go.KK Go.Shelf Go.Maps
set_option linter.unusedVariables false
set_option linter.unusedSimpArgs false

/-- The tree, its lists' heads these. -/
def TrP (A : Option Addr) (n c : Nat) (xs : List TN) (qs : List Value) (V : World) : Prop :=
  qs.length = xs.length ∧ SlA V 6 A n c (ncs xs qs) ∧ ∀ (j : Nat) x q, xs[j]? = some x → qs[j]? = some q → In1 V q x.u
theorem TrP.tr {A : Option Addr} {n c : Nat} {xs : List TN} {qs : List Value} {V : World} (h : TrP A n c xs qs V) : Tr V A n c xs := ⟨qs, h⟩
section
variable {w0 W : World} {Z : Nat → Prop} {sa bk : Nat} {S : KS}
end
end Go.Proofs.YtpkijlmkgomfeaaGreatDoor

/- the document's proposals as one term. -/
namespace Go.Proofs.YtpkijlmkgomfeaaGreatDoor
open Go.RowKit Go.KK Go.Shelf Go.Maps
set_option linter.unusedVariables false
set_option linter.unusedSimpArgs false

section
variable {w0 W : World} {Z : Nat → Prop} {sa : Nat} {X : List ND}
end
end Go.Proofs.YtpkijlmkgomfeaaGreatDoor

/- proposals: ProposalTerms walked. -/
namespace Go.Proofs.YtpkijlmkgomfeaaGreatDoor
open Go.RowKit Go.KK Go.Shelf Go.Maps
set_option linter.unusedVariables false
set_option linter.unusedSimpArgs false

theorem few_len {xs : List TN} {l : List PR} (h : few15 xs l = true) : l.length ≤ 30 ∧ (∀ p ∈ l, p.n.u.length ≤ 10) ∧ xs.length ≤ 70 ∧ ∀ x ∈ xs, x.u.length ≤ 40 := by
  unfold few15 at h
  simp only [Bool.and_eq_true, decide_eq_true_eq, List.all_eq_true] at h
  exact ⟨h.1.2, h.2.2, h.1.1, h.2.1⟩
/-- Cells of a proposal in a row. -/
def PcC (V : World) (b o j : Nat) (p : PR) (A : Option Addr) (c : Nat) : Prop :=
  V.cell? ⟨b, o + j * 10, none⟩ = some (.int .i64 p.k) ∧ V.cell? ⟨b, o + j * 10 + 1, none⟩ = some (.int .i64 p.f) ∧ V.cell? ⟨b, o + j * 10 + 2, none⟩ = some (.int .i64 p.n.k) ∧ V.cell? ⟨b, o + j * 10 + 3, none⟩ = some (.int .i64 p.n.i) ∧ V.cell? ⟨b, o + j * 10 + 4, none⟩ = some (.int .i64 p.n.e) ∧
      V.cell? ⟨b, o + j * 10 + 5, none⟩ = some (.int .i64 p.n.s) ∧ V.cell? ⟨b, o + j * 10 + 6, none⟩ = some (.int .i64 p.n.h) ∧ V.cell? ⟨b, o + j * 10 + 7, none⟩ = some (.slice A p.n.u.length c) ∧ V.cell? ⟨b, o + j * 10 + 8, none⟩ = some (.int .i64 p.a) ∧ V.cell? ⟨b, o + j * 10 + 9, none⟩ = some (.int .i64 p.t)
theorem PcC.ext {V V' : World} {b o j : Nat} {p : PR} {A : Option Addr} {c : Nat} (h : PcC V b o j p A c) (hb : Below V.heap.size V V') : PcC V' b o j p A c := by
  have go : ∀ (k : Nat) (v : Value), V.cell? ⟨b, k, none⟩ = some v → V'.cell? ⟨b, k, none⟩ = some v := fun k v h => (hb.cell (p := ⟨b, k, none⟩) (block_lt_of_cell h)).trans h
  exact ⟨go _ _ h.1, go _ _ h.2.1, go _ _ h.2.2.1, go _ _ h.2.2.2.1, go _ _ h.2.2.2.2.1, go _ _ h.2.2.2.2.2.1, go _ _ h.2.2.2.2.2.2.1, go _ _ h.2.2.2.2.2.2.2.1, go _ _ h.2.2.2.2.2.2.2.2.1, go _ _ h.2.2.2.2.2.2.2.2.2⟩
end Go.Proofs.YtpkijlmkgomfeaaGreatDoor

/- proposals: ProposalApart walked. -/
namespace Go.Proofs.YtpkijlmkgomfeaaGreatDoor
open Go.RowKit Go.KK Go.Shelf Go.Maps
set_option linter.unusedVariables false
set_option linter.unusedSimpArgs false

theorem pcs_one {W : World} {l : List PR} {qs : List Value} (hin : ∀ (j : Nat) p q, l[j]? = some p → qs[j]? = some q → In1 W q p.n.u) : ∀ u ∈ pcs l qs, u.oneCell' = true := by
  intro u hu
  unfold pcs at hu
  obtain ⟨cs, hcs, huc⟩ := List.mem_flatten.1 hu
  obtain ⟨j, hj⟩ := List.mem_iff_getElem?.1 hcs
  rw [List.getElem?_zipWith] at hj
  rcases hp : l[j]? with _ | p
  · rw [hp] at hj; simp at hj
  rcases hq : qs[j]? with _ | q
  · rw [hp, hq] at hj; simp at hj
  rw [hp, hq] at hj
  injection hj with hj
  subst hj
  obtain ⟨A, c, rfl, -⟩ := hin j p q hp hq
  unfold PR.cells at huc
  simp only [List.mem_cons, List.mem_nil_iff, or_false] at huc
  rcases huc with rfl | rfl | rfl | rfl | rfl | rfl | rfl | rfl | rfl | rfl <;> rfl
/-- So many of two rows are the same. -/
def smF (l k : List PR) : Nat → Bool
  | 0 => true
  | j + 1 => smF l k j && samP (l.getD j pr0) (k.getD j pr0)
theorem smF_succ {l k : List PR} {j : Nat} {p q : PR} (hp : l[j]? = some p) (hq : k[j]? = some q) : smF l k (j + 1) = (smF l k j && samP p q) := by
  show (_ && samP (l.getD j pr0) (k.getD j pr0)) = _
  rw [List.getD_eq_getElem?_getD, List.getD_eq_getElem?_getD, hp, hq]; rfl
theorem smF_iff {l k : List PR} : ∀ {j : Nat}, j ≤ l.length → j ≤ k.length → (smF l k j = true ↔ ∀ i, i < j → l[i]? = k[i]?)
  | 0, _, _ => ⟨fun _ i h => by omega, fun _ => rfl⟩
  | j + 1, h1, h2 => by
    have hp : l[j]? = some (l[j]'(by omega)) := List.getElem?_eq_getElem _
    have hq : k[j]? = some (k[j]'(by omega)) := List.getElem?_eq_getElem _
    rw [smF_succ hp hq, Bool.and_eq_true, smF_iff (by omega) (by omega), samP_iff]
    constructor
    · rintro ⟨a, b⟩ i hi
      by_cases e : i = j
      · subst e; rw [hp, hq, b]
      · exact a i (by omega)
    · intro a
      refine ⟨fun i hi => a i (by omega), ?_⟩
      have := a j (by omega)
      rw [hp, hq] at this
      exact Option.some.inj this
theorem smF_eq {l k : List PR} {n m : Nat} (hl : l.length = n) (hk : k.length = m) : (((n : Int) == (m : Int)) && smF l k (min n m)) = true ↔ l = k := by
  rw [Bool.and_eq_true, smF_iff (by omega) (by omega)]
  constructor
  · rintro ⟨a, b⟩
    have a' : n = m := by have : (n : Int) = m := by simpa using a
                          omega
    refine List.ext_getElem? fun i => ?_
    by_cases hi : i < n
    · exact b i (by omega)
    · rw [List.getElem?_eq_none (by omega), List.getElem?_eq_none (by omega)]
  · rintro rfl
    exact ⟨by rw [← hl, ← hk]; simp, fun i _ => rfl⟩
theorem pcs_app {l m : List PR} {qs rs : List Value} (h : qs.length = l.length) : pcs (l ++ m) (qs ++ rs) = pcs l qs ++ pcs m rs := by
  unfold pcs
  rw [List.zipWith_append h.symm, List.flatten_append]
theorem infoPR : (Tryz.prog.info? 39).map (fun i => (i.zero, i.size, i.bytes)) = some (some (.agg #[.int .i64 0, .int .i64 0, .int .i64 0, .int .i64 0, .int .i64 0, .int .i64 0, .int .i64 0, .slice none 0 0, .int .i64 0, .int .i64 0]), 10, 96) := by kernel_rfl
/-- Two rows one behind the other, in a row of its own. -/
theorem pr_join {V : World} {base : Nat} {v : Value} {n m : Nat} {l k : List PR} {qs rs : List Value} (hv : V.ownsRow base 39 10 v (n + m) (pcs l qs ++ pcs k rs)) (hq : qs.length = l.length ∧ l.length = n) (hr : rs.length = k.length ∧ k.length = m)
    (hl : ∀ (j : Nat) p q, l[j]? = some p → qs[j]? = some q → In1 V q p.n.u) (hk : ∀ (j : Nat) p q, k[j]? = some p → rs[j]? = some q → In1 V q p.n.u) : ∃ A' c', v = .slice A' (n + m) c' ∧ Pr V A' (n + m) c' (l ++ k) := by
  obtain ⟨A', c', rfl, hs⟩ := SlA.owned hv
  refine ⟨A', c', rfl, qs ++ rs, ⟨by simp [hq.1, hr.1], by simp [hq.2, hr.2]⟩, by rw [pcs_app hq.1]; exact hs, fun j p q hp hqq => ?_⟩
  rcases Nat.lt_or_ge j l.length with h | h
  · rw [List.getElem?_append_left h] at hp
    rw [List.getElem?_append_left (by omega)] at hqq
    exact hl j p q hp hqq
  · rw [List.getElem?_append_right h] at hp
    rw [List.getElem?_append_right (by omega), hq.1] at hqq
    exact hk _ p q hp hqq
set_option maxHeartbeats 8000000 in
set_option maxRecDepth 100000 in
theorem apart_go (A : Option Addr) (n c : Nat) (l : List PR) (B : Option Addr) (m d : Nat) (k : List PR) (w : World) (hP : Pr w A n c l) (hi : ∀ p ∈ l, PrI p) (hP2 : Pr w B m d k) (hi2 : ∀ p ∈ k, PrI p) (hT : Tb w.heap.size w) (hB : Tab w) :
    Calls Tryz.prog 5 #[.slice A n c, .slice B m d] w fun e w' => e = .returned (.bool true) ∧ Below w.heap.size w w' := by
  have HT := hid hT; have HP := hid hP; have HI := hid hi; have HP2 := hid hP2; have HI2 := hid hi2
  have HTB := hid (fun (U : World) (hU : Below w.heap.size w U) => (show Tab U from hB.ext hU))
  have HL := hid hP.len; have HL2 := hid hP2.len
  have HLV := hid (live15_any w hT HTB.out)
  have hnm : n ≤ 9223372036854775807 := by have := hP.nc; unfold maxLen at this; omega
  have hnm2 : m ≤ 9223372036854775807 := by have := hP2.nc; unfold maxLen at this; omega
  clear hT hP hi hP2 hi2 hB
  go_enter Tryz.func5, Tryz.ntmps5
  go_wp2_with fail
  refine HLV.out.mono ?_
  rintro e w1 ⟨rfl, b1⟩
  have HB1 := hid b1
  have HFW := hid (few15_any (Tr.nil w1) (HP.out.ext b1))
  clear b1 HLV
  rcases hfw : few15 [] l with _ | _
  · rw [hfw] at HFW
    clear hfw
    go_wp2_with fail
    refine HFW.out.mono ?_
    rintro e w2 ⟨rfl, b2⟩
    have HB2 := hid (HB1.out.trans (b2.mono HB1.out.size))
    clear b2 HFW
    go_wp2_with fail
    go_ret
    exact ⟨rfl, HB2.out⟩
  rw [hfw] at HFW
  obtain ⟨fl, fu, -⟩ := few_len hfw
  have hn30 : n ≤ 30 := by rw [HL.out] at fl; exact fl
  have HFU := hid fu
  clear hfw fl fu
  go_wp2_with fail
  refine HFW.out.mono ?_
  rintro e w2 ⟨rfl, b2⟩
  have HB2 := hid (HB1.out.trans (b2.mono HB1.out.size))
  clear b2 HFW HB1
  have HFW := hid (few15_any (Tr.nil w2) (HP2.out.ext HB2.out))
  rcases hfw : few15 [] k with _ | _
  · rw [hfw] at HFW
    clear hfw
    go_wp2_with fail
    refine HFW.out.mono ?_
    rintro e w3 ⟨rfl, b3⟩
    have HB3 := hid (HB2.out.trans (b3.mono HB2.out.size))
    clear b3 HFW
    go_wp2_with fail
    go_ret
    exact ⟨rfl, HB3.out⟩
  rw [hfw] at HFW
  obtain ⟨fl, fu, -⟩ := few_len hfw
  have hm30 : m ≤ 30 := by rw [HL2.out] at fl; exact fl
  have HFU2 := hid fu
  clear hfw fl fu
  go_wp2_with fail
  refine HFW.out.mono ?_
  rintro e w3 ⟨rfl, b3⟩
  have HB3 := hid (HB2.out.trans (b3.mono HB2.out.size))
  clear b3 HFW HB2
  have HTW := hid (two15_any w3 (Tb.up (HT.out.on HB3.out) HB3.out.size))
  have HTR := hid (Tb.up (HT.out.on HB3.out) HB3.out.size)
  go_wp2_with fail
  refine HTW.out.mono ?_
  rintro e w4 ⟨sa, sb, Z, Z', rfl, htx⟩
  have HTX := hid htx
  clear htx HTW
  go_upto_region 5 with fail
  have HBL := hid (HB3.out.trans (HTX.out.a.bl.mono HB3.out.size))
  obtain ⟨qs, hq, hs1, hin⟩ := HP.out.ext HBL.out
  obtain ⟨rs, hr, hs2, hin2⟩ := HP2.out.ext HBL.out
  have HIN := hid hin; have HIN2 := hid hin2; have HS1 := hid hs1; have HS2 := hid hs2
  obtain ⟨i0, hii, hz0, hz1, hz2⟩ := info_parts infoPR
  clear hs1 hs2 hin hin2
  go_upto_region 6 with (first
    | (at_builtin; refine wpList_append_new _ rfl _ _ 23 rfl 39 i0 _ 10 96 Tryz.underlying23 hii hz0 hz1 hz2 rfl (by decide) rfl A n c (pcs l qs) rfl HS1.out (pcs_one HIN.out) (by unfold maxLen; omega) (by omega) ?_; intro v5 w5 own5 bl5; have B5 := hid bl5; have OW5 := hid own5; have S2 := hid (HS2.out.ext bl5); have hz5 := bl5.size; obtain ⟨A5, c5, rfl, -⟩ := SlA.owned own5; clear own5 bl5)
    | (at_builtin; refine wpList_append_sl _ rfl _ _ 23 rfl w4.heap.size 39 i0 _ 10 96 Tryz.underlying23 hii hz0 hz1 hz2 rfl (by decide) (.slice A5 n c5) n (pcs l qs) rfl OW5.out B m d (pcs k rs) rfl S2.out (pcs_one HIN2.out) (by unfold maxLen; omega) (by omega) hz5 ?_; intro v6 w6 own6 gr6 loc6; have B6 := hid (show Below w4.heap.size w4 w6 from B5.out.grown gr6 hz5 fun b hb => (OW5.out.lt b hb).1); obtain ⟨A6, c6, e6, PJ⟩ := pr_join own6 hq hr (fun j p q h1 h2 => (HIN.out j p q h1 h2).ext B6.out) (fun j p q h1 h2 => (HIN2.out j p q h1 h2).ext B6.out); subst e6; have HPJ := hid PJ; clear own6 gr6 loc6 PJ))
  have HBT := hid (HBL.out.trans (B6.out.mono HBL.out.size))
  have HTX6 := hid (HTX.out.ext B6.out)
  clear HS1 HS2 HIN HIN2 OW5 S2 B5 B6 HTX HBL hq hr hz5
  go_wp2_with fail
  go_loopw [36] (fun i wr => ∃ j : Nat, i = .int .i64 j ∧ j ≤ n + m ∧ Hid (∀ p ∈ (l ++ k).take j, paC p = true) ∧ Hid (Below w6.heap.size w6 wr)) (fun i _ => n + m - (intOf i).toNat)
  case atStart => exact ⟨0, rfl, by omega, hid (fun p h => by simp at h), hid (Below.refl _ _)⟩
  case round =>
    obtain ⟨j, hij, hj, HC, HB⟩ := hrel
    subst hij
    by_cases hlt : j < n + m
    · obtain ⟨b, o, p, A', c', rfl, hp, hsx, d0, d1, d2, d3, d4, d5, d6, d7, d8, d9⟩ := (HPJ.out.ext HB.out).at hlt
      have hlt' : (j : Int) < (n : Int) + (m : Int) := by omega
      have hpu : p.n.u.length ≤ 9223372036854775807 := by have := hsx.cm; have := hsx.nc; unfold maxLen at *; omega
      have HTK := hid (take_get9 hp)
      have HB1 := hid (show Below wr.heap.size wr (wr.alloc (prO p (.slice A' p.n.u.length c'))) from (Below.refl _ _).alloc (Nat.le_refl _) _)
      have HHO := hid (heap_alloc_new wr (prO p (.slice A' p.n.u.length c')))
      clear hp hsx
      unfold prO at HB1 HHO
      go_upto_region 8 with fail
      obtain ⟨bx, hbx⟩ : ∃ bx, bx = wr.heap.size := ⟨_, rfl⟩
      rw [← hbx] at HHO ⊢
      clear d0 d1 d2 d3 d4 d5 d6 d7 d8 d9 hbx
      refine forget (R := fun V => Below wr.heap.size wr V ∧ V.heap[bx]? = some (prO p (.slice A' p.n.u.length c'))) ?_ ⟨HB1.out, HHO.out⟩
      clear HB1 HHO
      rintro V ⟨bv, ho⟩
      have HBX := hid (HBT.out.trans ((HB.out.trans (bv.mono HB.out.size)).mono HBT.out.size))
      have HBX6 := hid (HB.out.trans (bv.mono HB.out.size))
      have HHO := hid ho
      obtain ⟨x0, x1, x2, x3, x4, x5, x6, x7, x8, x9⟩ := prA10 ho
      have HZ := hid (rzero_any p.n A' c' V)
      clear bv ho HB
      have HBW := HBX
      by_cases h1 : p.k = 1
      · have hk := h1
        clear h1
        have hk1 : (p.k == 1) = true := by rw [hk]; rfl
        have hk3 : (p.k != 3) = true := by rw [hk]; rfl
        have hk4 : (p.k != 4) = true := by rw [hk]; rfl
        have hk5 : (p.k != 5) = true := by rw [hk]; rfl
        have HK := hid hk
        clear hk HZ
        rcases hn : (p.n.k != 1) with _ | _
        case true =>
          go_wp2_with fail
          go_ret
          exact ⟨rfl, HBW.out⟩
        by_cases hu : 0 < p.n.u.length
        case pos =>
          have hu' : (0 : Int) < (p.n.u.length : Int) := by omega
          go_wp2_with fail
          go_ret
          exact ⟨rfl, HBW.out⟩
        have hu' : ¬ (0 : Int) < (p.n.u.length : Int) := by omega
        rcases ha : (p.a != 0) with _ | _
        case true =>
          go_wp2_with fail
          go_ret
          exact ⟨rfl, HBW.out⟩
        rcases ht : (p.t != 0) with _ | _
        case true =>
          go_wp2_with fail
          go_ret
          exact ⟨rfl, HBW.out⟩
        have HCN := hid (show paC p = true from by
          have e1 : p.n.k = 1 := by simpa using hn
          have e2 : p.a = 0 := by simpa using ha
          have e3 : p.t = 0 := by simpa using ht
          unfold paC
          rw [if_pos (by have := HK.out; omega), e1, e2, e3, show p.n.u.length = 0 by omega]
          simp)
        go_wp2_with fail
        go_roundw
        case rel => exact ⟨j + 1, by go_num, by omega, hid (fun p' hp' => by
          rw [HTK.out] at hp'
          rcases List.mem_append.1 hp' with h | h
          · exact HC.out p' h
          · rw [List.mem_singleton.1 h]; exact HCN.out), HBX6⟩
        case measure => simp [intOf]; omega
      by_cases h2 : p.k = 2
      · have hk := h2
        clear h1 h2
        have hk1 : (p.k == 1) = false := by rw [hk]; rfl
        have hk2 : (p.k == 2) = true := by rw [hk]; rfl
        have hk3 : (p.k != 3) = true := by rw [hk]; rfl
        have hk4 : (p.k != 4) = true := by rw [hk]; rfl
        have hk5 : (p.k != 5) = true := by rw [hk]; rfl
        have HK := hid hk
        clear hk HZ
        rcases hn : (p.n.k != 1) with _ | _
        case true =>
          go_wp2_with fail
          go_ret
          exact ⟨rfl, HBW.out⟩
        by_cases hu : 0 < p.n.u.length
        case pos =>
          have hu' : (0 : Int) < (p.n.u.length : Int) := by omega
          go_wp2_with fail
          go_ret
          exact ⟨rfl, HBW.out⟩
        have hu' : ¬ (0 : Int) < (p.n.u.length : Int) := by omega
        rcases ha : (p.a != 0) with _ | _
        case true =>
          go_wp2_with fail
          go_ret
          exact ⟨rfl, HBW.out⟩
        rcases ht : (p.t != 0) with _ | _
        case true =>
          go_wp2_with fail
          go_ret
          exact ⟨rfl, HBW.out⟩
        have HCN := hid (show paC p = true from by
          have e1 : p.n.k = 1 := by simpa using hn
          have e2 : p.a = 0 := by simpa using ha
          have e3 : p.t = 0 := by simpa using ht
          unfold paC
          rw [if_pos (by have := HK.out; omega), e1, e2, e3, show p.n.u.length = 0 by omega]
          simp)
        go_wp2_with fail
        go_roundw
        case rel => exact ⟨j + 1, by go_num, by omega, hid (fun p' hp' => by
          rw [HTK.out] at hp'
          rcases List.mem_append.1 hp' with h | h
          · exact HC.out p' h
          · rw [List.mem_singleton.1 h]; exact HCN.out), HBX6⟩
        case measure => simp [intOf]; omega
      clear HBW
      by_cases h3 : p.k = 3
      · have hk := h3
        clear h1 h2 h3
        have hk1 : (p.k == 1) = false := by rw [hk]; rfl
        have hk2 : (p.k == 2) = false := by rw [hk]; rfl
        have hk3 : (p.k != 3) = false := by rw [hk]; rfl
        have hk4 : (p.k != 4) = true := by rw [hk]; rfl
        have hk5 : (p.k != 5) = true := by rw [hk]; rfl
        have HK := hid (show ¬ (p.k = 1 ∨ p.k = 2) from by omega)
        clear hk
        rcases hz : zerB p.n with _ | _
        case false =>
          rw [hz] at HZ
          clear hz
          go_wp2_with fail
          refine HZ.out.mono ?_
          rintro e w8 ⟨rfl, hb8⟩
          have HBW := hid (HBX.out.trans (hb8.mono HBX.out.size))
          have HBW6 := hid (HBX6.out.trans (hb8.mono HBX6.out.size))
          have HB8 := hid hb8
          obtain ⟨z0, z1, z2, z3, z4, z5, z6, z7, z8, z9⟩ := prA10 ((hb8.block _ (Array.getElem?_eq_some_iff.1 HHO.out).1).trans HHO.out)
          clear hb8 HZ
          go_wp2_with fail
          go_ret
          exact ⟨rfl, HBW.out⟩
        rw [hz] at HZ
        have HZN := hid hz
        clear hz
        go_wp2_with fail
        refine HZ.out.mono ?_
        rintro e w8 ⟨rfl, hb8⟩
        have HBW := hid (HBX.out.trans (hb8.mono HBX.out.size))
        have HBW6 := hid (HBX6.out.trans (hb8.mono HBX6.out.size))
        have HB8 := hid hb8
        obtain ⟨z0, z1, z2, z3, z4, z5, z6, z7, z8, z9⟩ := prA10 ((hb8.block _ (Array.getElem?_eq_some_iff.1 HHO.out).1).trans HHO.out)
        clear hb8 HZ
        rcases ht : (p.t != 0) with _ | _
        case true =>
          go_wp2_with fail
          go_ret
          exact ⟨rfl, HBW.out⟩
        have HCN := hid (show paC p = true from by
          unfold paC
          rw [if_neg HK.out, HZN.out]
          have e1 : p.k = 3 := by simpa using hk3
          have e3 : p.t = 0 := by simpa using ht
          rw [e1, e3]; rfl)
        go_wp2_with fail
        go_roundw
        case rel => exact ⟨j + 1, by go_num, by omega, hid (fun p' hp' => by
          rw [HTK.out] at hp'
          rcases List.mem_append.1 hp' with h | h
          · exact HC.out p' h
          · rw [List.mem_singleton.1 h]; exact HCN.out), HBW6⟩
        case measure => simp [intOf]; omega
      by_cases h4 : p.k = 4
      · have hk := h4
        clear h1 h2 h3 h4
        have hk1 : (p.k == 1) = false := by rw [hk]; rfl
        have hk2 : (p.k == 2) = false := by rw [hk]; rfl
        have hk3 : (p.k != 3) = true := by rw [hk]; rfl
        have hk4 : (p.k != 4) = false := by rw [hk]; rfl
        have hk5 : (p.k != 5) = true := by rw [hk]; rfl
        have HK := hid (show ¬ (p.k = 1 ∨ p.k = 2) from by omega)
        clear hk
        rcases hz : zerB p.n with _ | _
        case false =>
          rw [hz] at HZ
          clear hz
          go_wp2_with fail
          refine HZ.out.mono ?_
          rintro e w8 ⟨rfl, hb8⟩
          have HBW := hid (HBX.out.trans (hb8.mono HBX.out.size))
          have HBW6 := hid (HBX6.out.trans (hb8.mono HBX6.out.size))
          have HB8 := hid hb8
          obtain ⟨z0, z1, z2, z3, z4, z5, z6, z7, z8, z9⟩ := prA10 ((hb8.block _ (Array.getElem?_eq_some_iff.1 HHO.out).1).trans HHO.out)
          clear hb8 HZ
          go_wp2_with fail
          go_ret
          exact ⟨rfl, HBW.out⟩
        rw [hz] at HZ
        have HZN := hid hz
        clear hz
        go_wp2_with fail
        refine HZ.out.mono ?_
        rintro e w8 ⟨rfl, hb8⟩
        have HBW := hid (HBX.out.trans (hb8.mono HBX.out.size))
        have HBW6 := hid (HBX6.out.trans (hb8.mono HBX6.out.size))
        have HB8 := hid hb8
        obtain ⟨z0, z1, z2, z3, z4, z5, z6, z7, z8, z9⟩ := prA10 ((hb8.block _ (Array.getElem?_eq_some_iff.1 HHO.out).1).trans HHO.out)
        clear hb8 HZ
        rcases ha : (p.a != 0) with _ | _
        case true =>
          go_wp2_with fail
          go_ret
          exact ⟨rfl, HBW.out⟩
        have HCN := hid (show paC p = true from by
          unfold paC
          rw [if_neg HK.out, HZN.out]
          have e1 : p.k = 4 := by simpa using hk4
          have e2 : p.a = 0 := by simpa using ha
          rw [e1, e2]; rfl)
        go_wp2_with fail
        go_roundw
        case rel => exact ⟨j + 1, by go_num, by omega, hid (fun p' hp' => by
          rw [HTK.out] at hp'
          rcases List.mem_append.1 hp' with h | h
          · exact HC.out p' h
          · rw [List.mem_singleton.1 h]; exact HCN.out), HBW6⟩
        case measure => simp [intOf]; omega
      by_cases h5 : p.k = 5
      · have hk := h5
        clear h1 h2 h3 h4 h5
        have hk1 : (p.k == 1) = false := by rw [hk]; rfl
        have hk2 : (p.k == 2) = false := by rw [hk]; rfl
        have hk3 : (p.k != 3) = true := by rw [hk]; rfl
        have hk4 : (p.k != 4) = true := by rw [hk]; rfl
        have hk5 : (p.k != 5) = false := by rw [hk]; rfl
        have HK := hid (show ¬ (p.k = 1 ∨ p.k = 2) from by omega)
        clear hk
        rcases hz : zerB p.n with _ | _
        case false =>
          rw [hz] at HZ
          clear hz
          go_wp2_with fail
          refine HZ.out.mono ?_
          rintro e w8 ⟨rfl, hb8⟩
          have HBW := hid (HBX.out.trans (hb8.mono HBX.out.size))
          have HBW6 := hid (HBX6.out.trans (hb8.mono HBX6.out.size))
          have HB8 := hid hb8
          obtain ⟨z0, z1, z2, z3, z4, z5, z6, z7, z8, z9⟩ := prA10 ((hb8.block _ (Array.getElem?_eq_some_iff.1 HHO.out).1).trans HHO.out)
          clear hb8 HZ
          go_wp2_with fail
          go_ret
          exact ⟨rfl, HBW.out⟩
        rw [hz] at HZ
        have HZN := hid hz
        clear hz
        go_wp2_with fail
        refine HZ.out.mono ?_
        rintro e w8 ⟨rfl, hb8⟩
        have HBW := hid (HBX.out.trans (hb8.mono HBX.out.size))
        have HBW6 := hid (HBX6.out.trans (hb8.mono HBX6.out.size))
        have HB8 := hid hb8
        obtain ⟨z0, z1, z2, z3, z4, z5, z6, z7, z8, z9⟩ := prA10 ((hb8.block _ (Array.getElem?_eq_some_iff.1 HHO.out).1).trans HHO.out)
        clear hb8 HZ
        rcases ha : (p.a != 0) with _ | _
        case true =>
          go_wp2_with fail
          go_ret
          exact ⟨rfl, HBW.out⟩
        have HCN := hid (show paC p = true from by
          unfold paC
          rw [if_neg HK.out, HZN.out]
          have e1 : p.k = 5 := by simpa using hk5
          have e2 : p.a = 0 := by simpa using ha
          rw [e1, e2]; rfl)
        go_wp2_with fail
        go_roundw
        case rel => exact ⟨j + 1, by go_num, by omega, hid (fun p' hp' => by
          rw [HTK.out] at hp'
          rcases List.mem_append.1 hp' with h | h
          · exact HC.out p' h
          · rw [List.mem_singleton.1 h]; exact HCN.out), HBW6⟩
        case measure => simp [intOf]; omega
      have hk1 : (p.k == 1) = false := beq_eq_false_iff_ne.2 h1
      have hk2 : (p.k == 2) = false := beq_eq_false_iff_ne.2 h2
      have hk3 : (p.k != 3) = true := bne_iff_ne.2 h3
      have hk4 : (p.k != 4) = true := bne_iff_ne.2 h4
      have hk5 : (p.k != 5) = true := bne_iff_ne.2 h5
      have HK := hid (show ¬ (p.k = 1 ∨ p.k = 2) from by omega)
      clear h1 h2 h3 h4 h5
      rcases hz : zerB p.n with _ | _
      case false =>
        rw [hz] at HZ
        clear hz
        go_wp2_with fail
        refine HZ.out.mono ?_
        rintro e w8 ⟨rfl, hb8⟩
        have HBW := hid (HBX.out.trans (hb8.mono HBX.out.size))
        have HBW6 := hid (HBX6.out.trans (hb8.mono HBX6.out.size))
        have HB8 := hid hb8
        obtain ⟨z0, z1, z2, z3, z4, z5, z6, z7, z8, z9⟩ := prA10 ((hb8.block _ (Array.getElem?_eq_some_iff.1 HHO.out).1).trans HHO.out)
        clear hb8 HZ
        go_wp2_with fail
        go_ret
        exact ⟨rfl, HBW.out⟩
      rw [hz] at HZ
      have HZN := hid hz
      clear hz
      go_wp2_with fail
      refine HZ.out.mono ?_
      rintro e w8 ⟨rfl, hb8⟩
      have HBW := hid (HBX.out.trans (hb8.mono HBX.out.size))
      have HBW6 := hid (HBX6.out.trans (hb8.mono HBX6.out.size))
      have HB8 := hid hb8
      obtain ⟨z0, z1, z2, z3, z4, z5, z6, z7, z8, z9⟩ := prA10 ((hb8.block _ (Array.getElem?_eq_some_iff.1 HHO.out).1).trans HHO.out)
      clear hb8 HZ
      rcases ha : (p.a != 0) with _ | _
      case true =>
        go_wp2_with fail
        go_ret
        exact ⟨rfl, HBW.out⟩
      rcases ht : (p.t != 0) with _ | _
      case true =>
        go_wp2_with fail
        go_ret
        exact ⟨rfl, HBW.out⟩
      have HCN := hid (show paC p = true from by
        unfold paC
        rw [if_neg HK.out, HZN.out]
        have e2 : p.a = 0 := by simpa using ha
        have e3 : p.t = 0 := by simpa using ht
        rw [e2, e3]; simp)
      go_wp2_with fail
      go_roundw
      case rel => exact ⟨j + 1, by go_num, by omega, hid (fun p' hp' => by
        rw [HTK.out] at hp'
        rcases List.mem_append.1 hp' with h | h
        · exact HC.out p' h
        · rw [List.mem_singleton.1 h]; exact HCN.out), HBW6⟩
      case measure => simp [intOf]; omega
    · have hlt' : ¬ (j : Int) < (n : Int) + (m : Int) := by omega
      have HPC := hid (show ∀ p ∈ l ++ k, paC p = true from by
        have := HC.out
        rw [List.take_of_length_le (by rw [List.length_append, HL.out, HL2.out]; omega)] at this
        exact this)
      have HTX7 := hid (HTX6.out.ext HB.out)
      have HPL := hid (HP.out.ext HB3.out)
      have HPK := hid (HP2.out.ext HB3.out)
      have HFX := hid (fun (U : World) (Zu : Nat → Prop) (X Y : List ND) (h : Tx w3 U sa sb Zu Z' X Y) => (show (Fx U Zu fun V => Pr V A n c l) ∧ (Fx U Zu fun V => Pr V B m d k) from
        ⟨⟨fun b => b < w3.heap.size, fun b hb => ⟨fun hz => by have := h.a.z b hz; omega, Nat.lt_of_lt_of_le hb h.a.bl.size⟩, fun V hv => HPL.out.keep fun b o u hc => (World.cell?_of_block (a := ⟨b, o, none⟩) ((hv b (block_lt_of_cell hc)).trans (h.a.bl.block b (block_lt_of_cell hc)))).trans hc⟩,
          ⟨fun b => b < w3.heap.size, fun b hb => ⟨fun hz => by have := h.a.z b hz; omega, Nat.lt_of_lt_of_le hb h.a.bl.size⟩, fun V hv => HPK.out.keep fun b o u hc => (World.cell?_of_block (a := ⟨b, o, none⟩) ((hv b (block_lt_of_cell hc)).trans (h.a.bl.block b (block_lt_of_cell hc)))).trans hc⟩⟩))
      have HTM := hid (l_pterm HTX7.out.a HTR.out (HFX.out _ _ _ _ HTX7.out).1 (by omega) HI.out)
      obtain ⟨⟨X1, i1, e1⟩, hq⟩ : ∃ q, q = prF x15 l := ⟨_, rfl⟩
      have HQ1 := hid hq
      rw [← hq] at HTM
      unfold LrS at HTM
      clear hq HB HC HTX6 HPJ HBT hlt
      go_wp2_with fail
      refine HTM.out.mono ?_
      rintro e w7 ⟨Z7, rfl, l7, m7⟩
      have HTX8 := hid (HTX7.out.onA l7 m7)
      have HTM2 := hid (l_pterm HTX8.out.a HTR.out (HFX.out _ _ _ _ HTX8.out).2 (by omega) HI2.out)
      obtain ⟨⟨X2, i2, e2⟩, hq⟩ : ∃ q, q = prF X1 k := ⟨_, rfl⟩
      have HQ2 := hid hq
      try dsimp only at HTM2
      rw [← hq] at HTM2
      unfold LrS at HTM2
      clear hq HTX7 HTM l7 m7
      go_wp2_with fail
      refine HTM2.out.mono ?_
      rintro e w8 ⟨Z8, rfl, l8, m8⟩
      have HTX9 := hid (HTX8.out.onA l8 m8)
      have HBE := hid (HB3.out.trans (HTX9.out.a.bl.mono HB3.out.size))
      clear l8 m8 HTM2 HTX8 HFX
      by_cases h1 : e1 = 0
      case neg =>
        have h1' : (e1 != 0) = true := bne_iff_ne.2 h1
        clear h1
        go_wp2_with fail
        go_ret
        exact ⟨rfl, HBE.out⟩
      by_cases h2 : e2 = 0
      case neg =>
        have h1' : (e1 != 0) = false := by rw [h1]; rfl
        have h2' : (e2 != 0) = true := bne_iff_ne.2 h2
        clear h2 h1
        go_wp2_with fail
        go_ret
        exact ⟨rfl, HBE.out⟩
      have HAP := hid (two_apart (V := X2) HTX9.out.a.ar.ok (x := i1) (y := i2) (by rw [← HQ1.out, h1]) (by rw [← HQ2.out, h2]) (fun p hp => HPC.out p (List.mem_append_left _ hp)) (fun p hp => HPC.out p (List.mem_append_right _ hp)))
      have h1' : (e1 != 0) = false := by rw [h1]; rfl
      have h2' : (e2 != 0) = false := by rw [h2]; rfl
      have HB9 := hid HTX9.out.a.bl
      have HSE := hid (smF_eq HL.out HL2.out)
      obtain ⟨mn, hmn⟩ : ∃ mn : Nat, mn = min n m := ⟨_, rfl⟩
      have hmn' : min (n : Int) (m : Int) = (mn : Int) := by omega
      have HMN := hid hmn
      rw [← hmn] at HSE
      clear h1 h2 HQ1 HQ2 HPC HTX9 hmn HBE
      go_wp2_with fail
      go_loopw [128, 15] (fun i s wr => ∃ j : Nat, i = .int .i64 j ∧ j ≤ mn ∧ s = .bool (((n : Int) == (m : Int)) && smF l k j) ∧ Hid (Below w3.heap.size w3 wr)) (fun i _ _ => mn - (intOf i).toNat)
      case atStart => exact ⟨0, rfl, by omega, by rw [show smF l k 0 = true from rfl, Bool.and_true], HB9⟩
      case round =>
        clear HB9
        obtain ⟨j, hij, hj, hs, HB⟩ := hrel
        subst hij; subst hs
        by_cases hlt : j < mn
        · have hjn : j < n := by have := HMN.out; omega
          have hjm : j < m := by have := HMN.out; omega
          have hlt' : (j : Int) < (mn : Int) := by omega
          have hjn' : (j : Int) < (n : Int) := by omega
          have hjm' : (j : Int) < (m : Int) := by omega
          obtain ⟨b, o, p, Ap, cp, rfl, hp, hsp, hcp⟩ := (HPL.out.ext HB.out).at hjn
          obtain ⟨b2, o2, q, Aq, cq, rfl, hq, hsq, hcq⟩ := (HPK.out.ext HB.out).at hjm
          have HSU := hid (smF_succ hp hq)
          have HPP2 := hid (show p.n.u.length ≤ 2147483648 from by have := HFU.out p (List.mem_of_getElem? hp); omega)
          have HQQ2 := hid (show q.n.u.length ≤ 2147483648 from by have := HFU2.out q (List.mem_of_getElem? hq); omega)
          have hcp' : PcC wr b o j p Ap cp := hcp
          have hcq' : PcC wr b2 o2 j q Aq cq := hcq
          have HSM := hid (fun (U : World) (hU : Below wr.heap.size wr U) => psame_any (hsp.ext hU) (hsq.ext hU) HPP2.out HQQ2.out)
          have HCE := hid (fun (U : World) (hU : Below wr.heap.size wr U) => And.intro (hcp'.ext hU) (hcq'.ext hU))
          unfold prV at HSM
          unfold PcC at HCE
          have DZ := hid (Below.refl wr.heap.size wr)
          have HNS := hid (show (((n : Int) == (m : Int)) && smF l k (j + 1)) = ((((n : Int) == (m : Int)) && smF l k j) && samP p q) from by rw [HSU.out, Bool.and_assoc])
          clear hp hq hsp hsq hcp hcq hcp' hcq' HSU
          generalize samP p q = z at *
          generalize hbb : (((n : Int) == (m : Int)) && smF l k j) = bb at *
          clear hbb
          rcases bb with _ | _
          · go_upto_region 20 with fail
            go_quiet (fail)
            go_wp2_with fail
            go_roundw
            case rel => exact ⟨j + 1, by go_num, by omega, by rw [HNS.out]; rfl, hid (by first | exact below_drewN HB.out _ | exact below_drew HB.out | exact HB.out)⟩
            case measure => simp [intOf]; omega
          · go_upto_region 20 with fail
            go_region_held3 (fun U => (U.cell? ⟨b, o + j * 10, none⟩ = some (.int .i64 p.k) ∧ U.cell? ⟨b, o + j * 10 + 1, none⟩ = some (.int .i64 p.f) ∧ U.cell? ⟨b, o + j * 10 + 2, none⟩ = some (.int .i64 p.n.k) ∧ U.cell? ⟨b, o + j * 10 + 3, none⟩ = some (.int .i64 p.n.i) ∧ U.cell? ⟨b, o + j * 10 + 4, none⟩ = some (.int .i64 p.n.e) ∧ U.cell? ⟨b, o + j * 10 + 5, none⟩ = some (.int .i64 p.n.s) ∧ U.cell? ⟨b, o + j * 10 + 6, none⟩ = some (.int .i64 p.n.h) ∧ U.cell? ⟨b, o + j * 10 + 7, none⟩ = some (.slice Ap p.n.u.length cp) ∧ U.cell? ⟨b, o + j * 10 + 8, none⟩ = some (.int .i64 p.a) ∧ U.cell? ⟨b, o + j * 10 + 9, none⟩ = some (.int .i64 p.t)) ∧ (U.cell? ⟨b2, o2 + j * 10, none⟩ = some (.int .i64 q.k) ∧ U.cell? ⟨b2, o2 + j * 10 + 1, none⟩ = some (.int .i64 q.f) ∧ U.cell? ⟨b2, o2 + j * 10 + 2, none⟩ = some (.int .i64 q.n.k) ∧ U.cell? ⟨b2, o2 + j * 10 + 3, none⟩ = some (.int .i64 q.n.i) ∧ U.cell? ⟨b2, o2 + j * 10 + 4, none⟩ = some (.int .i64 q.n.e) ∧ U.cell? ⟨b2, o2 + j * 10 + 5, none⟩ = some (.int .i64 q.n.s) ∧ U.cell? ⟨b2, o2 + j * 10 + 6, none⟩ = some (.int .i64 q.n.h) ∧ U.cell? ⟨b2, o2 + j * 10 + 7, none⟩ = some (.slice Aq q.n.u.length cq) ∧ U.cell? ⟨b2, o2 + j * 10 + 8, none⟩ = some (.int .i64 q.a) ∧ U.cell? ⟨b2, o2 + j * 10 + 9, none⟩ = some (.int .i64 q.t)))
              (first | exact HCE.out _ N1.out | exact HCE.out _ DZ.out | exact HCE.out _ (below_drew DZ.out) | go_keep) (first
              | (go_at_call 18; refine (HSM.out _ (by first | exact below_drew DZ.out | exact DZ.out)).mono ?_; rintro e u1 ⟨rfl, b1⟩; have N1 := hid (show Below wr.heap.size wr u1 from (by first | exact (below_drew DZ.out).trans (b1.mono (below_drew DZ.out).size) | exact DZ.out.trans b1)); clear b1))
            all_goals
              go_wp2_with fail
              go_roundw
              case rel => exact ⟨j + 1, by go_num, by omega, by rw [HNS.out]; first | rfl | simp, hid (by first | exact HB.out.trans (N1.out.mono HB.out.size) | exact HB.out.trans ((below_drew N1.out).mono HB.out.size))⟩
              case measure => simp [intOf]; omega
        · have hjm : j = mn := by omega
          subst hjm
          have HBE := hid (HB3.out.trans (HB.out.mono HB3.out.size))
          have HEQ := hid (show (i1 == i2) = (((n : Int) == (m : Int)) && smF l k j) from by
            rcases hz : (((n : Int) == (m : Int)) && smF l k j) with _ | _
            · refine beq_eq_false_iff_ne.2 fun e => ?_
              have := HSE.out.2 (HAP.out.1 e)
              rw [hz] at this; cases this
            · exact beq_iff_eq.2 (HAP.out.2 (HSE.out.1 hz)))
          generalize (((n : Int) == (m : Int)) && smF l k j) = z at *
          rcases z with _ | _
          · have h12 := HEQ.out
            go_wp2_with fail
            go_ret
            exact ⟨rfl, HBE.out⟩
          · have h12 := HEQ.out
            go_wp2_with fail
            go_ret
            exact ⟨rfl, HBE.out⟩
end Go.Proofs.YtpkijlmkgomfeaaGreatDoor

/- Arguments opened: what the walk is told of a value that can be read. Of no program. -/
namespace Go.KK
open Go.ChangeShapes Go.WideShapes Go.ChangeAt Go.RowKit Go.Deep
set_option linter.unusedVariables false
set_option linter.unusedSimpArgs false

section
variable {H : Type} {enc : TypeId × Value → H} {P : Program} {w : World} {base : Nat} {spare : Nat → Bool} {held : Bool}
end
end Go.KK

/- Arguments opened: a row of term's nodes. Of no program. -/
namespace Go.KK
open Go.ChangeShapes Go.WideShapes Go.ChangeAt Go.RowKit Go.Deep
set_option linter.unusedVariables false
set_option linter.unusedSimpArgs false

/-- What is known of a node that came in. -/
structure NdW (x : ND) : Prop where
  o : -9223372036854775808 ≤ x.o ∧ x.o ≤ 9223372036854775807
  n : -9223372036854775808 ≤ x.n ∧ x.n ≤ 9223372036854775807
  l : ∀ i ∈ x.l, -9223372036854775808 ≤ i ∧ i ≤ 9223372036854775807
  s : x.s.size ≤ maxLen
section
variable {H : Type} {enc : TypeId × Value → H} {P : Program} {w : World} {base : Nat} {spare : Nat → Bool} {held : Bool}
theorem trod_ints {fuel : Nat} {t e : TypeId} {k : IntKind} {v : Value} {y : DataW H × List MemPlace} (ht : P.underlying t = some (.slice e)) (he : P.underlying e = some (.int k)) (hc : P.cellsOf e = 1)
    (h : DataW.trod enc P w base spare held fuel t [v] = some y) : ∃ (A : Option Addr) (n c : Nat) (l : List Int), v = .slice A n c ∧ SlA w 1 A n c (l.map (Value.int k)) ∧ ∀ x ∈ l, (Lit.int k x).wf = true := by
  rcases open_ints ht he hc h with ⟨hcs, _⟩ | ⟨x, l, c', zs, hcs, _, hl, hm, hz, _, hcell, hwz⟩
  · injection hcs with hcs
    subst hcs
    exact ⟨_, _, _, [], rfl, SlA.nil _ _, by simp⟩
  · injection hcs with hcs
    subst hcs
    have hzl : l ≤ zs.length := by rw [hz]; split <;> omega
    refine ⟨_, _, _, zs.take l, rfl, ⟨hl, hm, by simp; omega, fun j u hj => ?_⟩, fun y hy => hwz y (List.mem_of_mem_take hy)⟩
    rw [List.getElem?_map, List.getElem?_take] at hj
    split at hj
    · rename_i hjn
      have hc := hcell j (by omega)
      have hjl : j < zs.length := by omega
      rw [List.getElem?_eq_getElem hjl] at hj
      simp only [Option.map_some, Option.some.injEq] at hj
      obtain ⟨b, off, spot⟩ := x
      have h0 := hcell 0 (by omega)
      have hspot : spot = none := by simpa [Addr.add] using World.cell?_spot h0
      subst hspot
      refine ⟨b, off, rfl, ?_⟩
      rw [add_lit] at hc
      rw [hc, ← hj, List.getD, List.getElem?_eq_getElem hjl]
      rfl
    · cases hj
theorem choose_list {α : Type} {Q : Nat → α → Prop} : ∀ (n : Nat), (∀ j, j < n → ∃ x, Q j x) → ∃ l : List α, l.length = n ∧ ∀ j x, l[j]? = some x → Q j x
  | 0, _ => ⟨[], rfl, fun j x h => by simp at h⟩
  | n + 1, h => by
    obtain ⟨l, hl, hq⟩ := choose_list n (fun j hj => h j (by omega))
    obtain ⟨x, hx⟩ := h n (by omega)
    refine ⟨l ++ [x], by simp [hl], fun j y hy => ?_⟩
    by_cases hj : j < n
    · rw [List.getElem?_append_left (by omega)] at hy
      exact hq j y hy
    · by_cases hjn : j = n
      · subst hjn
        rw [List.getElem?_append_right (by omega), hl, Nat.sub_self] at hy
        injection hy with hy
        rw [← hy]; exact hx
      · rw [List.getElem?_eq_none (by simp; omega)] at hy; cases hy
end
end Go.KK

/- Arguments opened: a node, and a row of nodes. -/
namespace Go.Proofs.YtpkijlmkgomfeaaGreatDoor
open Go.ChangeShapes Go.WideShapes Go.ChangeAt Go.RowKit Go.Deep Go.KK
set_option linter.unusedVariables false
set_option linter.unusedSimpArgs false

section
variable {H : Type} {enc : TypeId × Value → H} {P : Program} {w : World} {base : Nat} {spare : Nat → Bool} {held : Bool}
theorem wf_w64 {a : Int} (h : (Lit.int .i64 a).wf = true) : W64 a := by
  have := bounds_i64 h
  unfold W64
  omega
theorem fld_lo {fs : Array Field} {ti : TypeId} {k : Nat} {f : Field} (h : (fs.toList.take 5).all (fun f => f.type == ti) = true) (hk : k < 5) (hf : fs[k]? = some f) : f.type = ti := by
  have := List.all_eq_true.1 h f (List.mem_of_getElem? (i := k) (by rw [List.getElem?_take, if_pos hk]; simpa using hf))
  simpa using this
theorem fld_hi {fs : Array Field} {tl : TypeId} {f : Field} (h : (fs.toList.drop 5).all (fun f => f.type == tl) = true) (hf : fs[5]? = some f) : f.type = tl := by
  have := List.all_eq_true.1 h f (List.mem_of_getElem? (i := 0) (by rw [List.getElem?_drop]; simpa using hf))
  simpa using this
end
end Go.Proofs.YtpkijlmkgomfeaaGreatDoor

/- Arguments opened: a tree, its lists' numbers too. -/
namespace Go.Proofs.YtpkijlmkgomfeaaGreatDoor
open Go.ChangeShapes Go.WideShapes Go.ChangeAt Go.RowKit Go.Deep Go.KK
set_option linter.unusedVariables false
set_option linter.unusedSimpArgs false

section
variable {H : Type} {enc : TypeId × Value → H} {P : Program} {w : World} {base : Nat} {spare : Nat → Bool} {held : Bool}
/-- A node's cells that read. -/
theorem node_of_trod2 {fuel : Nat} {t ti tl : TypeId} {fs : Array Field} {cs : List Value} {y : DataW H × List MemPlace} (hs : P.underlying t = some (.struct fs)) (hone : oneCellFields P fs = true) (hsz : fs.size = 6) (hC : P.cellsOf t = 6)
    (h0 : (fs.toList.take 5).all (fun f => f.type == ti) = true) (h5 : (fs.toList.drop 5).all (fun f => f.type == tl) = true) (hti : P.underlying ti = some (.int .i64)) (htl : P.underlying tl = some (.slice ti)) (hci : P.cellsOf ti = 1)
    (h : DataW.trod enc P w base spare held fuel t cs = some y) : ∃ (x : TN) (q : Value), cs = x.cells q ∧ In1 w q x.u ∧ (W64 x.k ∧ W64 x.i ∧ W64 x.e ∧ W64 x.s ∧ W64 x.h) ∧ ∀ i ∈ x.u, I64 i := by
  have h0 := fun k f hk hf => fld_lo (k := k) (f := f) h0 hk hf
  have h5 := fun f hf => fld_hi (f := f) h5 hf
  obtain ⟨xs, n, _, _, hlen, hxl, hg⟩ := DataW.trod_struct hs h
  rw [hC] at hlen
  match cs, hlen with
  | [a0, a1, a2, a3, a4, a5], _ =>
    have fld : ∀ k (hk : k < 6), ∃ f z, fs[k]? = some f ∧ DataW.trod enc P w base spare held n f.type [([a0, a1, a2, a3, a4, a5])[k]] = some z := by
      intro k hk
      have hf : fs[k]? = some (fs[k]'(by omega)) := Array.getElem?_eq_getElem _
      obtain ⟨ho, hc⟩ := hone_of hone k _ hf
      have := hg k _ hf
      rw [ho, hc, List.drop_eq_getElem_cons (by simpa using hk)] at this
      exact ⟨_, _, hf, this.trans (List.getElem?_eq_getElem (by omega))⟩
    have num : ∀ k (hk : k < 5), ∃ a, ([a0, a1, a2, a3, a4, a5])[k]'(by simp; omega) = Value.int .i64 a ∧ W64 a := by
      intro k hk
      obtain ⟨f, z, hf, ht⟩ := fld k (by omega)
      rw [h0 k f hk hf] at ht
      obtain ⟨a, e, _, hw⟩ := DataW.trod_int hti ht
      injection e with e
      exact ⟨a, e, wf_w64 hw⟩
    obtain ⟨k, e0, w0⟩ := num 0 (by omega)
    obtain ⟨i, e1, w1⟩ := num 1 (by omega)
    obtain ⟨e, e2, w2⟩ := num 2 (by omega)
    obtain ⟨s, e3, w3⟩ := num 3 (by omega)
    obtain ⟨h', e4, w4⟩ := num 4 (by omega)
    obtain ⟨f, z, hf, ht⟩ := fld 5 (by omega)
    rw [h5 f hf] at ht
    obtain ⟨A, m, c, u, e5, hsl, hwu⟩ := trod_ints htl hti hci ht
    simp only [List.getElem_cons_zero, List.getElem_cons_succ] at e0 e1 e2 e3 e4 e5
    subst e0; subst e1; subst e2; subst e3; subst e4; subst e5
    have hm := hsl.lenI
    subst hm
    exact ⟨⟨k, i, e, s, h', u⟩, _, rfl, ⟨A, c, rfl, hsl⟩, ⟨w0, w1, w2, w3, w4⟩, fun i hi => bounds_i64 (hwu i hi)⟩
end
end Go.Proofs.YtpkijlmkgomfeaaGreatDoor

/- Arguments opened: a row of proposals. -/
namespace Go.Proofs.YtpkijlmkgomfeaaGreatDoor
open Go.ChangeShapes Go.WideShapes Go.ChangeAt Go.RowKit Go.Deep Go.KK
set_option linter.unusedVariables false
set_option linter.unusedSimpArgs false

section
variable {H : Type} {enc : TypeId × Value → H} {P : Program} {w : World} {base : Nat} {spare : Nat → Bool} {held : Bool}
theorem w64_i64 {a : Int} (h : W64 a) : I64 a := by unfold W64 at h; unfold I64; omega
/-- A proposal's cells that read. -/
theorem prop_of_trod {fuel : Nat} {t ti tl tn : TypeId} {fs gs : Array Field} {cs : List Value} {y : DataW H × List MemPlace} (hs : P.underlying t = some (.struct fs)) (hfs : fs.toList.map (fun f => (f.type, f.offset)) = [(ti, 0), (ti, 1), (tn, 2), (ti, 8), (ti, 9)]) (hC : P.cellsOf t = 10)
    (hsn : P.underlying tn = some (.struct gs)) (hone : oneCellFields P gs = true) (hsz : gs.size = 6) (hCn : P.cellsOf tn = 6)
    (h0 : (gs.toList.take 5).all (fun f => f.type == ti) = true) (h5 : (gs.toList.drop 5).all (fun f => f.type == tl) = true) (hti : P.underlying ti = some (.int .i64)) (htl : P.underlying tl = some (.slice ti)) (hci : P.cellsOf ti = 1)
    (h : DataW.trod enc P w base spare held fuel t cs = some y) : ∃ (p : PR) (q : Value), cs = p.cells q ∧ In1 w q p.n.u ∧ PrI p := by
  obtain ⟨xs, n, _, _, hlen, hxl, hg⟩ := DataW.trod_struct hs h
  rw [hC] at hlen
  have hf5 : fs.size = 5 := by have := congrArg List.length hfs; simpa using this
  match cs, hlen with
  | [a0, a1, a2, a3, a4, a5, a6, a7, a8, a9], _ =>
    have fld : ∀ (k : Nat) (ty : TypeId) (o : Nat), ([(ti, 0), (ti, 1), (tn, 2), (ti, 8), (ti, 9)] : List (TypeId × Nat))[k]? = some (ty, o) → ∃ z, DataW.trod enc P w base spare held n ty ((([a0, a1, a2, a3, a4, a5, a6, a7, a8, a9] : List Value).drop o).take (P.cellsOf ty)) = some z := by
      intro k ty o hk
      rw [← hfs, List.getElem?_map] at hk
      rcases hf : fs.toList[k]? with _ | f
      · rw [hf] at hk; cases hk
      · rw [hf] at hk
        injection hk with hk
        obtain ⟨e1, e2⟩ := Prod.mk.inj hk
        have hf' : fs[k]? = some f := by rw [← hf]; simp
        have := hg k f hf'
        rw [e1, e2] at this
        have hkl : k < xs.length := by
          have := (List.getElem?_eq_some_iff.1 hf).1
          simp at this
          omega
        exact ⟨_, this.trans (List.getElem?_eq_getElem hkl)⟩
    have num : ∀ (k o : Nat) (v : Value), ([(ti, 0), (ti, 1), (tn, 2), (ti, 8), (ti, 9)] : List (TypeId × Nat))[k]? = some (ti, o) → (([a0, a1, a2, a3, a4, a5, a6, a7, a8, a9] : List Value).drop o).take 1 = [v] → ∃ a, v = Value.int .i64 a ∧ I64 a := by
      intro k o v hk hv
      obtain ⟨z, hz⟩ := fld k ti o hk
      rw [hci, hv] at hz
      obtain ⟨a, e, _, hw⟩ := DataW.trod_int hti hz
      injection e with e
      exact ⟨a, e, bounds_i64 hw⟩
    obtain ⟨k, e0, w0⟩ := num 0 0 a0 rfl rfl
    obtain ⟨f, e1, w1⟩ := num 1 1 a1 rfl rfl
    obtain ⟨a, e8, w8⟩ := num 3 8 a8 rfl rfl
    obtain ⟨t', e9, w9⟩ := num 4 9 a9 rfl rfl
    obtain ⟨z, hz⟩ := fld 2 tn 2 rfl
    rw [hCn] at hz
    have hz' : DataW.trod enc P w base spare held n tn [a2, a3, a4, a5, a6, a7] = some z := hz
    obtain ⟨x, q, e, hin, ⟨v0, v1, v2, v3, v4⟩, hu⟩ := node_of_trod2 hsn hone hsz hCn h0 h5 hti htl hci hz'
    unfold TN.cells at e
    simp only [List.cons.injEq, and_true] at e
    obtain ⟨e2, e3, e4, e5, e6, e7⟩ := e
    subst e0; subst e1; subst e2; subst e3; subst e4; subst e5; subst e6; subst e7; subst e8; subst e9
    exact ⟨⟨k, f, x, a, t'⟩, _, rfl, hin, w0, w1, ⟨w64_i64 v1, w64_i64 v2, w64_i64 v3, w64_i64 v4⟩, w8, w9⟩
/-- A row of proposals that came in. -/
theorem opens_props {r : Reach} {b0 : Nat} {tt t ti tl tn : TypeId} {fs gs : Array Field} {v : Value} {d : DataW H} {p : List MemPlace} (htt : P.underlying tt = some (.slice t)) (hs : P.underlying t = some (.struct fs)) (hfs : fs.toList.map (fun f => (f.type, f.offset)) = [(ti, 0), (ti, 1), (tn, 2), (ti, 8), (ti, 9)]) (hC : P.cellsOf t = 10)
    (hsn : P.underlying tn = some (.struct gs)) (hone : oneCellFields P gs = true) (hsz : gs.size = 6) (hCn : P.cellsOf tn = 6)
    (h0 : (gs.toList.take 5).all (fun f => f.type == ti) = true) (h5 : (gs.toList.drop 5).all (fun f => f.type == tl) = true) (hti : P.underlying ti = some (.int .i64)) (htl : P.underlying tl = some (.slice ti)) (hci : P.cellsOf ti = 1)
    (hv : Value.okWide P w r b0 tt v) (h : DataW.Trod enc P w base spare held tt v d p) : ∃ A n c l, v = .slice A n c ∧ Pr w A n c l ∧ ∀ x ∈ l, PrI x := by
  obtain ⟨A, n, c, rfl⟩ := okWide_slice htt hv
  obtain ⟨fuel, hf⟩ := h
  rcases open_slice htt hf with ⟨hcs, _⟩ | ⟨a, len, cap, m, n', D, Pl, hcs, _, hl, hm, hmm, _, hi⟩
  · simp [Value.cells] at hcs
    obtain ⟨rfl, rfl, rfl⟩ := hcs
    exact ⟨_, _, _, [], rfl, ⟨[], ⟨rfl, rfl⟩, ⟨Nat.le_refl _, by unfold maxLen; omega, rfl, fun j u hj => by simp [pcs] at hj⟩, fun j p q hp _ => by simp at hp⟩, fun x h => by simp at h⟩
  · simp [Value.cells] at hcs
    obtain ⟨rfl, rfl, rfl⟩ := hcs
    have hnm : n ≤ m := by rw [hmm]; split <;> omega
    have each : ∀ j, j < n → ∃ xq : PR × Value, (∀ k, k < 10 → w.cell? (a.add (j * 10 + k)) = (xq.1.cells xq.2)[k]?) ∧ In1 w xq.2 xq.1.n.u ∧ PrI xq.1 := by
      intro j hj
      obtain ⟨cs', hc, ht⟩ := hi j (by omega)
      obtain ⟨x, q, e, hin, hw⟩ := prop_of_trod hs hfs hC hsn hone hsz hCn h0 h5 hti htl hci ht
      rw [hC] at hc
      obtain ⟨_, _, hat⟩ := World.cells?_some hc
      refine ⟨⟨x, q⟩, fun k hk => ?_, hin, hw⟩
      rw [← Go.Deep.add_add, hat k hk, e]
    obtain ⟨l, hll, hq⟩ := choose_list n each
    have hx : ∀ {j : Nat} {x : PR}, (l.map (·.1))[j]? = some x → ∃ q, l[j]? = some (x, q) := by
      intro j x h
      rw [List.getElem?_map] at h
      rcases hh : l[j]? with _ | ⟨y, q⟩
      · rw [hh] at h; cases h
      · rw [hh] at h; injection h with h; subst h; exact ⟨q, rfl⟩
    have plen : (pcs (l.map (·.1)) (l.map (·.2))).length = n * 10 := by
      unfold pcs
      rw [List.length_flatten]
      have : (List.zipWith PR.cells (l.map (·.1)) (l.map (·.2))).map List.length = List.replicate n 10 := by
        apply List.ext_getElem
        · simp [hll]
        · intro i h1 h2
          simp [PR.cells]
      rw [this]; simp
    refine ⟨_, _, _, l.map (·.1), rfl, ⟨l.map (·.2), ⟨by simp, by simp [hll]⟩, ⟨hl, hm, plen, fun i u hu => ?_⟩, fun j x q hxj hqj => ?_⟩, fun x hxm => ?_⟩
    · have hil : i < n * 10 := by
        rcases Nat.lt_or_ge i (n * 10) with hh | hh
        · exact hh
        · rw [List.getElem?_eq_none (by rw [plen]; omega)] at hu; cases hu
      have hjn : i / 10 < n := by omega
      have hlj : l[i / 10]? = some (l[i / 10]'(by omega)) := List.getElem?_eq_getElem _
      obtain ⟨b, off, spot⟩ := a
      have c0 := (hq 0 _ (List.getElem?_eq_getElem (by omega))).1 0 (by omega)
      have hspot : spot = none := by
        simp only [Nat.zero_mul, Nat.add_zero, PR.cells, List.getElem?_cons_zero] at c0
        simpa [Addr.add] using World.cell?_spot c0
      subst hspot
      refine ⟨b, off, rfl, ?_⟩
      have hg := pcs_get (l := l.map (·.1)) (qs := l.map (·.2)) (j := i / 10) (k := i % 10) (by rw [List.getElem?_map, hlj]; rfl) (by rw [List.getElem?_map, hlj]; rfl) (Nat.mod_lt _ (by omega))
      rw [show i / 10 * 10 + i % 10 = i by omega] at hg
      have hc := (hq _ _ hlj).1 (i % 10) (Nat.mod_lt _ (by omega))
      rw [show i / 10 * 10 + i % 10 = i by omega, add_lit] at hc
      rw [hc, ← hg, hu]
    · obtain ⟨q', hl'⟩ := hx hxj
      rw [List.getElem?_map, hl'] at hqj
      injection hqj with hqj
      subst hqj
      exact (hq j _ hl').2.1
    · obtain ⟨j, hj⟩ := List.mem_iff_getElem?.1 hxm
      obtain ⟨q', hl'⟩ := hx hj
      exact (hq j _ hl').2.2
end
end Go.Proofs.YtpkijlmkgomfeaaGreatDoor

/- ProposalApart' card: what the kernel reckons of the program, limb by limb. -/
namespace Go.Proofs.YtpkijlmkgomfeaaGreatDoor.proposalApartLaw
open Go.ChangeShapes Go.WideShapes Go.ChangeAt Go.RowKit Go.KK
set_option linter.unusedVariables false
set_option linter.unusedSimpArgs false

theorem band {a b : Bool} (ha : a = true) (hb : b = true) : (a && b) = true := by rw [ha, hb]; rfl
set_option maxHeartbeats 4000000 in
set_option maxRecDepth 100000 in
theorem closed : joinedFacts Tryz.pinned.checked.prog 5 Tryz.f5 Rows.proposalApartSpec Rows.proposalApartRow = true := by
  unfold joinedFacts
  repeat' (with_reducible refine band ?_ ?_)
  all_goals as_aux_lemma => kernel_rfl
theorem inst : Tryz.f5.isInstance Tryz.pinned.checked.prog Rows.proposalApartRow.origin Rows.proposalApartRow.targs := of_decide_eq_true (by kernel_rfl)
theorem wrap : Tryz.f5.isWrapper Tryz.pinned.checked.prog Rows.proposalApartRow.wrapper Rows.proposalApartRow.mainSum := by
  unfold Func.isWrapper; first | (rw [if_pos (by decide +kernel)]; kernel_rfl) | (rw [if_neg (by decide +kernel)]; exact ⟨rfl, rfl⟩)
theorem named : Tryz.pinned.checked.prog.funcNamed Rows.proposalApartRow.func = some 5 := by kernel_rfl
end Go.Proofs.YtpkijlmkgomfeaaGreatDoor.proposalApartLaw

