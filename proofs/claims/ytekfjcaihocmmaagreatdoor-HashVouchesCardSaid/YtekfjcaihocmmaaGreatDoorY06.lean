import Derived.Test.YtekfjcaihocmmaaGreatDoorY05
import Derived.Test.YtekfjcaihocmmaaGreatDoorY04
import Derived.Test.YtekfjcaihocmmaaGreatDoorY01
import Derived.BigQuiet
import Derived.Deep.QuietTactic
import Derived.Deep.DeepCutAuto
import Derived.Test.YtekfjcaihocmmaaGreatDoorY03
import Derived.Test.YtekfjcaihocmmaaGreatDoorY02
import Derived.Lib.SlicesCompact
/- layer 9: what a longer walk of the maker's carries. -/
namespace Go.Proofs.YtekfjcaihocmmaaGreatDoor
open Go.RowKit Go.KK Go.Shelf Go.Maps
set_option linter.unusedVariables false
set_option linter.unusedSimpArgs false

section
variable {w0 W V V' : World} {Z Z' Z2 : Nat → Prop} {sa bk b3 : Nat} {S S' S2 : KS} {v v' : Value} {l l' : List Int} {P : World → Prop} {bs : List (Nat × Obj)} {X : List ND}
/-- A longer walk: boxes of its own, a row of terms, what it reads. -/
structure NM (w0 W V : World) (Z Z' : Nat → Prop) (sa bk : Nat) (bs : List (Nat × Obj)) (v : Value) (l : List Int) (S' : KS) (P : World → Prop) : Prop where
  lk : MK w0 V Z' sa bk S'
  bx : ∀ p ∈ bs, V.heap[p.1]? = some p.2 ∧ ¬ Zk Z' bk p.1 ∧ W.heap.size ≤ p.1
  un : V.ownsRow W.heap.size 3 1 v l.length (l.map (.int .i64))
  nu : ∀ b, v.ownBlock = some b → ¬ Zk Z' bk b ∧ ∀ p ∈ bs, b ≠ p.1
  fu : ∃ R : Nat → Prop, (∀ b, R b → ¬ Zk Z' bk b ∧ b < W.heap.size) ∧ ∀ V', (∀ b, R b → V'.heap[b]? = V.heap[b]?) → P V'
  m : Mv (Zk Z bk) W (Zk Z' bk) V
  m0 : w0.heap.size ≤ W.heap.size
theorem NM.mv (h : NM w0 W V Z Z' sa bk bs v l S' P) (k : MK w0 V' Z2 sa bk S2) (m : Mv (Zk Z' bk) V (Zk Z2 bk) V') : NM w0 W V' Z Z2 sa bk bs v l S2 P := by
  have nz : ∀ b, b < V.heap.size → ¬ Zk Z' bk b → ¬ Zk Z2 bk b := fun b hb hz h2 => (m.n b h2).elim hz fun h' => by omega
  obtain ⟨R, r1, r2⟩ := h.fu
  have sz := h.m.t.size
  exact ⟨k, fun p hp => by
      obtain ⟨a1, a2, a3⟩ := h.bx p hp
      have hlt := (Array.getElem?_eq_some_iff.1 a1).1
      exact ⟨(m.t.block p.1 hlt a2).trans a1, nz p.1 hlt a2, a3⟩, own_block h.un fun b hb => m.t.block b (h.un.lt b hb).2 (h.nu b hb).1, fun b hb => ⟨nz b (h.un.lt b hb).2 (h.nu b hb).1, (h.nu b hb).2⟩,
    ⟨R, fun b hr => ⟨nz b (Nat.lt_of_lt_of_le (r1 b hr).2 sz) (r1 b hr).1, (r1 b hr).2⟩, fun V2 hv => r2 V2 fun b hr => (hv b hr).trans (m.t.block b (Nat.lt_of_lt_of_le (r1 b hr).2 sz) (r1 b hr).1)⟩, h.m.trans m, h.m0⟩
theorem NM.ext (h : NM w0 W V Z Z' sa bk bs v l S' P) (hb : Below V.heap.size V V') : NM w0 W V' Z Z' sa bk bs v l S' P := h.mv (h.lk.ext hb) (Mv.below hb)
theorem NM.app (h : NM w0 W V Z Z' sa bk bs v l S' P) (hn : V'.ownsRow W.heap.size 3 1 v' l'.length (l'.map (.int .i64))) (hg : V.grownBy V' v.ownBlock) (hl : v'.ownBlock = v.ownBlock ∨ v'.ownBlock = some V.heap.size) : NM w0 W V' Z Z' sa bk bs v' l' S' P := by
  have ht : Turn (fun b => v.ownBlock = some b) V V' := Turn.grown hg fun b hb => .inl hb
  have sz := h.m.t.size
  obtain ⟨R, r1, r2⟩ := h.fu
  have new : ∀ b, v'.ownBlock = some b → v.ownBlock = some b ∨ b = V.heap.size := fun b hb => by
    rcases hl with hl | hl
    · exact .inl (hl ▸ hb)
    · rw [hl] at hb; injection hb with hb; exact .inr hb.symm
  refine ⟨⟨h.lk.la.turn ht (fun b hz e => (h.nu b e).1 (.inl hz)) (fun b e => Nat.le_trans (h.m0) (h.un.lt b e).1), (ht.block bk h.lk.lt fun e => (h.nu bk e).1 (.inr rfl)).trans h.lk.k, h.lk.nz, h.lk.lo⟩, fun p hp => ?_, hn, fun b hb => ?_, ⟨R, r1, fun V2 hv => r2 V2 fun b hr => (hv b hr).trans (ht.block b (Nat.lt_of_lt_of_le (r1 b hr).2 sz) fun e => by have := (h.un.lt b e).1; have := (r1 b hr).2; omega)⟩, ⟨h.m.t.trans ht fun b e => .inr (h.un.lt b e).1, h.m.n⟩, h.m0⟩
  · obtain ⟨a1, a2, a3⟩ := h.bx p hp
    exact ⟨(ht.block p.1 (Array.getElem?_eq_some_iff.1 a1).1 fun e => (h.nu _ e).2 p hp rfl).trans a1, a2, a3⟩
  · rcases new b hb with e | e
    · exact h.nu b e
    · subst e
      exact ⟨h.lk.new, fun p hp e => by have := (Array.getElem?_eq_some_iff.1 (h.bx p hp).1).1; omega⟩
/-- A box more. -/
theorem NM.push (h : NM w0 W V Z Z' sa bk bs v l S' P) (o : Obj) : NM w0 W (V.alloc o) Z Z' sa bk ((V.heap.size, o) :: bs) v l S' P := by
  have h2 := h.ext ((Below.refl V.heap.size V).alloc (Nat.le_refl _) o)
  refine ⟨h2.lk, fun p hp => ?_, h2.un, fun b hb => ⟨(h2.nu b hb).1, fun p hp => ?_⟩, h2.fu, h2.m, h2.m0⟩
  · rcases List.mem_cons.1 hp with rfl | hp
    · exact ⟨heap_alloc_new V o, h.lk.new, h.m.t.size⟩
    · exact h2.bx p hp
  · rcases List.mem_cons.1 hp with rfl | hp
    · have := (h.un.lt b hb).2; show b ≠ V.heap.size; omega
    · exact (h2.nu b hb).2 p hp
theorem NM.fx (h : NM w0 W V Z Z' sa bk bs v l S' P) : Fx V (Zk Z' bk) P := by
  obtain ⟨R, r1, r2⟩ := h.fu
  exact ⟨R, fun b hb => ⟨(r1 b hb).1, Nat.lt_of_lt_of_le (r1 b hb).2 h.m.t.size⟩, r2⟩
theorem NM.here (h : NM w0 W V Z Z' sa bk bs v l S' P) : P V := h.fx.here
/-- It begins. -/
theorem NM.begin0 (h : MK w0 W Z sa bk S) (hf : Fx W (Zk Z bk) P) : NM w0 W W Z Z sa bk [] (.slice none 0 0) [] S P :=
  ⟨h, fun p hp => (by simp at hp), World.ownsRow_nil _ _ _ _, fun b hb => (by cases hb), hf, Mv.below (Below.refl _ _), h.la.bl.size⟩
theorem NM.fz (h : NM w0 W V Z Z' sa bk bs v l S' P) {b : Nat} {cs : Array Value} {T : TypeId} (hp : (b, .cells cs T (0, 0)) ∈ bs) (o : Nat) : V.frozen? ⟨b, o, none⟩ = false := frozen_of_row V b o _ _ (h.bx _ hp).1
theorem NM.cell (h : NM w0 W V Z Z' sa bk bs v l S' P) {b : Nat} {cs : Array Value} {T : TypeId} (hp : (b, .cells cs T (0, 0)) ∈ bs) (o : Nat) : V.cell? ⟨b, o, none⟩ = cs[o]? := cell_of_row V b o _ _ (0, 0) (h.bx _ hp).1
end
end Go.Proofs.YtekfjcaihocmmaaGreatDoor

/- math: what a tree's numbers are. -/
namespace Go.Proofs.YtekfjcaihocmmaaGreatDoor
open Go.RowKit Go.KK
set_option linter.unusedVariables false
set_option linter.unusedSimpArgs false

/-- A number of leaves that a tree may have. -/
def fullN (n : Int) : Bool := decide (n = 1 ∨ n = 2 ∨ n = 4 ∨ n = 8 ∨ n = 16 ∨ n = 32 ∨ n = 64 ∨ n = 128 ∨ n = 256)
theorem fullN_and : ∀ n : Nat, n < 256 → (((n + 1) &&& n) = 0 ↔ fullN ((n + 1 : Nat) : Int) = true) := by decide +kernel
theorem fullN_bits {n : Int} (h1 : 1 ≤ n) (h2 : n ≤ 256) : ∃ k : Nat, bits .and .i64 n (n - 1) = (k : Int) ∧ fullN n = decide (k = 0) := by
  refine ⟨_, i64_and _ _ (by omega) (by omega) (by omega) (by omega), ?_⟩
  have hf := fullN_and (n.toNat - 1) (by omega)
  rw [show n.toNat - 1 + 1 = n.toNat by omega, show ((n.toNat : Nat) : Int) = n by omega, show n.toNat - 1 = (n - 1).toNat by omega] at hf
  rcases hc : fullN n with _ | _
  · exact (decide_eq_false fun h => by rw [hf.1 h] at hc; cases hc).symm
  · exact (decide_eq_true (hf.2 hc)).symm
theorem full_any (n : Int) (w : World) :
    Calls Tryz.prog 251 #[.int .i64 n] w fun e w' => e = .returned (.bool (fullN n)) ∧ w' = w := by
  go_enter Tryz.func251, Tryz.ntmps251
  by_cases h1 : 1 ≤ n
  · by_cases h2 : n ≤ 256
    · obtain ⟨k, hb, hf⟩ := fullN_bits h1 h2
      rw [hf]
      clear hf
      by_cases h0 : k = 0
      · subst h0
        go_wp2
        go_ret
        exact ⟨rfl, rfl⟩
      · have hz : ((k : Int) == 0) = false := beq_eq_false_iff_ne.2 (by omega)
        rw [decide_eq_false h0]
        clear h0
        go_wp2
        go_ret
        exact ⟨rfl, rfl⟩
    · have hn : fullN n = false := decide_eq_false (by omega)
      rw [hn]
      go_wp2
      go_ret
      exact ⟨rfl, rfl⟩
  · have hn : fullN n = false := decide_eq_false (by omega)
    rw [hn]
    go_wp2
    go_ret
    exact ⟨rfl, rfl⟩

theorem xor_max (x : Nat) (hx : x < 9223372036854775808) : bits .xor .u64 IntKind.u64.max (x : Int) = ((18446744073709551615 - x : Nat) : Int) := by
  show IntKind.u64.wrap ((BitVec.ofInt 64 IntKind.u64.max ^^^ BitVec.ofInt 64 (x : Int)).toNat : Int) = _
  have h1 : BitVec.ofInt 64 IntKind.u64.max = BitVec.allOnes 64 := by decide
  rw [h1, BitVec.allOnes_xor, BitVec.toNat_not, ofInt_i64 x (by omega), IntKind.wrap_u64]
  omega
/-- A node's level: the ones that it ends in. -/
def lvl (x : Int) : Nat := Lib.ctz 64 (18446744073709551615 - x.toNat)
theorem lvl_y {x : Int} (h0 : 0 ≤ x) (h1 : x < 9223372036854775807) : ∃ y : Nat, bits .xor .u64 IntKind.u64.max x = (y : Int) ∧ Hid (y < 18446744073709551616) ∧ lvl x = Lib.ctz 64 y := by
  obtain ⟨m, rfl⟩ := Int.eq_ofNat_of_zero_le h0
  exact ⟨_, xor_max m (by omega), by show _ < _; omega, rfl⟩
theorem level_any (x : Int) (w : World) (h0 : 0 ≤ x) (h1 : x < 9223372036854775807) (hT : Tab w) :
    Calls Tryz.prog 222 #[.int .i64 x] w fun e w' => e = .returned (.int .i64 (lvl x)) ∧ w' = w := by
  go_enter Tryz.func222, Tryz.ntmps222
  obtain ⟨y, hx, HY, hl⟩ := lvl_y h0 h1
  rw [hl]
  clear hl
  go_wp2_with fail
  refine (Tryz.trailing y HY.out _ hT).mono ?_
  rintro e w' ⟨rfl, rfl⟩
  go_wp2
  go_ret
  exact ⟨rfl, rfl⟩

end Go.Proofs.YtekfjcaihocmmaaGreatDoor

/- math: the node above, and the way up. -/
namespace Go.Proofs.YtekfjcaihocmmaaGreatDoor
open Go.RowKit Go.KK
set_option linter.unusedVariables false
set_option linter.unusedSimpArgs false

/-- The node above, in a tree without an end. -/
def upV (x : Int) : Int := bits .andNot .i64 (bits .or .i64 x (wrap64 (2 ^ lvl x))) (wrap64 (2 ^ (lvl x + 1)))
theorem lvl_small : ∀ x : Nat, x < 511 → lvl (x : Int) ≤ 8 := by decide +kernel
theorem lvl_le {x : Int} (h0 : 0 ≤ x) (h1 : x ≤ 510) : lvl x ≤ 8 := by
  obtain ⟨m, rfl⟩ := Int.eq_ofNat_of_zero_le h0
  exact lvl_small m (by omega)
theorem up_any (x : Int) (w : World) (h0 : 0 ≤ x) (h1 : x ≤ 510) (hT : Tab w) :
    Calls Tryz.prog 256 #[.int .i64 x] w fun e w' => e = .returned (.int .i64 (upV x)) ∧ w' = w.drew := by
  have HT := hid hT; clear hT
  have hk0 : (0 : Int) ≤ (lvl x : Int) := by omega
  have hk1 : (lvl x : Int) ≤ 9 := by have := lvl_le h0 h1; omega
  go_enter Tryz.func256, Tryz.ntmps256
  go_wp2_with (go_at_call 222; refine (level_any x _ h0 (by omega) HT.out).mono ?_; rintro e w' ⟨rfl, rfl⟩)
  go_region
  go_wp2
  go_ret
  exact ⟨rfl, rfl⟩

theorem width1_any (n : Int) (b : Nat) (w : World) (h1 : 1 ≤ n) (h2 : n ≤ 256) (hc : w.cell? ⟨b, 0, none⟩ = some (.int .i64 n)) :
    Calls Tryz.prog 252 #[.pointer (some ⟨b, 0, none⟩)] w fun e w' => e = .returned (.int .i64 (2 * n - 1)) ∧ w' = w := by
  go_enter Tryz.func252, Tryz.ntmps252
  go_wp2
  go_ret
  exact ⟨rfl, rfl⟩
theorem whenW_any (ok : Bool) (n : Int) (b : Nat) (w : World) (h1 : ok = true → 1 ≤ n ∧ n ≤ 256) (hc : w.cell? ⟨b, 0, none⟩ = some (.int .i64 n)) :
    Calls Tryz.prog 219 #[.bool ok, .func (.func 252) #[] #[.pointer (some ⟨b, 0, none⟩)]] w fun e w' => e = .returned (.tuple #[.int .i64 (if ok then 2 * n - 1 else 0), .int .i64 (if ok then 0 else 1)]) ∧ w' = w := by
  rcases ok with _ | _
  · go_enter Tryz.func219, Tryz.ntmps219
    go_wp2_with fail
    go_ret2
    exact ⟨rfl, rfl⟩
  · obtain ⟨h2, h3⟩ := h1 rfl
    clear h1
    go_enter Tryz.func219, Tryz.ntmps219
    go_wp2_with (go_at_call 252; refine (width1_any n b _ h2 h3 hc).mono ?_; rintro e w' ⟨rfl, rfl⟩)
    go_ret2
    exact ⟨rfl, rfl⟩
theorem fullN_le {n : Int} (h : fullN n = true) : 1 ≤ n ∧ n ≤ 256 := by
  have := of_decide_eq_true h
  omega
/-- How wide a tree is. -/
theorem width_any (n : Int) (w : World) :
    Calls Tryz.prog 193 #[.int .i64 n] w fun e w' => e = .returned (.tuple #[.int .i64 (if fullN n then 2 * n - 1 else 0), .int .i64 (if fullN n then 0 else 1)]) ∧ Below w.heap.size w w' := by
  have HF := hid (fun h => @fullN_le n h)
  have hcl : (w.alloc (.cells #[.int .i64 n] 3)).cell? ⟨w.heap.size, 0, none⟩ = some (.int .i64 n) := by rw [World.cell?_alloc_new]; rfl
  go_enter Tryz.func193, Tryz.ntmps193
  go_wp2_with (first
    | (go_at_call 251; refine (full_any n _).mono ?_; rintro e w' ⟨rfl, rfl⟩)
    | (go_at_call 219; refine (whenW_any (fullN n) n _ _ HF.out hcl).mono ?_; rintro e w' ⟨rfl, rfl⟩))
  all_goals go_ret2
  all_goals exact ⟨rfl, (Below.refl _ _).alloc (Nat.le_refl _) _⟩

theorem inside_any (x n : Int) (w : World) :
    Calls Tryz.prog 255 #[.int .i64 x, .int .i64 n] w fun e w' => e = .returned (.bool (fullN n && decide (0 ≤ x) && decide (x < 2 * n - 1))) ∧ w' = w := by
  go_enter Tryz.func255, Tryz.ntmps255
  rcases hf : fullN n with _ | _
  · go_wp2_with (go_at_call 251; refine (full_any n _).mono ?_; rintro e w' ⟨rfl, rfl⟩; rw [hf])
    go_ret
    exact ⟨rfl, rfl⟩
  · obtain ⟨h1, h2⟩ := fullN_le hf
    by_cases h0 : 0 ≤ x
    · go_wp2_with (go_at_call 251; refine (full_any n _).mono ?_; rintro e w' ⟨rfl, rfl⟩; rw [hf])
      go_ret
      exact ⟨by simp [h0], rfl⟩
    · go_wp2_with (go_at_call 251; refine (full_any n _).mono ?_; rintro e w' ⟨rfl, rfl⟩; rw [hf])
      go_ret
      exact ⟨by simp; omega, rfl⟩
theorem any1_any (x : Int) (w : World) (h0 : 0 ≤ x) (h1 : x ≤ 510) :
    Calls Tryz.prog 220 #[.int .i64 x] w fun e w' => e = .returned (.bool true) ∧ w' = w := by
  go_enter Tryz.func220, Tryz.ntmps220
  go_wp2_with fail
  go_ret
  exact ⟨by simp [h1], rfl⟩
theorem check_any (w : World) :
    Calls Tryz.prog 268 #[.bool true] w fun e w' => e = .returned (.int .i64 0) ∧ w' = w := by
  go_enter Tryz.func268, Tryz.ntmps268
  go_wp2_with fail
  go_ret
  exact ⟨rfl, rfl⟩
/-- The leaves under a node: from one on up to another one. -/
def lfA (x : Int) : Int := wrap64 ((wrap64 (x - wrap64 (wrap64 (2 ^ lvl x) - 1))).tdiv 2)
def lfB (x : Int) : Int := wrap64 (wrap64 ((wrap64 (x + wrap64 (wrap64 (2 ^ lvl x) - 1))).tdiv 2) + 1)
theorem leaves_any (x : Int) (w : World) (h0 : 0 ≤ x) (h1 : x ≤ 510) (hT : Tab w) :
    Calls Tryz.prog 225 #[.int .i64 x] w fun e w' => e = .returned (.tuple #[.int .i64 (lfA x), .int .i64 (lfB x), .int .i64 0]) ∧ w' = w := by
  have HT := hid hT; clear hT
  have hk0 : (0 : Int) ≤ (lvl x : Int) := by omega
  have hk1 : (lvl x : Int) ≤ 9 := by have := lvl_le h0 h1; omega
  go_enter Tryz.func225, Tryz.ntmps225
  go_wp2_with (first
    | (go_at_call 220; refine (any1_any x _ h0 h1).mono ?_; rintro e w' ⟨rfl, rfl⟩)
    | (go_at_call 268; refine (check_any _).mono ?_; rintro e w' ⟨rfl, rfl⟩)
    | (go_at_call 222; refine (level_any x _ h0 (by omega) HT.out).mono ?_; rintro e w' ⟨rfl, rfl⟩))
  go_ret3
  exact ⟨rfl, rfl⟩

end Go.Proofs.YtekfjcaihocmmaaGreatDoor

/- layer 6: Left, Right. -/
namespace Go.Proofs.YtekfjcaihocmmaaGreatDoor
open Go.RowKit Go.KK Go.Shelf
set_option linter.unusedVariables false
set_option linter.unusedSimpArgs false

def lfN (x : Nat) : Int := if x % 2 = 0 then 0 else (x : Int) - 2 ^ (lvl (x : Int) - 1)
def rgN (x : Nat) : Int := if x % 2 = 0 then 0 else (x : Int) + 2 ^ (lvl (x : Int) - 1)
def chE (x : Nat) : Int := if x % 2 = 0 then 1 else 0
theorem ch_facts : ∀ x : Nat, x < 511 → (decide (lvl (x : Int) = 0) = (x % 2 == 0)) ∧ (bits .and .i64 (x : Int) 1 = ((x % 2 : Nat) : Int)) := by decide +kernel
theorem xor_facts : ∀ x : Nat, x < 511 → x % 2 = 1 → bits .xor .i64 (x : Int) (RowKit.wrap64 (2 ^ (lvl (x : Int) - 1))) = lfN x ∧ bits .xor .i64 (x : Int) (RowKit.wrap64 (3 * 2 ^ (lvl (x : Int) - 1))) = rgN x := by decide +kernel
theorem any6_any (x : Nat) (w : World) (hx : x < 511) :
    Calls Tryz.prog 220 #[.int .i64 x] w fun e w' => e = .returned (.bool true) ∧ w' = w := by
  have hd : decide ((x : Int) ≤ 510) = true := decide_eq_true (by omega)
  go_enter Tryz.func220, Tryz.ntmps220
  go_wp2
  go_ret
  exact ⟨rfl, rfl⟩
theorem left1_any (x : Nat) (b : Nat) (w : World) (hx : x < 511) (ho : x % 2 = 1) (hc : w.cell? ⟨b, 0, none⟩ = some (.int .i64 x)) (hT : Tab w) :
    Calls Tryz.prog 221 #[.pointer (some ⟨b, 0, none⟩)] w fun e w' => e = .returned (.int .i64 (lfN x)) ∧ Below w.heap.size w w' := by
  have HT := hid hT; clear hT
  have hf := (ch_facts x hx).1
  have hl : lvl (x : Int) ≠ 0 := fun h => by rw [h, ho] at hf; exact absurd hf (by decide)
  obtain ⟨K, hK⟩ : ∃ K, lvl (x : Int) = K + 1 := ⟨lvl (x : Int) - 1, by omega⟩
  have hK8 : K ≤ 8 := by have := lvl_small x hx; omega
  have HX := hid (xor_facts x hx ho).1
  rw [hK, Nat.add_sub_cancel] at HX
  have HL := hid (fun k => level_any (x : Int) (w.drewN k) (by omega) (by omega) (show Tab (w.drewN k) from HT.out))
  rw [hK] at HL
  clear hf hl hK
  generalize lfN x = r at *
  go_enter Tryz.func221, Tryz.ntmps221
  go_upto_region 1 with fail
  go_quiet ((go_at_call 222; exact Calls.quiet_of_same (HL.out _)))
  go_wp2_with fail
  go_ret
  exact ⟨by rw [HX.out]; rfl, below_drewN (Below.refl _ _) _⟩
theorem right1_any (x : Nat) (b : Nat) (w : World) (hx : x < 511) (ho : x % 2 = 1) (hc : w.cell? ⟨b, 0, none⟩ = some (.int .i64 x)) (hT : Tab w) :
    Calls Tryz.prog 263 #[.pointer (some ⟨b, 0, none⟩)] w fun e w' => e = .returned (.int .i64 (rgN x)) ∧ Below w.heap.size w w' := by
  have HT := hid hT; clear hT
  have hf := (ch_facts x hx).1
  have hl : lvl (x : Int) ≠ 0 := fun h => by rw [h, ho] at hf; exact absurd hf (by decide)
  obtain ⟨K, hK⟩ : ∃ K, lvl (x : Int) = K + 1 := ⟨lvl (x : Int) - 1, by omega⟩
  have hK8 : K ≤ 8 := by have := lvl_small x hx; omega
  have HX := hid (xor_facts x hx ho).2
  rw [hK, Nat.add_sub_cancel] at HX
  have HL := hid (fun k => level_any (x : Int) (w.drewN k) (by omega) (by omega) (show Tab (w.drewN k) from HT.out))
  rw [hK] at HL
  clear hf hl hK
  generalize rgN x = r at *
  go_enter Tryz.func263, Tryz.ntmps263
  go_upto_region 1 with fail
  go_quiet ((go_at_call 222; exact Calls.quiet_of_same (HL.out _)))
  go_wp2_with fail
  go_ret
  exact ⟨by rw [HX.out]; rfl, below_drewN (Below.refl _ _) _⟩
theorem whenLeft_any (ok : Bool) (x : Nat) (b : Nat) (w : World) (hx : x < 511) (ho : ok = true → x % 2 = 1) (hc : w.cell? ⟨b, 0, none⟩ = some (.int .i64 x)) (hT : Tab w) :
    Calls Tryz.prog 219 #[.bool ok, .func (.func 221) #[] #[.pointer (some ⟨b, 0, none⟩)]] w fun e w' => e = .returned (.tuple #[.int .i64 (if ok then lfN x else 0), .int .i64 (if ok then 0 else 1)]) ∧ Below w.heap.size w w' := by
  have HT := hid hT
  clear hT
  rcases ok with _ | _
  · go_enter Tryz.func219, Tryz.ntmps219
    go_wp2_with fail
    go_ret2
    exact ⟨rfl, Below.refl _ _⟩
  · have HL := hid (left1_any x b w hx (ho rfl) hc HT.out)
    clear ho
    go_enter Tryz.func219, Tryz.ntmps219
    go_wp2_with fail
    refine HL.out.mono ?_
    rintro e w' ⟨rfl, hb⟩
    have HB := hid hb
    clear hb
    go_wp2_with fail
    go_ret2
    exact ⟨rfl, HB.out⟩
/-- A node's child. -/
theorem left6_any (x : Nat) (w : World) (hx : x < 511) (hT : Tab w) :
    Calls Tryz.prog 152 #[.int .i64 x] w fun e w' => e = .returned (.tuple #[.int .i64 (lfN x), .int .i64 (chE x)]) ∧ Below w.heap.size w w' := by
  have HB := hid ((Below.refl w.heap.size w).alloc (Nat.le_refl _) (.cells #[.int .i64 x] 3))
  have hcl : (w.alloc (.cells #[.int .i64 x] 3)).cell? ⟨w.heap.size, 0, none⟩ = some (.int .i64 x) := by rw [World.cell?_alloc_new]; rfl
  have HW := hid (whenLeft_any (x % 2 == 1) x w.heap.size (w.alloc (.cells #[.int .i64 x] 3)) hx (fun h => by simpa using h) hcl (hT.ext HB.out))
  have HA := hid (any6_any x (w.alloc (.cells #[.int .i64 x] 3)) hx)
  have ha := (ch_facts x hx).2
  have HF := hid (show (if (x % 2 == 1) = true then lfN x else 0) = lfN x ∧ (if (x % 2 == 1) = true then (0 : Int) else 1) = chE x from by
    unfold lfN chE
    rcases Nat.mod_two_eq_zero_or_one x with h | h <;> rw [h] <;> simp)
  rw [HF.out.1, HF.out.2] at HW
  clear HF hT
  obtain ⟨y, hy⟩ : ∃ y : Nat, y = x % 2 := ⟨_, rfl⟩
  have hy2 : y = 0 ∨ y = 1 := by omega
  rw [← hy] at ha HW
  clear hy
  rcases hy2 with rfl | rfl
  all_goals
    go_enter Tryz.func152, Tryz.ntmps152
    go_wp2_with fail
    refine HA.out.mono ?_
    rintro e w' ⟨rfl, hw⟩
    subst hw
    clear HA
    go_wp2_with fail
    refine HW.out.mono ?_
    rintro e w' ⟨rfl, hb⟩
    have HB2 := hid (HB.out.trans (hb.mono HB.out.size))
    clear hb
    go_wp2_with fail
    go_ret2
    exact ⟨rfl, HB2.out⟩
theorem whenRight_any (ok : Bool) (x : Nat) (b : Nat) (w : World) (hx : x < 511) (ho : ok = true → x % 2 = 1) (hc : w.cell? ⟨b, 0, none⟩ = some (.int .i64 x)) (hT : Tab w) :
    Calls Tryz.prog 219 #[.bool ok, .func (.func 263) #[] #[.pointer (some ⟨b, 0, none⟩)]] w fun e w' => e = .returned (.tuple #[.int .i64 (if ok then rgN x else 0), .int .i64 (if ok then 0 else 1)]) ∧ Below w.heap.size w w' := by
  have HT := hid hT
  clear hT
  rcases ok with _ | _
  · go_enter Tryz.func219, Tryz.ntmps219
    go_wp2_with fail
    go_ret2
    exact ⟨rfl, Below.refl _ _⟩
  · have HL := hid (right1_any x b w hx (ho rfl) hc HT.out)
    clear ho
    go_enter Tryz.func219, Tryz.ntmps219
    go_wp2_with fail
    refine HL.out.mono ?_
    rintro e w' ⟨rfl, hb⟩
    have HB := hid hb
    clear hb
    go_wp2_with fail
    go_ret2
    exact ⟨rfl, HB.out⟩
/-- A node's child. -/
theorem right6_any (x : Nat) (w : World) (hx : x < 511) (hT : Tab w) :
    Calls Tryz.prog 211 #[.int .i64 x] w fun e w' => e = .returned (.tuple #[.int .i64 (rgN x), .int .i64 (chE x)]) ∧ Below w.heap.size w w' := by
  have HB := hid ((Below.refl w.heap.size w).alloc (Nat.le_refl _) (.cells #[.int .i64 x] 3))
  have hcl : (w.alloc (.cells #[.int .i64 x] 3)).cell? ⟨w.heap.size, 0, none⟩ = some (.int .i64 x) := by rw [World.cell?_alloc_new]; rfl
  have HW := hid (whenRight_any (x % 2 == 1) x w.heap.size (w.alloc (.cells #[.int .i64 x] 3)) hx (fun h => by simpa using h) hcl (hT.ext HB.out))
  have HA := hid (any6_any x (w.alloc (.cells #[.int .i64 x] 3)) hx)
  have ha := (ch_facts x hx).2
  have HF := hid (show (if (x % 2 == 1) = true then rgN x else 0) = rgN x ∧ (if (x % 2 == 1) = true then (0 : Int) else 1) = chE x from by
    unfold rgN chE
    rcases Nat.mod_two_eq_zero_or_one x with h | h <;> rw [h] <;> simp)
  rw [HF.out.1, HF.out.2] at HW
  clear HF hT
  obtain ⟨y, hy⟩ : ∃ y : Nat, y = x % 2 := ⟨_, rfl⟩
  have hy2 : y = 0 ∨ y = 1 := by omega
  rw [← hy] at ha HW
  clear hy
  rcases hy2 with rfl | rfl
  all_goals
    go_enter Tryz.func211, Tryz.ntmps211
    go_wp2_with fail
    refine HA.out.mono ?_
    rintro e w' ⟨rfl, hw⟩
    subst hw
    clear HA
    go_wp2_with fail
    refine HW.out.mono ?_
    rintro e w' ⟨rfl, hb⟩
    have HB2 := hid (HB.out.trans (hb.mono HB.out.size))
    clear hb
    go_wp2_with fail
    go_ret2
    exact ⟨rfl, HB2.out⟩
end Go.Proofs.YtekfjcaihocmmaaGreatDoor

/- math: the way up. -/
namespace Go.Proofs.YtekfjcaihocmmaaGreatDoor
open Go.RowKit Go.KK
set_option linter.unusedVariables false
set_option linter.unusedSimpArgs false

def pathF : Nat → Int → Int → List Int
  | 0, _, _ => []
  | f + 1, x, n => if x = n - 1 then [] else upV x :: pathF f (upV x) n
/-- The nodes above one. -/
def pathL (x n : Int) : List Int := pathF 9 x n
theorem up_facts : ((List.range 257).all fun n => !fullN (n : Int) || (List.range (2 * n - 1)).all fun x => x == n - 1 || (decide (0 ≤ upV (x : Int)) && decide (upV (x : Int) < 2 * n - 1) && decide (lvl (upV (x : Int)) = lvl (x : Int) + 1))) = true := by decide +kernel
theorem up_in {x n : Int} (hf : fullN n = true) (h0 : 0 ≤ x) (h1 : x < 2 * n - 1) (h2 : x ≠ n - 1) : 0 ≤ upV x ∧ upV x < 2 * n - 1 ∧ lvl (upV x) = lvl x + 1 := by
  obtain ⟨a, b⟩ := fullN_le hf
  obtain ⟨m, rfl⟩ := Int.eq_ofNat_of_zero_le (show 0 ≤ n by omega)
  obtain ⟨y, rfl⟩ := Int.eq_ofNat_of_zero_le h0
  have h := List.all_eq_true.1 up_facts m (List.mem_range.2 (by omega))
  rw [hf, Bool.not_true, Bool.false_or] at h
  have h' := List.all_eq_true.1 h y (List.mem_range.2 (by omega))
  have hne : (y == m - 1) = false := beq_eq_false_iff_ne.2 (by omega)
  rw [hne, Bool.false_or] at h'
  simp only [Bool.and_eq_true, decide_eq_true_eq] at h'
  exact ⟨h'.1.1, h'.1.2, h'.2⟩

theorem path_any (x n : Int) (w : World) (hf : fullN n = true) (h0 : 0 ≤ x) (h1 : x < 2 * n - 1) (hT : Tab w) :
    Calls Tryz.prog 201 #[.int .i64 x, .int .i64 n] w fun e w' => ∃ v, e = .returned (.tuple #[v, .int .i64 0]) ∧ w'.ownsRow w.heap.size 3 1 v (pathL x n).length ((pathL x n).map (.int .i64)) ∧ Below w.heap.size w w' := by
  have HT := hid hT; clear hT
  have HF := hid hf
  have hin : (fullN n && decide (0 ≤ x) && decide (x < 2 * n - 1)) = true := by simp [hf, h0, h1]
  go_enter Tryz.func201, Tryz.ntmps201
  go_wp2_with (go_at_call 255; refine (inside_any x n _).mono ?_; rintro e w' ⟨rfl, rfl⟩; rw [hin])
  obtain ⟨i0, hi, hz0, hz1, hz2⟩ := info_parts Tryz.infoInt
  have HIN := hid (@up_in x n); clear hin
  go_loopw [0, 6] (fun y v wr => ∃ (j : Nat) (z : Int), y = .int .i64 z ∧ 0 ≤ z ∧ z < 2 * n - 1 ∧ lvl z = lvl x + j ∧ wr.ownsRow w'.heap.size 3 1 v j (((pathL x n).take j).map (.int .i64)) ∧ pathL x n = (pathL x n).take j ++ pathF (9 - j) z n ∧ Below w'.heap.size w' wr) (fun y _ _ => 10 - lvl (intOf y))
  case atStart => exact ⟨0, x, rfl, h0, h1, by omega, World.ownsRow_nil _ _ _ _, rfl, Below.refl _ _⟩
  case round =>
    obtain ⟨j, z, hz, hza, hzb, hlv, hown, hpl, hbr⟩ := hrel
    subst hz
    have hszr := hbr.size
    obtain ⟨f0, f1⟩ := fullN_le HF.out
    have hz8 := lvl_le hza (by omega)
    by_cases he : z = n - 1
    · subst he
      have hle : pathL x n = (pathL x n).take j := by
        rw [show 9 - j = (9 - j - 1) + 1 by omega, pathF, if_pos rfl, List.append_nil] at hpl
        exact hpl
      have HL := hid hle; clear hle hpl
      have hjl := hown.1
      have htst : (n - 1 != n - 1) = false := by simp
      go_wp2
      go_ret2
      refine ⟨_, rfl, ?_, hbr⟩
      rw [HL.out]
      simp only [List.length_map, Nat.mul_one] at hjl
      rw [hjl]
      exact hown
    · obtain ⟨u0, u1, u2⟩ := up_in HF.out hza hzb he
      have htst : (z != n - 1) = true := bne_iff_ne.2 he
      have hcons : pathF (9 - j) z n = upV z :: pathF (9 - (j + 1)) (upV z) n := by
        rw [show 9 - j = (9 - (j + 1)) + 1 by omega, pathF, if_neg he]
      have HC := hid hcons; have HP := hid hpl; clear hcons hpl
      have hup := up_any z wr hza (by omega) (HT.out.ext hbr)
      have HJ := hid (hown.1)
      generalize upV z = u at *
      have hown2 : wr.drew.ownsRow w'.heap.size 3 1 _ j (((pathL x n).take j).map (.int .i64)) := hown
      have hown3 := hown2.alloc (.cells #[.int .i64 u] 3)
      have hlit := SlA.lit1 (w := wr.drew) (T := 3) (.int .i64 u)
      have hj8 : j ≤ 8 := by omega
      have HS := hid (take_step (L := pathL x n) (j := j) (HC.out ▸ HP.out) (by have := HJ.out; simpa using this))
      go_wp2_with (first
        | (go_at_call 256; refine hup.mono ?_; rintro e w2 ⟨rfl, rfl⟩)
        | (at_builtin; refine wpList_append_sl _ rfl _ _ 30 rfl w'.heap.size 3 i0 (.int .i64 0) 1 8 Tryz.underlying30 hi hz0 hz1 hz2 rfl (by decide) _ _ _ rfl hown3 _ 1 1 _ rfl hlit (one_int _ _) (by unfold maxLen; omega) (by omega) (by simp; omega) ?_; intro v3 w3 hown4 hg4 _))
      go_roundw
      case rel =>
        refine ⟨j + 1, u, rfl, u0, u1, by omega, ?_, ?_, below_append (below_drew (hbr.alloc (by omega) _)) hg4 hown3 (Nat.le_refl _) (by simp; omega)⟩
        · rw [HS.out.1, List.map_append]
          exact hown4
        · exact HS.out.2
      case measure => simp [intOf]; omega

end Go.Proofs.YtekfjcaihocmmaaGreatDoor

/- ratchet: leaves, and which are there. -/
namespace Go.Proofs.YtekfjcaihocmmaaGreatDoor
open Go.RowKit Go.KK
set_option linter.unusedVariables false
set_option linter.unusedSimpArgs false

theorem leaf_any (k i e s h : Int) (A : Option Addr) (n c : Nat) (w : World) :
    Calls Tryz.prog 127 #[.agg #[.int .i64 k, .int .i64 i, .int .i64 e, .int .i64 s, .int .i64 h, .slice A n c]] w fun e w' => e = .returned (.bool (k == 1 && (n : Int) == 0)) ∧ Below w.heap.size w w' := by
  go_enter Tryz.func127, Tryz.ntmps127
  go_wp2
  all_goals go_ret
  all_goals exact ⟨by simp_all, (Below.refl _ _).alloc (Nat.le_refl _) _⟩
theorem rleaf_any (k i e s h : Int) (A : Option Addr) (n c : Nat) (w : World) :
    Calls Tryz.prog 144 #[.agg #[.int .i64 k, .int .i64 i, .int .i64 e, .int .i64 s, .int .i64 h, .slice A n c]] w fun e w' => e = .returned (.bool (k == 1 && (n : Int) == 0)) ∧ Below w.heap.size w w' := by
  go_enter Tryz.func144, Tryz.ntmps144
  go_wp2
  all_goals go_ret
  all_goals exact ⟨by simp_all, (Below.refl _ _).alloc (Nat.le_refl _) _⟩
/-- How many leaves a row has. -/
def lvN (n : Nat) : Nat := (n + 1) / 2
theorem lvN_tdiv (n : Nat) : ((lvN n : Nat) : Int).tdiv 2 = ((lvN n / 2 : Nat) : Int) := rfl
theorem leavesT_any (A : Option Addr) (n c : Nat) (w : World) (hn : n ≤ 600) :
    Calls Tryz.prog 131 #[.slice A n c] w fun e w' => e = .returned (.int .i64 (lvN n)) ∧ w' = w := by
  go_enter Tryz.func131, Tryz.ntmps131
  go_wp2
  go_ret
  exact ⟨by unfold lvN; simp, rfl⟩
/-- A node's kind. -/
def kd (xs : List TN) (j : Nat) : Int := match xs[j]? with | some x => x.k | none => 0
/-- Whether a leaf is there. -/
def pres (xs : List TN) (i : Int) : Bool := decide (0 ≤ i) && decide (i < lvN xs.length) && (kd xs (2 * i).toNat == 1)
theorem present_any (A : Option Addr) (n c : Nat) (xs : List TN) (i : Int) (w : World) (h : Tr w A n c xs) (hnm : n ≤ 600) :
    Calls Tryz.prog 130 #[.slice A n c, .int .i64 i] w fun e w' => e = .returned (.bool (pres xs i)) ∧ w' = w := by
  have hn := h.len
  go_enter Tryz.func130, Tryz.ntmps130
  by_cases h0 : 0 ≤ i
  · by_cases h1 : i < lvN n
    · obtain ⟨j, rfl⟩ := Int.eq_ofNat_of_zero_le h0
      have hj : 2 * j < n := by unfold lvN at h1; omega
      obtain ⟨b, o, x, A', c', rfl, hx, c0, -, -, -, -, -, -⟩ := h.at hj
      have hp : pres xs (j : Int) = (x.k == 1) := by unfold pres kd; rw [hn, show (2 * (j : Int)).toNat = 2 * j by omega, hx]; simp [h1]
      rw [hp]
      clear hp hx
      go_wp2_with (go_at_call 131; refine (leavesT_any _ n c _ hnm).mono ?_; rintro e w' ⟨rfl, rfl⟩)
      go_ret
      exact ⟨rfl, rfl⟩
    · have hp : pres xs i = false := by unfold pres; rw [hn]; simp [h1]
      rw [hp]
      go_wp2_with (go_at_call 131; refine (leavesT_any _ n c _ hnm).mono ?_; rintro e w' ⟨rfl, rfl⟩)
      go_ret
      exact ⟨rfl, rfl⟩
  · have hp : pres xs i = false := by unfold pres; simp [h0]
    rw [hp]
    go_wp2_with fail
    go_ret
    exact ⟨rfl, rfl⟩
/-- No leaf is there in the right half. -/
def halfB (xs : List TN) : Bool := (List.range (lvN xs.length)).all fun j => decide (j < lvN xs.length / 2) || !pres xs j
theorem half_any (A : Option Addr) (n c : Nat) (xs : List TN) (w : World) (h : Tr w A n c xs) (hnm : n ≤ 600) :
    Calls Tryz.prog 129 #[.slice A n c] w fun e w' => e = .returned (.bool (halfB xs)) ∧ w' = w := by
  have hn := h.len
  have hN : lvN n ≤ 301 := by unfold lvN; omega
  have htd := lvN_tdiv n
  have hX := hid hn; clear hn
  go_enter Tryz.func129, Tryz.ntmps129
  go_wp2_with (first
    | (go_at_call 131; refine (leavesT_any _ n c _ hnm).mono ?_; rintro e w' ⟨rfl, rfl⟩))
  go_loop [2, 4] (fun _ i => ∃ j : Nat, i = .int .i64 j ∧ lvN n / 2 ≤ j ∧ j ≤ lvN n ∧ ∀ k : Nat, lvN n / 2 ≤ k → k < j → pres xs k = false) (fun _ i => lvN n - (intOf i).toNat)
  case atStart => exact ⟨lvN n / 2, rfl, Nat.le_refl _, by omega, fun k a b => by omega⟩
  case round =>
    obtain ⟨j, hi, h1, h2, h3⟩ := hrel
    subst hi
    have H3 := hid h3; clear h3
    by_cases hlt : j < lvN n
    · rcases hp : pres xs j with _ | _
      · go_wp2_with (go_at_call 130; refine (present_any _ n c xs _ _ h hnm).mono ?_; rintro e w' ⟨rfl, rfl⟩; rw [hp])
        go_round
        case rel => exact ⟨j + 1, by go_num, by omega, by omega, fun k a b => by
          by_cases hk : k < j
          · exact H3.out k a hk
          · rw [show k = j by omega]; exact hp⟩
        case measure => simp [intOf]; omega
      · have hh : halfB xs = false := by
          rcases hh : halfB xs with _ | _
          · rfl
          · have := List.all_eq_true.1 hh j (List.mem_range.2 (by rw [hX.out]; exact hlt))
            rw [hp, hX.out] at this
            simp at this
            omega
        have HH := hid hh; clear hh
        go_wp2_with (go_at_call 130; refine (present_any _ n c xs _ _ h hnm).mono ?_; rintro e w' ⟨rfl, rfl⟩; rw [hp])
        go_ret
        exact ⟨by rw [HH.out]; rfl, rfl⟩
    · have hh : halfB xs = true := by
        refine List.all_eq_true.2 fun k hk => ?_
        rw [hX.out] at hk ⊢
        rw [List.mem_range] at hk
        by_cases hk2 : k < lvN n / 2
        · simp [hk2]
        · rw [H3.out k (by omega) (by omega)]; simp
      have HH := hid hh; clear hh
      go_wp2
      go_ret
      exact ⟨by rw [HH.out]; rfl, rfl⟩

end Go.Proofs.YtekfjcaihocmmaaGreatDoor

/- ratchet: a node that is zero, and numbers that rise. -/
namespace Go.Proofs.YtekfjcaihocmmaaGreatDoor
open Go.RowKit Go.KK
set_option linter.unusedVariables false
set_option linter.unusedSimpArgs false

/-- All of a node is zero. -/
def orN (k i e s h : Int) : Int := bits .or .i64 (bits .or .i64 (bits .or .i64 (bits .or .i64 k i) e) s) h
theorem zero_any (k i e s h : Int) (A : Option Addr) (n c : Nat) (w : World) :
    Calls Tryz.prog 194 #[.agg #[.int .i64 k, .int .i64 i, .int .i64 e, .int .i64 s, .int .i64 h, .slice A n c]] w fun r w' => r = .returned (.bool (orN k i e s h == 0 && (n : Int) == 0)) ∧ Below w.heap.size w w' := by
  go_enter Tryz.func194, Tryz.ntmps194
  go_wp2
  all_goals go_ret
  all_goals exact ⟨by unfold orN; simp_all, (Below.refl _ _).alloc (Nat.le_refl _) _⟩

/-- Numbers none of which is less than the one before it. -/
def sortB (l : List Int) : Bool := Lib.downOK (fun x y => decide (x < y)) l.toArray (l.length - 1)
theorem sorted_zero (A : Option Addr) (c : Nat) (w : World) :
    Calls Tryz.prog 253 #[.slice A 0 c] w fun e w' => e = .returned (.bool true) ∧ w' = w := by
  go_enter Tryz.func253, Tryz.ntmps253
  go_wp2
  go_loop [2, 3] (fun _ i => i = .int .i64 (-1)) (fun _ i => (intOf i).toNat + 1)
  case atStart => rfl
  case round =>
    subst hrel
    go_wp2
    go_ret
    exact ⟨rfl, rfl⟩
theorem sorted_any (A : Option Addr) (n c : Nat) (l : List Int) (w : World) (h : SlA w 1 A n c (l.map (.int .i64))) (hn47 : n ≤ 2147483648) :
    Calls Tryz.prog 253 #[.slice A n c] w fun e w' => e = .returned (.bool (sortB l)) ∧ ∃ q, w' = w.drewN q := by
  have hn := h.lenI
  rcases l with _ | ⟨x, l⟩
  · simp at hn
    subst hn
    exact (sorted_zero A c w).mono fun e w' ⟨h1, h2⟩ => ⟨h1, 0, h2⟩
  · obtain ⟨b, o, rfl, _⟩ := h.cells 0 _ rfl
    have := AnyO.slices_IsSorted_int Tryz.laysO10 b o c (x :: l).toArray w (fun i hi => by
      obtain ⟨b', o', e, hc⟩ := h.cells i (.int .i64 ((x :: l)[i]'(by simpa using hi))) (by rw [List.getElem?_map, List.getElem?_eq_getElem (by simpa using hi)]; rfl)
      injection e with e
      injection e with e1 e2
      subst e1; subst e2
      rw [hc, getElem!_pos (x :: l).toArray i hi]
      simp) (by simp at hn ⊢; omega)
    rw [show (x :: l).toArray.size = n by simpa using hn] at this
    unfold sortB
    rw [hn]
    exact this
end Go.Proofs.YtekfjcaihocmmaaGreatDoor

/- ratchet: a copy of numbers, and how many are left of it, each once. -/
namespace Go.Proofs.YtekfjcaihocmmaaGreatDoor
open Go.RowKit Go.KK
set_option linter.unusedVariables false
set_option linter.unusedSimpArgs false

theorem below_setCells {B : Nat} {a : World} (b : Nat) (hb : B ≤ b) : ∀ (vs : List Value) (o : Nat) (w : World), Below B a w → Below B a (w.setCells b o vs)
  | [], _, _, h => h
  | v :: r, o, w, h => by
    rw [World.setCells]
    exact below_setCells b hb r (o + 1) _ (h.setCell hb v)
theorem clone_int (A : Option Addr) (n c : Nat) (l : List Int) (w : World) (h : SlA w 1 A n c (l.map (.int .i64))) (hn47 : n ≤ 2147483648) :
    Calls Tryz.prog 115 #[.slice A n c] w fun e w' => ∃ v, e = .returned v ∧ w'.ownsRow w.heap.size 3 1 v n (l.map (.int .i64)) ∧ Below w.heap.size w w' := by
  have hn := h.lenI
  rcases A with _ | a
  · have hl : l = [] := by
      rcases l with _ | ⟨x, l⟩
      · rfl
      · obtain ⟨b, o, e, _⟩ := h.cells 0 _ rfl
        cases e
    subst hl
    simp at hn
    subst hn
    exact (Tryz.slices_Clone_int_nil 0 c w).mono fun e w' ⟨h1, h2⟩ => ⟨_, h1, World.ownsRow_nil _ _ _ _, by rw [h2]; exact Below.refl _ _⟩
  · rcases l with _ | ⟨x, l⟩
    · simp at hn
      subst hn
      exact (Tryz.slices_Clone_int_zero a c w).mono fun e w' ⟨v, h1, h2, _, h3⟩ => ⟨v, h1, h2, h3⟩
    · obtain ⟨b, o, e, _⟩ := h.cells 0 _ rfl
      injection e with e
      subst e
      have := Tryz.slices_Clone_int b o n c (x :: l) w (by omega) (by omega) (sla_getD h)
      rw [List.take_of_length_le (by omega)] at this
      exact this.mono fun e w' ⟨v, h1, h2, _, h3⟩ => ⟨v, h1, h2, h3⟩
theorem compact_own (base : Nat) (v : Value) (n : Nat) (l : List Int) (w : World) (h : w.ownsRow base 3 1 v n (l.map (.int .i64))) (hn47 : n ≤ 2147483648) :
    Calls Tryz.prog 254 #[v] w fun e w' => ∃ A c, e = .returned (.slice A (Lib.compact l).length c) ∧ Below base w w' := by
  have hw := h
  obtain ⟨A, c, rfl, hs⟩ := SlA.owned h
  have hn := hs.lenI
  rcases l with _ | ⟨x, l⟩
  · simp at hn
    subst hn
    refine (Tryz.slices_Compact_int_empty A c w).mono fun e w' ⟨h1, h2⟩ => ⟨A, c, ?_, by rw [h2]; exact Below.refl _ _⟩
    rw [h1]; rfl
  · obtain ⟨b, o, e, _⟩ := hs.cells 0 _ rfl
    subst e
    rcases hw.2 with ⟨e1, _⟩ | ⟨g, cap, cur, e1, hbg, _⟩
    · cases e1
    · injection e1 with e1 e2 e3
      injection e1 with e1
      injection e1 with e4 e5
      subst e4; subst e5; subst e3
      have hnc := hs.nc
      have := Tryz.slices_Compact_int_cells b 0 n c (x :: l) w (by omega) (by omega) hnc (sla_getD hs) (fun j hj => by rw [Nat.zero_add]; exact hw.frozenAt j)
      rw [List.take_of_length_le (by omega)] at this
      exact this.mono fun e w' ⟨h1, q, h2⟩ => ⟨_, _, h1, by rw [h2]; exact below_setCells b hbg _ _ _ (below_drewN (Below.refl _ _) q)⟩
/-- Numbers that rise. -/
def riseB (l : List Int) : Bool := sortB l && ((Lib.compact l).length : Int) == (l.length : Int)
/-- whether a number is in a list -/
theorem contains_any (A : Option Addr) (n c : Nat) (l : List Int) (x : Int) (w : World) (h : SlA w 1 A n c (l.map (.int .i64))) (hn47 : n ≤ 2147483648) :
    Calls Tryz.prog 80 #[.slice A n c, .int .i64 x] w fun e w' => e = .returned (.bool (l.contains x)) ∧ w' = w := by
  have hn := h.lenI
  rcases l with _ | ⟨y, l⟩
  · simp at hn
    subst hn
    exact Tryz.slices_Contains_int_empty A c x w
  · obtain ⟨b, o, rfl, _⟩ := h.cells 0 _ rfl
    have := Tryz.slices_Contains_int b o n c (y :: l) x w (by omega) (by omega) (sla_getD h)
    rw [List.take_of_length_le (by omega)] at this
    exact this
end Go.Proofs.YtekfjcaihocmmaaGreatDoor

/- layer 9: a leaf's hash. -/
namespace Go.Proofs.YtekfjcaihocmmaaGreatDoor
open Go.RowKit Go.KK Go.Shelf Go.Maps
set_option linter.unusedVariables false
set_option linter.unusedSimpArgs false

/-- What a node's hash reads: the tree (its lists' heads are these), who is left off. -/
def NdP (A : Option Addr) (n c : Nat) (xs : List TN) (qs : List Value) (Aw : Option Addr) (nw cw : Nat) (wo : List Int) (V : World) : Prop :=
  (qs.length = xs.length ∧ SlA V 6 A n c (ncs xs qs) ∧ ∀ (j : Nat) x q, xs[j]? = some x → qs[j]? = some q → In1 V q x.u) ∧ SlA V 1 Aw nw cw (wo.map (.int .i64))
theorem NdP.tr {A : Option Addr} {n c : Nat} {xs : List TN} {qs : List Value} {Aw : Option Addr} {nw cw : Nat} {wo : List Int} {V : World} (h : NdP A n c xs qs Aw nw cw wo V) : Tr V A n c xs := ⟨qs, h.1⟩
def tnC (x : TN) (q : Value) : Obj := .cells #[.int .i64 x.k, .int .i64 x.i, .int .i64 x.e, .int .i64 x.s, .int .i64 x.h, q] 37 (0, 0)
theorem tl_i {S : KS} (ok : Okay S.x) (x : Nat) : Okay (tlA S).1.x ∧ Okay (tlB S x).1.x ∧ I64 (tlA S).2 ∧ I64 (tlB S x).2 :=
  ⟨(tx_go _ _).ok ok, (tx_go _ _).ok ((tx_go _ _).ok ok), tx_i ok _, tx_i ((tx_go S lbLeaf).ok ok) _⟩
section
variable {w0 W : World} {Z : Nat → Prop} {sa bk : Nat} {S : KS}
/-- The six cells of a node's box. -/
theorem tn6 {V : World} {b : Nat} {x : TN} {q : Value} (h : V.heap[b]? = some (tnC x q)) : V.cell? ⟨b, 0, none⟩ = some (.int .i64 x.k) ∧ V.cell? ⟨b, 1, none⟩ = some (.int .i64 x.i) ∧ V.cell? ⟨b, 2, none⟩ = some (.int .i64 x.e) ∧ V.cell? ⟨b, 3, none⟩ = some (.int .i64 x.s) ∧ V.cell? ⟨b, 4, none⟩ = some (.int .i64 x.h) ∧ V.cell? ⟨b, 5, none⟩ = some q := by
  refine ⟨?_, ?_, ?_, ?_, ?_, ?_⟩ <;> (rw [cell_of_row _ b _ _ _ (0, 0) h]; rfl)
set_option maxHeartbeats 8000000 in
set_option maxRecDepth 100000 in
theorem m_leaf (h : MK w0 W Z sa bk S) (hT : Tb w0.heap.size w0) (hTab : ∀ U, Below w0.heap.size w0 U → Tab U) {A : Option Addr} {n c x : Nat} {xs : List TN} {qs : List Value} {Aw : Option Addr} {nw cw : Nat} {wo : List Int} (hf : Fx W (Zk Z bk) (NdP A n c xs qs Aw nw cw wo)) (hx : x < n) (hn : n ≤ 511) (he : x % 2 = 0) (hnw : nw ≤ 1000) (hw : ∀ y ∈ xs, TnI y) :
    Calls Tryz.prog 140 #[.pointer (some ⟨bk, 0, none⟩), .slice A n c, .int .i64 x, .slice Aw nw cw] W (ThS w0 W Z sa bk (tlF (tnF xs x) wo S x)) := by
  have HT := hid hT; have HTB := hid hTab
  have hln := hf.here.tr.len
  obtain ⟨b, off, y, A', c', rfl, hy, c0, c1, c2, c3, c4, c5, -⟩ := hf.here.tr.at hx
  have hyF : tnF xs x = y := by
    have := tn_get (xs := xs) (x := x) (by omega)
    rw [hy] at this; exact (Option.some.inj this).symm
  have HYF := hid hyF
  obtain ⟨wk, wi, we, ws, wh, wu⟩ := hw y (List.mem_of_getElem? hy)
  have HWF := hid (show I64 y.i ∧ I64 y.e ∧ I64 y.s ∧ I64 y.h from ⟨wi, we, ws, wh⟩)
  have HN := hid ((NM.begin0 h hf).push (tnC y (.slice A' y.u.length c')))
  have hx2 : (x : Int) < (n : Int) := by omega
  have HX := hid hx; have HNN := hid hn; have HE := hid he
  have HLE := hid (show chE x = 1 from by unfold chE; rw [if_pos he])

  have HQ3 := hid (show (x : Int) / 2 = ((x / 2 : Nat) : Int) from by omega)
  rw [hyF]
  clear h hT hTab hf hyF hw wk wi we ws wh wu he
  obtain ⟨yk, yi, ye, ys, yh, yu⟩ := y
  dsimp only at *
  go_enter Tryz.func140, Tryz.ntmps140
  go_upto_region 2 with fail
  generalize hb9 : W.heap.size = b9 at *
  refine forget (R := fun V => NM w0 W V Z Z sa bk [(b9, tnC ⟨yk, yi, ye, ys, yh, yu⟩ (.slice A' yu.length c'))] (.slice none 0 0) [] S (NdP (some ⟨b, off, none⟩) n c xs qs Aw nw cw wo)) ?_ HN.out
  clear HN c0 c1 c2 c3 c4 c5 hb9 hy
  intro V h
  have HC := hid h
  clear h
  have HOK := hid (tl_i (S := S) HC.out.lk.la.ar.ok x)
  have HTX := hid (fun (U : World) (hb : Below w0.heap.size w0 U) => (show Tb U.heap.size U from Tb.up (HT.out.on hb) hb.size))
  have HL := hid (left6_any x V (by omega) (HTB.out _ HC.out.lk.la.bl))
  rw [HLE.out] at HL
  go_wp2_with fail
  refine HL.out.mono ?_
  rintro e w1 ⟨rfl, b1⟩
  have HC1 := hid (HC.out.ext b1)
  clear b1 HC HL
  have HM := hid (m_text HC1.out.lk HT.out lbLeaf)
  unfold lbLeaf at HM
  go_wp2_with fail
  refine HM.out.mono ?_
  rintro e w2 ⟨Z2, rfl, l2, m2⟩
  have HC2 := hid (HC1.out.mv l2 m2)
  clear l2 m2 HC1 HM
  go_wp2_with fail
  refine (itoa_any ((x / 2 : Nat) : Int) ⟨by omega, by omega⟩ _ (HTX.out _ HC2.out.lk.la.bl)).mono ?_
  rintro e w3 ⟨sv, rfl, hs, b3⟩
  have hs' : sv = digB ((x / 2 : Nat) : Int) := hs
  subst hs'
  have HC3 := hid (HC2.out.ext b3)
  clear hs b3 HC2
  go_wp2_with fail
  refine (m_text HC3.out.lk HT.out (digB ((x / 2 : Nat) : Int))).mono ?_
  rintro e w4 ⟨Z4, rfl, l4, m4⟩
  have HC4 := hid (HC3.out.mv l4 m4)
  clear l4 m4 HC3
  have HAI := hid HOK.out.2.2.1
  have HBI := hid HOK.out.2.2.2
  have HBO := hid HOK.out.2.1
  replace HC4 : Hid (NM w0 W w4 Z Z4 sa bk [(b9, tnC ⟨yk, yi, ye, ys, yh, yu⟩ (.slice A' yu.length c'))] (.slice none 0 0) [] (tlB S x).1 (NdP (some ⟨b, off, none⟩) n c xs qs Aw nw cw wo)) := HC4
  obtain ⟨k0, k1, k2, k3, k4, -⟩ := tn6 (HC4.out.bx _ (List.mem_cons_self ..)).1
  dsimp only at k0 k1 k2 k3 k4
  by_cases hk : yk = 0
  · subst hk
    have HO := hid (show offB ⟨0, yi, ye, ys, yh, yu⟩ wo x = true from rfl)
    have HCT := hid (show tlC ⟨0, yi, ye, ys, yh, yu⟩ wo S x = doF (tlB S x).1 (txF ⟨#[]⟩) from by unfold tlC; rw [HO.out]; rfl)
    have HCI := hid (show I64 (tlC ⟨0, yi, ye, ys, yh, yu⟩ wo S x).2 from by rw [HCT.out]; exact tx_i HBO.out _)
    have HM := hid (m_text HC4.out.lk HT.out ⟨#[]⟩)
    rw [← HCT.out] at HM
    go_wp2_with fail
    refine HM.out.mono ?_
    rintro e w5 ⟨Z5, rfl, l5, m5⟩
    have HC5 := hid (HC4.out.mv l5 m5)
    clear l5 m5 HC4 HM k0 k1 k2 k3 k4
    have HRW := hid (HC5.out.ext ((Below.refl w5.heap.size w5).alloc (Nat.le_refl _) (.cells #[.int .i64 (tlA S).2, .int .i64 (tlB S x).2, .int .i64 (tlC ⟨0, yi, ye, ys, yh, yu⟩ wo S x).2] 3)))
    have HH := hid (m_hash HRW.out.lk HT.out (l := [(tlA S).2, (tlB S x).2, (tlC ⟨0, yi, ye, ys, yh, yu⟩ wo S x).2]) (sla_row #[.int .i64 (tlA S).2, .int .i64 (tlB S x).2, .int .i64 (tlC ⟨0, yi, ye, ys, yh, yu⟩ wo S x).2] (by unfold maxLen; simp)) (fun i hi => by
      simp only [List.mem_cons, List.mem_nil_iff, or_false] at hi
      rcases hi with rfl | rfl | rfl
      · exact HAI.out
      · exact HBI.out
      · exact HCI.out))
    have HM5 := hid HRW.out.m
    clear HRW
    go_wp2_with fail
    refine HH.out.mono ?_
    rintro e w6 ⟨Z6, rfl, l6, m6⟩
    have L6 := hid l6; have M6 := hid (HM5.out.trans m6)
    clear l6 m6 HH
    go_wp2_with fail
    go_ret
    exact ⟨Z6, rfl, L6.out, M6.out⟩
  · have hk' : (yk == 0) = false := beq_eq_false_iff_ne.2 hk
    have HCT0 := hid (contains_any Aw nw cw wo ((x / 2 : Nat) : Int) w4 HC4.out.here.2 (by omega))
    have HKO := hid hk'
    rcases hcn : wo.contains ((x / 2 : Nat) : Int) with _ | _
    · have HO := hid (show offB ⟨yk, yi, ye, ys, yh, yu⟩ wo x = false from by unfold offB; rw [show ((⟨yk, yi, ye, ys, yh, yu⟩ : TN).k == 0) = false from HKO.out, hcn]; rfl)
      rw [hcn] at HCT0
      clear hcn hk
      have HCT := hid (show tlC ⟨yk, yi, ye, ys, yh, yu⟩ wo S x = doF (tlB S x).1 (liF [yi, ye, ys, yh]) from by unfold tlC; rw [HO.out]; rfl)
      have HCI := hid (show I64 (tlC ⟨yk, yi, ye, ys, yh, yu⟩ wo S x).2 from by rw [HCT.out]; exact li_i HBO.out _)
      have HRW := hid (HC4.out.ext ((Below.refl w4.heap.size w4).alloc (Nat.le_refl _) (.cells #[.int .i64 yi, .int .i64 ye, .int .i64 ys, .int .i64 yh] 3)))
      have HM := hid (m_list HRW.out.lk HT.out (l := [yi, ye, ys, yh]) (sla_row #[.int .i64 yi, .int .i64 ye, .int .i64 ys, .int .i64 yh] (by unfold maxLen; simp)) (fun i hi => by
        obtain ⟨a1, a2, a3, a4⟩ := HWF.out
        simp only [List.mem_cons, List.mem_nil_iff, or_false] at hi
        rcases hi with rfl | rfl | rfl | rfl
        · exact a1
        · exact a2
        · exact a3
        · exact a4))
      rw [← HCT.out] at HM
      go_wp2_with fail
      refine HCT0.out.mono ?_
      rintro e wq ⟨rfl, hw⟩
      have hw' := hw.symm
      clear hw
      subst hw'
      clear HCT0
      go_wp2_with fail
      refine HM.out.mono ?_
      rintro e w5 ⟨Z5, rfl, l5, m5⟩
      have HC5 := hid (HRW.out.mv l5 m5)
      clear l5 m5 HC4 HRW HM k0 k1 k2 k3 k4
      have HRW := hid (HC5.out.ext ((Below.refl w5.heap.size w5).alloc (Nat.le_refl _) (.cells #[.int .i64 (tlA S).2, .int .i64 (tlB S x).2, .int .i64 (tlC ⟨yk, yi, ye, ys, yh, yu⟩ wo S x).2] 3)))
      have HH := hid (m_hash HRW.out.lk HT.out (l := [(tlA S).2, (tlB S x).2, (tlC ⟨yk, yi, ye, ys, yh, yu⟩ wo S x).2]) (sla_row #[.int .i64 (tlA S).2, .int .i64 (tlB S x).2, .int .i64 (tlC ⟨yk, yi, ye, ys, yh, yu⟩ wo S x).2] (by unfold maxLen; simp)) (fun i hi => by
        simp only [List.mem_cons, List.mem_nil_iff, or_false] at hi
        rcases hi with rfl | rfl | rfl
        · exact HAI.out
        · exact HBI.out
        · exact HCI.out))
      have HM5 := hid HRW.out.m
      clear HRW
      go_wp2_with fail
      refine HH.out.mono ?_
      rintro e w6 ⟨Z6, rfl, l6, m6⟩
      have L6 := hid l6; have M6 := hid (HM5.out.trans m6)
      clear l6 m6 HH
      go_wp2_with fail
      go_ret
      exact ⟨Z6, rfl, L6.out, M6.out⟩
    · have HO := hid (show offB ⟨yk, yi, ye, ys, yh, yu⟩ wo x = true from by unfold offB; rw [hcn]; exact Bool.or_true _)
      rw [hcn] at HCT0
      clear hcn hk
      have HCT := hid (show tlC ⟨yk, yi, ye, ys, yh, yu⟩ wo S x = doF (tlB S x).1 (txF ⟨#[]⟩) from by unfold tlC; rw [HO.out]; rfl)
      have HCI := hid (show I64 (tlC ⟨yk, yi, ye, ys, yh, yu⟩ wo S x).2 from by rw [HCT.out]; exact tx_i HBO.out _)
      have HM := hid (m_text HC4.out.lk HT.out ⟨#[]⟩)
      rw [← HCT.out] at HM
      go_wp2_with fail
      refine HCT0.out.mono ?_
      rintro e wq ⟨rfl, hw⟩
      have hw' := hw.symm
      clear hw
      subst hw'
      clear HCT0
      go_wp2_with fail
      refine HM.out.mono ?_
      rintro e w5 ⟨Z5, rfl, l5, m5⟩
      have HC5 := hid (HC4.out.mv l5 m5)
      clear l5 m5 HC4 HM k0 k1 k2 k3 k4
      have HRW := hid (HC5.out.ext ((Below.refl w5.heap.size w5).alloc (Nat.le_refl _) (.cells #[.int .i64 (tlA S).2, .int .i64 (tlB S x).2, .int .i64 (tlC ⟨yk, yi, ye, ys, yh, yu⟩ wo S x).2] 3)))
      have HH := hid (m_hash HRW.out.lk HT.out (l := [(tlA S).2, (tlB S x).2, (tlC ⟨yk, yi, ye, ys, yh, yu⟩ wo S x).2]) (sla_row #[.int .i64 (tlA S).2, .int .i64 (tlB S x).2, .int .i64 (tlC ⟨yk, yi, ye, ys, yh, yu⟩ wo S x).2] (by unfold maxLen; simp)) (fun i hi => by
        simp only [List.mem_cons, List.mem_nil_iff, or_false] at hi
        rcases hi with rfl | rfl | rfl
        · exact HAI.out
        · exact HBI.out
        · exact HCI.out))
      have HM5 := hid HRW.out.m
      clear HRW
      go_wp2_with fail
      refine HH.out.mono ?_
      rintro e w6 ⟨Z6, rfl, l6, m6⟩
      have L6 := hid l6; have M6 := hid (HM5.out.trans m6)
      clear l6 m6 HH
      go_wp2_with fail
      go_ret
      exact ⟨Z6, rfl, L6.out, M6.out⟩
end
end Go.Proofs.YtekfjcaihocmmaaGreatDoor

