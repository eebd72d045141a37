/- ratchet: whether a node may be a parent at its place. -/
import Derived.Test.YtimdohjlhbpmhaaDoorR3
import Derived.Deep.QuietTactic
import Derived.BigQuiet
import Derived.Deep.RegionHeld3
namespace Go.Proofs.YtimdohjlhbpmhaaDoor
open Go.RowKit Go.KK
set_option linter.unusedVariables false
set_option linter.unusedSimpArgs false

/-- A node's list. -/
def um (xs : List TN) (j : Nat) : List Int := match xs[j]? with | some x => x.u | none => []
/-- The parents between a leaf and a node above it have the leaf. -/
def pthB (xs : List TN) (x i : Int) : Bool := ((pathL (2 * i) (lvN xs.length)).takeWhile (fun y => y != x)).all fun y => kd xs y.toNat != 2 || (um xs y.toNat).contains i
def oneB (xs : List TN) (x i : Int) : Bool := decide (lfA x ≤ i) && decide (i < lfB x) && pres xs i && pthB xs x i
def parB (xs : List TN) (x : Int) (p : TN) : Bool := (p.k == 2) && (p.i == 0) && (p.s == 0) && riseB p.u && p.u.all (oneB xs x)

theorem parent_k (A : Option Addr) (n c : Nat) (x : Int) (k i e s h : Int) (B : Option Addr) (m d : Nat) (w : World) (hk : ¬ k = 2) :
    Calls Tryd.prog 53 #[.slice A n c, .int .i64 x, .agg #[.int .i64 k, .int .i64 i, .int .i64 e, .int .i64 s, .int .i64 h, .slice B m d]] w fun e w' => e = .returned (.bool false) ∧ Below w.heap.size w w' := by
  have hk' : (k != 2) = true := bne_iff_ne.2 hk
  go_enter Tryd.func53, Tryd.ntmps53
  go_wp2
  go_quiet (fail)
  go_wp2
  go_ret
  exact ⟨rfl, below_drewN ((Below.refl _ _).alloc (Nat.le_refl _) _) _⟩
set_option maxHeartbeats 2000000 in
theorem parent_c (A : Option Addr) (n c : Nat) (x : Int) (e h : Int) (u : List Int) (B : Option Addr) (m d : Nat) (w : World) (hs : SlA w 1 B m d (u.map (.int .i64))) (hm47 : m ≤ 2147483648) (hso : sortB u = true) (hr : riseB u = false) :
    Calls Tryd.prog 53 #[.slice A n c, .int .i64 x, .agg #[.int .i64 2, .int .i64 0, .int .i64 e, .int .i64 0, .int .i64 h, .slice B m d]] w fun e w' => e = .returned (.bool false) ∧ Below w.heap.size w w' := by
  have HN := hid hs.lenI
  have hc : ((Lib.compact u).length : Int) != (m : Int) := by
    unfold riseB at hr
    rw [hso, HN.out] at hr
    simpa [bne] using hr
  have HSO := hid hso; have HS := hid hs
  clear hr hso hs
  go_enter Tryd.func53, Tryd.ntmps53
  go_wp2
  have hb0 : Below w.heap.size w (w.alloc (.cells #[.int .i64 2, .int .i64 0, .int .i64 e, .int .i64 0, .int .i64 h, .slice B m d] 25)) := (Below.refl _ _).alloc (Nat.le_refl _) _
  have hz0 : w.heap.size + 1 ≤ (w.alloc (.cells #[.int .i64 2, .int .i64 0, .int .i64 e, .int .i64 0, .int .i64 h, .slice B m d] 25)).heap.size := by simp
  have k0 : (w.alloc (.cells #[.int .i64 2, .int .i64 0, .int .i64 e, .int .i64 0, .int .i64 h, .slice B m d] 25)).cell? ⟨w.heap.size, 0, none⟩ = some (.int .i64 2) := by rw [World.cell?_alloc_new]; rfl
  have k1 : (w.alloc (.cells #[.int .i64 2, .int .i64 0, .int .i64 e, .int .i64 0, .int .i64 h, .slice B m d] 25)).cell? ⟨w.heap.size, 1, none⟩ = some (.int .i64 0) := by rw [World.cell?_alloc_new]; rfl
  have k3 : (w.alloc (.cells #[.int .i64 2, .int .i64 0, .int .i64 e, .int .i64 0, .int .i64 h, .slice B m d] 25)).cell? ⟨w.heap.size, 3, none⟩ = some (.int .i64 0) := by rw [World.cell?_alloc_new]; rfl
  have k5 : (w.alloc (.cells #[.int .i64 2, .int .i64 0, .int .i64 e, .int .i64 0, .int .i64 h, .slice B m d] 25)).cell? ⟨w.heap.size, 5, none⟩ = some (.slice B m d) := by rw [World.cell?_alloc_new]; rfl
  generalize w.alloc (.cells #[.int .i64 2, .int .i64 0, .int .i64 e, .int .i64 0, .int .i64 h, .slice B m d] 25) = W0 at hb0 hz0 k0 k1 k3 k5 ⊢
  go_region_held3 (fun w' => w'.cell? ⟨w.heap.size, 0, none⟩ = some (.int .i64 2) ∧ w'.cell? ⟨w.heap.size, 1, none⟩ = some (.int .i64 0) ∧ w'.cell? ⟨w.heap.size, 3, none⟩ = some (.int .i64 0) ∧ w'.cell? ⟨w.heap.size, 5, none⟩ = some (.slice B m d) ∧ Below w.heap.size w w' ∧ w.heap.size + 1 ≤ w'.heap.size) (first | exact ⟨k0, k1, k3, k5, hb0, hz0⟩ | exact ⟨k0, k1, k3, k5, below_drew hb0, hz0⟩ | exact ⟨k0, k1, k3, k5, below_drewN hb0 _, hz0⟩ | exact ⟨r0, r1, r3, r5, rb, rz⟩ | exact ⟨s0, s1, s3, s5, sb, sz⟩ | go_keep) (first
    | (go_at_call 73; refine (sorted_any B m d u _ (HS.out.ext (below_drew hb0)) hm47).mono ?_; rintro e1 w1 ⟨rfl, q, rfl⟩; rw [HSO.out])
    | (go_at_call 58; refine (clone_int B m d u _ (HS.out.ext (below_drewN hb0 (1 + q))) hm47).mono ?_; rintro e2 w2 ⟨v2, rfl, hown2, hb2⟩; have r0 := (hb2.cell (p := ⟨w.heap.size, 0, none⟩) hz0).trans k0; have r1 := (hb2.cell (p := ⟨w.heap.size, 1, none⟩) hz0).trans k1; have r3 := (hb2.cell (p := ⟨w.heap.size, 3, none⟩) hz0).trans k3; have r5 := (hb2.cell (p := ⟨w.heap.size, 5, none⟩) hz0).trans k5; have rb := (below_drewN hb0 (1 + q)).trans (hb2.mono (Nat.le_of_succ_le hz0)); have rz := Nat.le_trans hz0 hb2.size)
    | (go_at_call 74; refine (compact_own _ v2 m u _ hown2 hm47).mono ?_; rintro e3 w3 ⟨A3, c3, rfl, hb3⟩; have s0 := (hb3.cell (p := ⟨w.heap.size, 0, none⟩) hz0).trans r0; have s1 := (hb3.cell (p := ⟨w.heap.size, 1, none⟩) hz0).trans r1; have s3 := (hb3.cell (p := ⟨w.heap.size, 3, none⟩) hz0).trans r3; have s5 := (hb3.cell (p := ⟨w.heap.size, 5, none⟩) hz0).trans r5; have sb := rb.trans (hb3.mono (Nat.le_of_succ_le hz0)); have sz := Nat.le_trans rz hb3.size))
  go_wp2
  go_ret
  exact ⟨rfl, sb⟩
theorem parent_i (A : Option Addr) (n c : Nat) (x : Int) (i e s h : Int) (B : Option Addr) (m d : Nat) (w : World) (hi : ¬ i = 0) :
    Calls Tryd.prog 53 #[.slice A n c, .int .i64 x, .agg #[.int .i64 2, .int .i64 i, .int .i64 e, .int .i64 s, .int .i64 h, .slice B m d]] w fun e w' => e = .returned (.bool false) ∧ Below w.heap.size w w' := by
  have hk' : (i != 0) = true := bne_iff_ne.2 hi
  go_enter Tryd.func53, Tryd.ntmps53
  go_wp2
  go_quiet (fail)
  go_wp2
  go_ret
  exact ⟨rfl, below_drewN ((Below.refl _ _).alloc (Nat.le_refl _) _) _⟩
theorem parent_s (A : Option Addr) (n c : Nat) (x : Int) (e s h : Int) (B : Option Addr) (m d : Nat) (w : World) (hs : ¬ s = 0) :
    Calls Tryd.prog 53 #[.slice A n c, .int .i64 x, .agg #[.int .i64 2, .int .i64 0, .int .i64 e, .int .i64 s, .int .i64 h, .slice B m d]] w fun e w' => e = .returned (.bool false) ∧ Below w.heap.size w w' := by
  have hk' : (s != 0) = true := bne_iff_ne.2 hs
  go_enter Tryd.func53, Tryd.ntmps53
  go_wp2
  go_quiet (fail)
  go_wp2
  go_ret
  exact ⟨rfl, below_drewN ((Below.refl _ _).alloc (Nat.le_refl _) _) _⟩
theorem parent_o (A : Option Addr) (n c : Nat) (x : Int) (e h : Int) (u : List Int) (B : Option Addr) (m d : Nat) (w : World) (hs : SlA w 1 B m d (u.map (.int .i64))) (hm47 : m ≤ 2147483648) (hso : sortB u = false) :
    Calls Tryd.prog 53 #[.slice A n c, .int .i64 x, .agg #[.int .i64 2, .int .i64 0, .int .i64 e, .int .i64 0, .int .i64 h, .slice B m d]] w fun e w' => e = .returned (.bool false) ∧ Below w.heap.size w w' := by
  have hcall : ∀ k, Calls Tryd.prog 73 #[.slice B m d] ((w.alloc (.cells #[.int .i64 2, .int .i64 0, .int .i64 e, .int .i64 0, .int .i64 h, .slice B m d] 25)).drewN k) fun r w' => r = .returned (.bool false) ∧ ∃ q, w' = ((w.alloc (.cells #[.int .i64 2, .int .i64 0, .int .i64 e, .int .i64 0, .int .i64 h, .slice B m d] 25)).drewN k).drewN q := fun k => by
    have := sorted_any B m d u _ ((hs.alloc (.cells #[.int .i64 2, .int .i64 0, .int .i64 e, .int .i64 0, .int .i64 h, .slice B m d] 25)).drewN k) hm47
    rw [hso] at this
    exact this
  go_enter Tryd.func53, Tryd.ntmps53
  go_wp2
  go_quiet ((go_at_call 73; exact Calls.quiet_of (hcall _)))
  go_wp2
  go_ret
  exact ⟨rfl, below_drewN ((Below.refl _ _).alloc (Nat.le_refl _) _) _⟩
end Go.Proofs.YtimdohjlhbpmhaaDoor
