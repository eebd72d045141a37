/- math: what a tree's numbers are. -/
import Derived.Test.YtimdohjlhbpmhaaDoorS1
import Derived.Test.YtimdohjlhbpmhaaDoorK1
namespace Go.Proofs.YtimdohjlhbpmhaaDoor
open Go.RowKit Go.KK
set_option linter.unusedVariables false
set_option linter.unusedSimpArgs false

/-- A number of leaves that a tree may have. -/
def fullN (n : Int) : Bool := decide (n = 1 ∨ n = 2 ∨ n = 4 ∨ n = 8 ∨ n = 16 ∨ n = 32 ∨ n = 64 ∨ n = 128 ∨ n = 256)
theorem fullN_and : ∀ n : Nat, n < 256 → (((n + 1) &&& n) = 0 ↔ fullN ((n + 1 : Nat) : Int) = true) := by decide +kernel
theorem fullN_bits {n : Int} (h1 : 1 ≤ n) (h2 : n ≤ 256) : ∃ k : Nat, bits .and .i64 n (n - 1) = (k : Int) ∧ fullN n = decide (k = 0) := by
  refine ⟨_, i64_and _ _ (by omega) (by omega) (by omega) (by omega), ?_⟩
  have hf := fullN_and (n.toNat - 1) (by omega)
  rw [show n.toNat - 1 + 1 = n.toNat by omega, show ((n.toNat : Nat) : Int) = n by omega, show n.toNat - 1 = (n - 1).toNat by omega] at hf
  rcases hc : fullN n with _ | _
  · exact (decide_eq_false fun h => by rw [hf.1 h] at hc; cases hc).symm
  · exact (decide_eq_true (hf.2 hc)).symm
theorem full_any (n : Int) (w : World) :
    Calls Tryd.prog 71 #[.int .i64 n] w fun e w' => e = .returned (.bool (fullN n)) ∧ w' = w := by
  go_enter Tryd.func71, Tryd.ntmps71
  by_cases h1 : 1 ≤ n
  · by_cases h2 : n ≤ 256
    · obtain ⟨k, hb, hf⟩ := fullN_bits h1 h2
      rw [hf]
      clear hf
      by_cases h0 : k = 0
      · subst h0
        go_wp2
        go_ret
        exact ⟨rfl, rfl⟩
      · have hz : ((k : Int) == 0) = false := beq_eq_false_iff_ne.2 (by omega)
        rw [decide_eq_false h0]
        clear h0
        go_wp2
        go_ret
        exact ⟨rfl, rfl⟩
    · have hn : fullN n = false := decide_eq_false (by omega)
      rw [hn]
      go_wp2
      go_ret
      exact ⟨rfl, rfl⟩
  · have hn : fullN n = false := decide_eq_false (by omega)
    rw [hn]
    go_wp2
    go_ret
    exact ⟨rfl, rfl⟩

theorem xor_max (x : Nat) (hx : x < 9223372036854775808) : bits .xor .u64 IntKind.u64.max (x : Int) = ((18446744073709551615 - x : Nat) : Int) := by
  show IntKind.u64.wrap ((BitVec.ofInt 64 IntKind.u64.max ^^^ BitVec.ofInt 64 (x : Int)).toNat : Int) = _
  have h1 : BitVec.ofInt 64 IntKind.u64.max = BitVec.allOnes 64 := by decide
  rw [h1, BitVec.allOnes_xor, BitVec.toNat_not, ofInt_i64 x (by omega), IntKind.wrap_u64]
  omega
/-- A node's level: the ones that it ends in. -/
def lvl (x : Int) : Nat := Lib.ctz 64 (18446744073709551615 - x.toNat)
theorem lvl_y {x : Int} (h0 : 0 ≤ x) (h1 : x < 9223372036854775807) : ∃ y : Nat, bits .xor .u64 IntKind.u64.max x = (y : Int) ∧ Hid (y < 18446744073709551616) ∧ lvl x = Lib.ctz 64 y := by
  obtain ⟨m, rfl⟩ := Int.eq_ofNat_of_zero_le h0
  exact ⟨_, xor_max m (by omega), by show _ < _; omega, rfl⟩
theorem level_any (x : Int) (w : World) (h0 : 0 ≤ x) (h1 : x < 9223372036854775807) (hT : Tab w) :
    Calls Tryd.prog 88 #[.int .i64 x] w fun e w' => e = .returned (.int .i64 (lvl x)) ∧ w' = w := by
  go_enter Tryd.func88, Tryd.ntmps88
  obtain ⟨y, hx, HY, hl⟩ := lvl_y h0 h1
  rw [hl]
  clear hl
  go_wp2_with fail
  refine (Tryd.trailing y HY.out _ hT).mono ?_
  rintro e w' ⟨rfl, rfl⟩
  go_wp2
  go_ret
  exact ⟨rfl, rfl⟩

end Go.Proofs.YtimdohjlhbpmhaaDoor
