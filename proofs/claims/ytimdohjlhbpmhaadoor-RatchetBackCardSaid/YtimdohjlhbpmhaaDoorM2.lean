/- math: the node above, and the way up. -/
import Derived.Test.YtimdohjlhbpmhaaDoorM1
namespace Go.Proofs.YtimdohjlhbpmhaaDoor
open Go.RowKit Go.KK
set_option linter.unusedVariables false
set_option linter.unusedSimpArgs false

/-- The node above, in a tree without an end. -/
def upV (x : Int) : Int := bits .andNot .i64 (bits .or .i64 x (wrap64 (2 ^ lvl x))) (wrap64 (2 ^ (lvl x + 1)))
theorem lvl_small : ∀ x : Nat, x < 511 → lvl (x : Int) ≤ 8 := by decide +kernel
theorem lvl_le {x : Int} (h0 : 0 ≤ x) (h1 : x ≤ 510) : lvl x ≤ 8 := by
  obtain ⟨m, rfl⟩ := Int.eq_ofNat_of_zero_le h0
  exact lvl_small m (by omega)
theorem up_any (x : Int) (w : World) (h0 : 0 ≤ x) (h1 : x ≤ 510) (hT : Tab w) :
    Calls Tryd.prog 78 #[.int .i64 x] w fun e w' => e = .returned (.int .i64 (upV x)) ∧ w' = w.drew := by
  have HT := hid hT; clear hT
  have hk0 : (0 : Int) ≤ (lvl x : Int) := by omega
  have hk1 : (lvl x : Int) ≤ 9 := by have := lvl_le h0 h1; omega
  go_enter Tryd.func78, Tryd.ntmps78
  go_wp2_with (go_at_call 88; refine (level_any x _ h0 (by omega) HT.out).mono ?_; rintro e w' ⟨rfl, rfl⟩)
  go_region
  go_wp2
  go_ret
  exact ⟨rfl, rfl⟩

theorem width1_any (n : Int) (b : Nat) (w : World) (h1 : 1 ≤ n) (h2 : n ≤ 256) (hc : w.cell? ⟨b, 0, none⟩ = some (.int .i64 n)) :
    Calls Tryd.prog 72 #[.pointer (some ⟨b, 0, none⟩)] w fun e w' => e = .returned (.int .i64 (2 * n - 1)) ∧ w' = w := by
  go_enter Tryd.func72, Tryd.ntmps72
  go_wp2
  go_ret
  exact ⟨rfl, rfl⟩
theorem whenW_any (ok : Bool) (n : Int) (b : Nat) (w : World) (h1 : ok = true → 1 ≤ n ∧ n ≤ 256) (hc : w.cell? ⟨b, 0, none⟩ = some (.int .i64 n)) :
    Calls Tryd.prog 70 #[.bool ok, .func (.func 72) #[] #[.pointer (some ⟨b, 0, none⟩)]] w fun e w' => e = .returned (.tuple #[.int .i64 (if ok then 2 * n - 1 else 0), .int .i64 (if ok then 0 else 1)]) ∧ w' = w := by
  rcases ok with _ | _
  · go_enter Tryd.func70, Tryd.ntmps70
    go_wp2_with fail
    go_ret2
    exact ⟨rfl, rfl⟩
  · obtain ⟨h2, h3⟩ := h1 rfl
    clear h1
    go_enter Tryd.func70, Tryd.ntmps70
    go_wp2_with (go_at_call 72; refine (width1_any n b _ h2 h3 hc).mono ?_; rintro e w' ⟨rfl, rfl⟩)
    go_ret2
    exact ⟨rfl, rfl⟩
theorem fullN_le {n : Int} (h : fullN n = true) : 1 ≤ n ∧ n ≤ 256 := by
  have := of_decide_eq_true h
  omega
/-- How wide a tree is. -/
theorem width_any (n : Int) (w : World) :
    Calls Tryd.prog 51 #[.int .i64 n] w fun e w' => e = .returned (.tuple #[.int .i64 (if fullN n then 2 * n - 1 else 0), .int .i64 (if fullN n then 0 else 1)]) ∧ Below w.heap.size w w' := by
  have HF := hid (fun h => @fullN_le n h)
  have hcl : (w.alloc (.cells #[.int .i64 n] 3)).cell? ⟨w.heap.size, 0, none⟩ = some (.int .i64 n) := by rw [World.cell?_alloc_new]; rfl
  go_enter Tryd.func51, Tryd.ntmps51
  go_wp2_with (first
    | (go_at_call 71; refine (full_any n _).mono ?_; rintro e w' ⟨rfl, rfl⟩)
    | (go_at_call 70; refine (whenW_any (fullN n) n _ _ HF.out hcl).mono ?_; rintro e w' ⟨rfl, rfl⟩))
  all_goals go_ret2
  all_goals exact ⟨rfl, (Below.refl _ _).alloc (Nat.le_refl _) _⟩

theorem inside_any (x n : Int) (w : World) :
    Calls Tryd.prog 77 #[.int .i64 x, .int .i64 n] w fun e w' => e = .returned (.bool (fullN n && decide (0 ≤ x) && decide (x < 2 * n - 1))) ∧ w' = w := by
  go_enter Tryd.func77, Tryd.ntmps77
  rcases hf : fullN n with _ | _
  · go_wp2_with (go_at_call 71; refine (full_any n _).mono ?_; rintro e w' ⟨rfl, rfl⟩; rw [hf])
    go_ret
    exact ⟨rfl, rfl⟩
  · obtain ⟨h1, h2⟩ := fullN_le hf
    by_cases h0 : 0 ≤ x
    · go_wp2_with (go_at_call 71; refine (full_any n _).mono ?_; rintro e w' ⟨rfl, rfl⟩; rw [hf])
      go_ret
      exact ⟨by simp [h0], rfl⟩
    · go_wp2_with (go_at_call 71; refine (full_any n _).mono ?_; rintro e w' ⟨rfl, rfl⟩; rw [hf])
      go_ret
      exact ⟨by simp; omega, rfl⟩
theorem any1_any (x : Int) (w : World) (h0 : 0 ≤ x) (h1 : x ≤ 510) :
    Calls Tryd.prog 87 #[.int .i64 x] w fun e w' => e = .returned (.bool true) ∧ w' = w := by
  go_enter Tryd.func87, Tryd.ntmps87
  go_wp2_with fail
  go_ret
  exact ⟨by simp [h1], rfl⟩
theorem check_any (w : World) :
    Calls Tryd.prog 86 #[.bool true] w fun e w' => e = .returned (.int .i64 0) ∧ w' = w := by
  go_enter Tryd.func86, Tryd.ntmps86
  go_wp2_with fail
  go_ret
  exact ⟨rfl, rfl⟩
/-- The leaves under a node: from one on up to another one. -/
def lfA (x : Int) : Int := wrap64 ((wrap64 (x - wrap64 (wrap64 (2 ^ lvl x) - 1))).tdiv 2)
def lfB (x : Int) : Int := wrap64 (wrap64 ((wrap64 (x + wrap64 (wrap64 (2 ^ lvl x) - 1))).tdiv 2) + 1)
theorem leaves_any (x : Int) (w : World) (h0 : 0 ≤ x) (h1 : x ≤ 510) (hT : Tab w) :
    Calls Tryd.prog 75 #[.int .i64 x] w fun e w' => e = .returned (.tuple #[.int .i64 (lfA x), .int .i64 (lfB x), .int .i64 0]) ∧ w' = w := by
  have HT := hid hT; clear hT
  have hk0 : (0 : Int) ≤ (lvl x : Int) := by omega
  have hk1 : (lvl x : Int) ≤ 9 := by have := lvl_le h0 h1; omega
  go_enter Tryd.func75, Tryd.ntmps75
  go_wp2_with (first
    | (go_at_call 87; refine (any1_any x _ h0 h1).mono ?_; rintro e w' ⟨rfl, rfl⟩)
    | (go_at_call 86; refine (check_any _).mono ?_; rintro e w' ⟨rfl, rfl⟩)
    | (go_at_call 88; refine (level_any x _ h0 (by omega) HT.out).mono ?_; rintro e w' ⟨rfl, rfl⟩))
  go_ret3
  exact ⟨rfl, rfl⟩

end Go.Proofs.YtimdohjlhbpmhaaDoor
