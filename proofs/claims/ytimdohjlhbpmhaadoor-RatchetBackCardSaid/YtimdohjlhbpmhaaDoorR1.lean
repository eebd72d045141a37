/- ratchet: leaves, and which are there. -/
import Derived.Test.YtimdohjlhbpmhaaDoorM3
import Derived.Test.YtimdohjlhbpmhaaDoorT1
namespace Go.Proofs.YtimdohjlhbpmhaaDoor
open Go.RowKit Go.KK
set_option linter.unusedVariables false
set_option linter.unusedSimpArgs false

theorem leaf_any (k i e s h : Int) (A : Option Addr) (n c : Nat) (w : World) :
    Calls Tryd.prog 33 #[.agg #[.int .i64 k, .int .i64 i, .int .i64 e, .int .i64 s, .int .i64 h, .slice A n c]] w fun e w' => e = .returned (.bool (k == 1 && (n : Int) == 0)) ∧ Below w.heap.size w w' := by
  go_enter Tryd.func33, Tryd.ntmps33
  go_wp2
  all_goals go_ret
  all_goals exact ⟨by simp_all, (Below.refl _ _).alloc (Nat.le_refl _) _⟩
theorem rleaf_any (k i e s h : Int) (A : Option Addr) (n c : Nat) (w : World) :
    Calls Tryd.prog 41 #[.agg #[.int .i64 k, .int .i64 i, .int .i64 e, .int .i64 s, .int .i64 h, .slice A n c]] w fun e w' => e = .returned (.bool (k == 1 && (n : Int) == 0)) ∧ Below w.heap.size w w' := by
  go_enter Tryd.func41, Tryd.ntmps41
  go_wp2
  all_goals go_ret
  all_goals exact ⟨by simp_all, (Below.refl _ _).alloc (Nat.le_refl _) _⟩
/-- How many leaves a row has. -/
def lvN (n : Nat) : Nat := (n + 1) / 2
theorem lvN_tdiv (n : Nat) : ((lvN n : Nat) : Int).tdiv 2 = ((lvN n / 2 : Nat) : Int) := rfl
theorem leavesT_any (A : Option Addr) (n c : Nat) (w : World) (hn : n ≤ 600) :
    Calls Tryd.prog 36 #[.slice A n c] w fun e w' => e = .returned (.int .i64 (lvN n)) ∧ w' = w := by
  go_enter Tryd.func36, Tryd.ntmps36
  go_wp2
  go_ret
  exact ⟨by unfold lvN; simp, rfl⟩
/-- A node's kind. -/
def kd (xs : List TN) (j : Nat) : Int := match xs[j]? with | some x => x.k | none => 0
/-- Whether a leaf is there. -/
def pres (xs : List TN) (i : Int) : Bool := decide (0 ≤ i) && decide (i < lvN xs.length) && (kd xs (2 * i).toNat == 1)
theorem present_any (A : Option Addr) (n c : Nat) (xs : List TN) (i : Int) (w : World) (h : Tr w A n c xs) (hnm : n ≤ 600) :
    Calls Tryd.prog 35 #[.slice A n c, .int .i64 i] w fun e w' => e = .returned (.bool (pres xs i)) ∧ w' = w := by
  have hn := h.len
  go_enter Tryd.func35, Tryd.ntmps35
  by_cases h0 : 0 ≤ i
  · by_cases h1 : i < lvN n
    · obtain ⟨j, rfl⟩ := Int.eq_ofNat_of_zero_le h0
      have hj : 2 * j < n := by unfold lvN at h1; omega
      obtain ⟨b, o, x, A', c', rfl, hx, c0, -, -, -, -, -, -⟩ := h.at hj
      have hp : pres xs (j : Int) = (x.k == 1) := by unfold pres kd; rw [hn, show (2 * (j : Int)).toNat = 2 * j by omega, hx]; simp [h1]
      rw [hp]
      clear hp hx
      go_wp2_with (go_at_call 36; refine (leavesT_any _ n c _ hnm).mono ?_; rintro e w' ⟨rfl, rfl⟩)
      go_ret
      exact ⟨rfl, rfl⟩
    · have hp : pres xs i = false := by unfold pres; rw [hn]; simp [h1]
      rw [hp]
      go_wp2_with (go_at_call 36; refine (leavesT_any _ n c _ hnm).mono ?_; rintro e w' ⟨rfl, rfl⟩)
      go_ret
      exact ⟨rfl, rfl⟩
  · have hp : pres xs i = false := by unfold pres; simp [h0]
    rw [hp]
    go_wp2_with fail
    go_ret
    exact ⟨rfl, rfl⟩
theorem pres_out {xs : List TN} {i : Int} (h : ¬ i < lvN xs.length) : pres xs i = false := by unfold pres; simp [h]
/-- No leaf is there in the right half. -/
def halfB (xs : List TN) : Bool := (List.range (lvN xs.length)).all fun j => decide (j < lvN xs.length / 2) || !pres xs j
theorem half_any (A : Option Addr) (n c : Nat) (xs : List TN) (w : World) (h : Tr w A n c xs) (hnm : n ≤ 600) :
    Calls Tryd.prog 46 #[.slice A n c] w fun e w' => e = .returned (.bool (halfB xs)) ∧ w' = w := by
  have hn := h.len
  have hN : lvN n ≤ 301 := by unfold lvN; omega
  have htd := lvN_tdiv n
  have hX := hid hn; clear hn
  go_enter Tryd.func46, Tryd.ntmps46
  go_wp2_with (first
    | (go_at_call 36; refine (leavesT_any _ n c _ hnm).mono ?_; rintro e w' ⟨rfl, rfl⟩))
  go_loop [2, 4] (fun _ i => ∃ j : Nat, i = .int .i64 j ∧ lvN n / 2 ≤ j ∧ j ≤ lvN n ∧ ∀ k : Nat, lvN n / 2 ≤ k → k < j → pres xs k = false) (fun _ i => lvN n - (intOf i).toNat)
  case atStart => exact ⟨lvN n / 2, rfl, Nat.le_refl _, by omega, fun k a b => by omega⟩
  case round =>
    obtain ⟨j, hi, h1, h2, h3⟩ := hrel
    subst hi
    have H3 := hid h3; clear h3
    by_cases hlt : j < lvN n
    · rcases hp : pres xs j with _ | _
      · go_wp2_with (go_at_call 35; refine (present_any _ n c xs _ _ h hnm).mono ?_; rintro e w' ⟨rfl, rfl⟩; rw [hp])
        go_round
        case rel => exact ⟨j + 1, by go_num, by omega, by omega, fun k a b => by
          by_cases hk : k < j
          · exact H3.out k a hk
          · rw [show k = j by omega]; exact hp⟩
        case measure => simp [intOf]; omega
      · have hh : halfB xs = false := by
          rcases hh : halfB xs with _ | _
          · rfl
          · have := List.all_eq_true.1 hh j (List.mem_range.2 (by rw [hX.out]; exact hlt))
            rw [hp, hX.out] at this
            simp at this
            omega
        have HH := hid hh; clear hh
        go_wp2_with (go_at_call 35; refine (present_any _ n c xs _ _ h hnm).mono ?_; rintro e w' ⟨rfl, rfl⟩; rw [hp])
        go_ret
        exact ⟨by rw [HH.out]; rfl, rfl⟩
    · have hh : halfB xs = true := by
        refine List.all_eq_true.2 fun k hk => ?_
        rw [hX.out] at hk ⊢
        rw [List.mem_range] at hk
        by_cases hk2 : k < lvN n / 2
        · simp [hk2]
        · rw [H3.out k (by omega) (by omega)]; simp
      have HH := hid hh; clear hh
      go_wp2
      go_ret
      exact ⟨by rw [HH.out]; rfl, rfl⟩

end Go.Proofs.YtimdohjlhbpmhaaDoor
