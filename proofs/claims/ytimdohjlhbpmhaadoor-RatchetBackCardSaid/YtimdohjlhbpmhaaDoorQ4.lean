/- the reference of layer 7: how many leaves, whether some are there, whether all of a node is zero. -/
import Derived.Test.YtimdohjlhbpmhaaDoorQ3
namespace Go.Proofs.YtimdohjlhbpmhaaDoor
open Go.RowKit Go.KK Go.Shelf
set_option linter.unusedVariables false
set_option linter.unusedSimpArgs false

/-- How many leaves a row has, if it may have so many. -/
def rlv (n : Nat) : Nat := if fullN (lvN n) && (2 * (lvN n : Int) - 1 == (n : Int)) then lvN n else 0
theorem pow_full {j : Nat} (h : j ≤ 8) : fullN ((2 ^ j : Nat) : Int) = true := by
  have : j = 0 ∨ j = 1 ∨ j = 2 ∨ j = 3 ∨ j = 4 ∨ j = 5 ∨ j = 6 ∨ j = 7 ∨ j = 8 := by omega
  rcases this with rfl | rfl | rfl | rfl | rfl | rfl | rfl | rfl | rfl <;> decide
theorem full_pow {m : Nat} (h : fullN (m : Int) = true) : ∃ j, j ≤ 8 ∧ m = 2 ^ j := by
  have := of_decide_eq_true h
  rcases this with h | h | h | h | h | h | h | h | h
  · exact ⟨0, by omega, by simpa using by omega⟩
  · exact ⟨1, by omega, by simpa using by omega⟩
  · exact ⟨2, by omega, by simpa using by omega⟩
  · exact ⟨3, by omega, by simpa using by omega⟩
  · exact ⟨4, by omega, by simpa using by omega⟩
  · exact ⟨5, by omega, by simpa using by omega⟩
  · exact ⟨6, by omega, by simpa using by omega⟩
  · exact ⟨7, by omega, by simpa using by omega⟩
  · exact ⟨8, by omega, by simpa using by omega⟩
theorem rleavesT_any (A : Option Addr) (n c : Nat) (w : World) (hn : n ≤ 600) :
    Calls Tryd.prog 42 #[.slice A n c] w fun e w' => e = .returned (.int .i64 (rlv n)) ∧ w' = w := by
  go_enter Tryd.func42, Tryd.ntmps42
  go_wp2
  go_loop [3, 2] (fun k _ => ∃ (j m : Nat), k = .int .i64 m ∧ j ≤ 9 ∧ m ≤ 512 ∧ Hid (m = 2 ^ j) ∧ Hid (∀ i, i < j → n + 1 ≠ 2 * 2 ^ i)) (fun k _ => 600 - (intOf k).toNat)
  case atStart => exact ⟨0, 1, rfl, by omega, by omega, hid rfl, hid (fun i hi => by omega)⟩
  case round =>
    obtain ⟨j, m, hk, hj, hm, HM, HN⟩ := hrel
    subst hk
    have hm1 : 1 ≤ m := by rw [HM.out]; exact Nat.one_le_two_pow
    by_cases h9 : j = 9
    · have hm5 : 512 ≤ m := by rw [HM.out, h9]; decide
      have HF := hid (show rlv n = 0 by
        unfold rlv
        rw [if_neg]
        intro h
        simp only [Bool.and_eq_true, beq_iff_eq] at h
        obtain ⟨i, hi, hp⟩ := full_pow h.1
        exact HN.out i (by omega) (by rw [← hp]; omega))
      go_wp2
      go_ret
      exact ⟨by rw [HF.out]; rfl, rfl⟩
    · have hm2 : m ≤ 256 := by
        rw [HM.out]
        exact Nat.pow_le_pow_right (by omega) (show j ≤ 8 by omega)
      by_cases he : n + 1 = 2 * m
      · have HF := hid (show rlv n = m by
          have hlv : lvN n = m := by unfold lvN; omega
          unfold rlv
          rw [hlv, if_pos]
          rw [Bool.and_eq_true, beq_iff_eq]
          exact ⟨by rw [HM.out]; exact pow_full (by omega), by omega⟩)
        have he' : (2 * (m : Int) - 1 == (n : Int)) = true := beq_iff_eq.2 (by omega)
        clear he
        go_wp2
        go_ret
        exact ⟨by rw [HF.out]; rfl, rfl⟩
      · have HF := hid (show ∀ i, i < j + 1 → n + 1 ≠ 2 * 2 ^ i from fun i hi => by
          by_cases hij : i < j
          · exact HN.out i hij
          · rw [show i = j by omega, ← HM.out]
            exact he)
        have he' : (2 * (m : Int) - 1 == (n : Int)) = false := beq_eq_false_iff_ne.2 (by omega)
        have hm2' : (m : Int) * 2 ≤ 512 := by omega
        clear he
        go_wp2
        go_round
        case rel => exact ⟨j + 1, m * 2, by go_num, by omega, by omega, hid (by rw [HM.out, Nat.pow_succ]), HF⟩
        case measure => simp [intOf]; omega

/-- A leaf from one on up to another one is there. -/
def someB (xs : List TN) (a b : Nat) : Bool := (List.range b).any fun j => decide (a ≤ j) && (kd xs (2 * j) == 1)
theorem some_any (A : Option Addr) (n c : Nat) (xs : List TN) (a b : Nat) (w : World) (h : Tr w A n c xs) (hn : n ≤ 600) (hb : b ≤ lvN n) (hab : a ≤ b) :
    Calls Tryd.prog 49 #[.slice A n c, .int .i64 a, .int .i64 b] w fun e w' => e = .returned (.bool (someB xs a b)) ∧ w' = w := by
  have H := hid h; clear h
  have hN : lvN n ≤ 301 := by unfold lvN; omega
  have HB := hid hb
  go_enter Tryd.func49, Tryd.ntmps49
  go_wp2
  go_loop [7, 6] (fun i _ => ∃ j : Nat, i = .int .i64 j ∧ a ≤ j ∧ j ≤ b ∧ Hid (∀ k, a ≤ k → k < j → kd xs (2 * k) ≠ 1)) (fun i _ => b - (intOf i).toNat)
  case atStart => exact ⟨a, rfl, by omega, hab, hid (fun k h1 h2 => by omega)⟩
  case round =>
    obtain ⟨j, hi, h1, h2, H3⟩ := hrel
    subst hi
    by_cases hlt : j < b
    · have h2j : 2 * j < n := by unfold lvN at hb; omega
      obtain ⟨b0, o0, q, A', c', rfl, hx, c0, -, -, -, -, -, -⟩ := H.out.at h2j
      have HK := hid (show kd xs (2 * j) = q.k by unfold kd; rw [hx])
      clear hx
      by_cases hk : q.k = 1
      · have HS := hid (show someB xs a b = true from List.any_eq_true.2 ⟨j, List.mem_range.2 hlt, by rw [HK.out, hk]; simp [h1]⟩)
        have hk' : (q.k == 1) = true := beq_iff_eq.2 hk
        clear hk
        go_wp2
        go_ret
        exact ⟨by rw [HS.out]; rfl, rfl⟩
      · have hk' : (q.k == 1) = false := beq_eq_false_iff_ne.2 hk
        have HF := hid (show ∀ k, a ≤ k → k < j + 1 → kd xs (2 * k) ≠ 1 from fun k a1 a2 => by
          by_cases hkj : k < j
          · exact H3.out k a1 hkj
          · rw [show k = j by omega, HK.out]; exact hk)
        clear hk
        go_wp2
        go_round
        case rel => exact ⟨j + 1, by go_num, by omega, by omega, HF⟩
        case measure => simp [intOf]; omega
    · have HS := hid (show someB xs a b = false by
        rcases hh : someB xs a b with _ | _
        · rfl
        · obtain ⟨k, hk, h⟩ := List.any_eq_true.1 hh
          simp only [Bool.and_eq_true, decide_eq_true_eq, beq_iff_eq] at h
          exact absurd h.2 (H3.out k h.1 (by have := List.mem_range.1 hk; omega)))
      go_wp2
      go_ret
      exact ⟨by rw [HS.out]; rfl, rfl⟩
/-- All of a node is zero. -/
def zerB (x : TN) : Bool := x.k == 0 && x.i == 0 && x.e == 0 && x.s == 0 && x.h == 0 && ((x.u.length : Nat) : Int) == 0
theorem rzero_any (x : TN) (A : Option Addr) (c : Nat) (w : World) :
    Calls Tryd.prog 67 #[.agg #[.int .i64 x.k, .int .i64 x.i, .int .i64 x.e, .int .i64 x.s, .int .i64 x.h, .slice A x.u.length c]] w fun r w' => r = .returned (.bool (zerB x)) ∧ Below w.heap.size w w' := by
  rcases h0 : x.k == 0 with _ | _
  · skip
    have HN := hid (show zerB x = false by unfold zerB; rw [h0]; simp)
    go_enter Tryd.func67, Tryd.ntmps67
    go_wp2
    go_ret
    exact ⟨by rw [HN.out]; rfl, (Below.refl _ _).alloc (Nat.le_refl _) _⟩
  · skip
    rcases h1 : x.i == 0 with _ | _
    · skip
      have HN := hid (show zerB x = false by unfold zerB; rw [h0, h1]; simp)
      go_enter Tryd.func67, Tryd.ntmps67
      go_wp2
      go_ret
      exact ⟨by rw [HN.out]; rfl, (Below.refl _ _).alloc (Nat.le_refl _) _⟩
    · skip
      rcases h2 : x.e == 0 with _ | _
      · skip
        have HN := hid (show zerB x = false by unfold zerB; rw [h0, h1, h2]; simp)
        go_enter Tryd.func67, Tryd.ntmps67
        go_wp2
        go_ret
        exact ⟨by rw [HN.out]; rfl, (Below.refl _ _).alloc (Nat.le_refl _) _⟩
      · skip
        rcases h3 : x.s == 0 with _ | _
        · skip
          have HN := hid (show zerB x = false by unfold zerB; rw [h0, h1, h2, h3]; simp)
          go_enter Tryd.func67, Tryd.ntmps67
          go_wp2
          go_ret
          exact ⟨by rw [HN.out]; rfl, (Below.refl _ _).alloc (Nat.le_refl _) _⟩
        · skip
          rcases h4 : x.h == 0 with _ | _
          · skip
            have HN := hid (show zerB x = false by unfold zerB; rw [h0, h1, h2, h3, h4]; simp)
            go_enter Tryd.func67, Tryd.ntmps67
            go_wp2
            go_ret
            exact ⟨by rw [HN.out]; rfl, (Below.refl _ _).alloc (Nat.le_refl _) _⟩
          · skip
            rcases h5 : ((x.u.length : Nat) : Int) == 0 with _ | _
            · skip
              have HN := hid (show zerB x = false by unfold zerB; rw [h0, h1, h2, h3, h4, h5]; simp)
              go_enter Tryd.func67, Tryd.ntmps67
              go_wp2
              go_ret
              exact ⟨by rw [HN.out]; rfl, (Below.refl _ _).alloc (Nat.le_refl _) _⟩
            · skip
              have HN := hid (show zerB x = true by unfold zerB; rw [h0, h1, h2, h3, h4, h5]; simp)
              go_enter Tryd.func67, Tryd.ntmps67
              go_wp2
              go_ret
              exact ⟨by rw [HN.out]; rfl, (Below.refl _ _).alloc (Nat.le_refl _) _⟩
end Go.Proofs.YtimdohjlhbpmhaaDoor
