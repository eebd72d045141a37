/- the reference of layer 6: a tree's numbers. -/
import Derived.Test.YtimdohjlhbpmhaaDoorQ2
namespace Go.Proofs.YtimdohjlhbpmhaaDoor
open Go.RowKit Go.KK Go.Shelf
set_option linter.unusedVariables false
set_option linter.unusedSimpArgs false

theorem rfull_any (n : Int) (w : World) :
    Calls Tryd.prog 81 #[.int .i64 n] w fun e w' => e = .returned (.bool (fullN n)) ∧ w' = w := by
  go_enter Tryd.func81, Tryd.ntmps81
  go_wp2
  go_loop [3, 2] (fun k _ => ∃ (j m : Nat), k = .int .i64 m ∧ j ≤ 9 ∧ m ≤ 512 ∧ Hid (m = 2 ^ j) ∧ Hid (∀ i, i < j → n ≠ 2 ^ i)) (fun k _ => 600 - (intOf k).toNat)
  case atStart => exact ⟨0, 1, rfl, by omega, by omega, hid rfl, hid (fun i hi => by omega)⟩
  case round =>
    obtain ⟨j, m, hk, hj, hm, HM, HN⟩ := hrel
    subst hk
    have hm1 : 1 ≤ m := by rw [HM.out]; exact Nat.one_le_two_pow
    by_cases h9 : j = 9
    · have hm5 : 512 ≤ m := by rw [HM.out, h9]; decide
      have HF := hid (show fullN n = false from decide_eq_false (by
        intro h
        have H := HN.out
        rw [h9] at H
        have h0 := H 0 (by omega); have h1 := H 1 (by omega); have h2 := H 2 (by omega); have h3 := H 3 (by omega); have h4 := H 4 (by omega); have h5 := H 5 (by omega); have h6 := H 6 (by omega); have h7 := H 7 (by omega); have h8 := H 8 (by omega)
        simp at h0 h1 h2 h3 h4 h5 h6 h7 h8
        omega))
      go_wp2
      go_ret
      exact ⟨by rw [HF.out]; rfl, rfl⟩
    · have hm2 : m ≤ 256 := by
        rw [HM.out]
        exact Nat.pow_le_pow_right (by omega) (show j ≤ 8 by omega)
      by_cases he : (m : Int) = n
      · have HF := hid (show fullN n = true from decide_eq_true (by
          have h8 : j ≤ 8 := by omega
          have hh := HM.out
          rw [← he, hh]
          have : j = 0 ∨ j = 1 ∨ j = 2 ∨ j = 3 ∨ j = 4 ∨ j = 5 ∨ j = 6 ∨ j = 7 ∨ j = 8 := by omega
          rcases this with rfl | rfl | rfl | rfl | rfl | rfl | rfl | rfl | rfl <;> decide))
        have he' : ((m : Int) == n) = true := beq_iff_eq.2 he
        clear he
        go_wp2
        go_ret
        exact ⟨by rw [HF.out]; rfl, rfl⟩
      · have HF := hid (show ∀ i, i < j + 1 → n ≠ 2 ^ i from fun i hi => by
          by_cases hij : i < j
          · exact HN.out i hij
          · rw [show i = j by omega]
            intro e
            exact he (by rw [HM.out, e]; simp))
        have he' : ((m : Int) == n) = false := beq_eq_false_iff_ne.2 he
        have hm2' : (m : Int) * 2 ≤ 512 := by omega
        clear he
        go_wp2
        go_round
        case rel => exact ⟨j + 1, m * 2, by go_num, by omega, by omega, hid (by rw [HM.out, Nat.pow_succ]), HF⟩
        case measure => simp [intOf]; omega

def levF : Nat → Nat → Nat
  | 0, _ => 0
  | f + 1, m => if m % 2 = 1 then levF f (m / 2) + 1 else 0
theorem lev_eq : ∀ m : Nat, m < 511 → levF 10 m = lvl (m : Int) := by decide +kernel
theorem rlevel_any (m : Nat) (w : World) (hm : m ≤ 510) :
    Calls Tryd.prog 84 #[.int .i64 m] w fun e w' => e = .returned (.tuple #[.int .i64 (lvl (m : Int)), .int .i64 0]) ∧ w' = w := by
  have HL := hid (lev_eq m (by omega))
  go_enter Tryd.func84, Tryd.ntmps84
  go_wp2
  go_loop [0, 4] (fun x k => ∃ (z f k' : Nat), x = .int .i64 z ∧ k = .int .i64 k' ∧ f + k' = 10 ∧ z ≤ 510 ∧ Hid (z < 2 ^ f) ∧ Hid (levF 10 m = levF f z + k')) (fun x _ => (intOf x).toNat)
  case atStart => exact ⟨m, 10, 0, rfl, rfl, rfl, hm, hid (by omega), hid rfl⟩
  case round =>
    obtain ⟨z, f, k', hx, hk, hf, hz, HZ, HV⟩ := hrel
    subst hx; subst hk
    have hk10 : k' ≤ 10 := by omega
    have HK := hid hf; clear hf
    by_cases ho : z % 2 = 1
    · obtain ⟨f, rfl⟩ : ∃ f', f = f' + 1 := ⟨f - 1, by
        rcases f with _ | f
        · have h0 : z < 2 ^ 0 := HZ.out
          rw [Nat.pow_zero] at h0; omega
        · omega⟩
      have HV2 := hid (show levF 10 m = levF f (z / 2) + (k' + 1) by rw [HV.out, levF, if_pos ho]; omega)
      have HZ2 := hid (show z / 2 < 2 ^ f by have := HZ.out; rw [Nat.pow_succ] at this; omega)
      have ho' : ((z : Int) % 2 == 1) = true := beq_iff_eq.2 (by omega)
      have hz1 : 1 ≤ z := by omega
      clear ho
      go_wp2
      go_round
      case rel => exact ⟨z / 2, f, k' + 1, by go_num, by go_num, by have := HK.out; omega, by omega, HZ2, HV2⟩
      case measure => simp [intOf]; omega
    · have HV2 := hid (show lvl (m : Int) = k' by
        rw [← HL.out, HV.out]
        rcases f with _ | f
        · rw [levF]; omega
        · rw [levF, if_neg ho]; omega)
      have ho' : ((z : Int) % 2 == 1) = false := beq_eq_false_iff_ne.2 (by omega)
      clear ho
      go_wp2
      go_ret2
      exact ⟨by rw [HV2.out]; rfl, rfl⟩
/-- Two to the power of one less. -/
def pw (k : Nat) : Nat := 2 ^ (k - 1)
theorem rhalf_any (k : Nat) (w : World) (hk : k ≤ 10) :
    Calls Tryd.prog 85 #[.int .i64 k] w fun e w' => e = .returned (.int .i64 (pw k : Int)) ∧ w' = w := by
  go_enter Tryd.func85, Tryd.ntmps85
  go_wp2
  go_loop [3, 6] (fun n i => ∃ (j m : Nat), i = .int .i64 j ∧ n = .int .i64 m ∧ j ≤ k - 1 ∧ m ≤ 1024 ∧ Hid (m = 2 ^ j)) (fun _ i => k - (intOf i).toNat)
  case atStart => exact ⟨0, 1, rfl, rfl, by omega, by omega, hid rfl⟩
  case round =>
    obtain ⟨j, m, hi, hn, hj, hm, HM⟩ := hrel
    subst hi; subst hn
    by_cases hlt : j < k - 1
    · have hjk : (j : Int) < (k : Int) - 1 := by omega
      have hm2 : m * 2 ≤ 1024 := by
        rw [HM.out, ← Nat.pow_succ]
        exact Nat.pow_le_pow_right (by omega) (show j + 1 ≤ 10 by omega)
      go_wp2
      go_round
      case rel => exact ⟨j + 1, m * 2, by go_num, by go_num, by omega, by omega, hid (by rw [HM.out, Nat.pow_succ])⟩
      case measure => simp [intOf]; omega
    · have hjk : (k : Int) - 1 ≤ (j : Int) := by omega
      have HF := hid (show pw k = m by unfold pw; rw [HM.out, show k - 1 = j by omega])
      go_wp2
      go_ret
      exact ⟨by rw [HF.out]; rfl, rfl⟩
theorem pw_facts : ∀ m : Nat, m < 511 → lvl (m : Int) ≤ 8 ∧ pw (lvl (m : Int)) ≤ 128 ∧ 1 ≤ pw (lvl (m : Int)) ∧ pw (lvl (m : Int)) ≤ m + 1 ∧ pw (lvl (m : Int) + 1) ≤ m + 1 ∧ pw (lvl (m : Int) + 1) ≤ 256 ∧ 1 ≤ pw (lvl (m : Int) + 1) := by decide +kernel
/-- Left's answer, and Right's. -/
def lefE (m : Nat) : Int := if lvl (m : Int) = 0 then 1 else 0
def lefV (m : Nat) : Int := if lvl (m : Int) = 0 then 0 else (m : Int) - pw (lvl (m : Int))
def rigV (m : Nat) : Int := if lvl (m : Int) = 0 then 0 else (m : Int) + pw (lvl (m : Int))
theorem left_any (m : Nat) (w : World) (hm : m ≤ 510) :
    Calls Tryd.prog 82 #[.int .i64 m] w fun e w' => e = .returned (.tuple #[.int .i64 (lefV m), .int .i64 (lefE m)]) ∧ w' = w := by
  obtain ⟨p1, p2, p3, p4, _⟩ := pw_facts m (by omega)
  by_cases h0 : lvl (m : Int) = 0
  · have hv : lefV m = 0 := by unfold lefV; rw [if_pos h0]
    have he : lefE m = 1 := by unfold lefE; rw [if_pos h0]
    have h0' : ((lvl (m : Int) : Int) == 0) = true := beq_iff_eq.2 (by omega)
    rw [hv, he]
    clear hv he h0
    go_enter Tryd.func82, Tryd.ntmps82
    go_wp2_with (go_at_call 84; refine (rlevel_any m _ hm).mono ?_; rintro e1 w1 ⟨rfl, hw1⟩; subst w1)
    go_ret2
    exact ⟨rfl, rfl⟩
  · have hv : lefV m = (m : Int) - pw (lvl (m : Int)) := by unfold lefV; rw [if_neg h0]
    have he : lefE m = 0 := by unfold lefE; rw [if_neg h0]
    have h0' : ((lvl (m : Int) : Int) == 0) = false := beq_eq_false_iff_ne.2 (by omega)
    rw [hv, he]
    clear hv he h0
    go_enter Tryd.func82, Tryd.ntmps82
    go_wp2_with (first
      | (go_at_call 84; refine (rlevel_any m _ hm).mono ?_; rintro e1 w1 ⟨rfl, hw1⟩; subst w1)
      | (go_at_call 85; refine (rhalf_any _ _ (by omega)).mono ?_; rintro e1 w1 ⟨rfl, hw1⟩; subst w1))
    go_ret2
    exact ⟨rfl, rfl⟩
theorem right_any (m : Nat) (w : World) (hm : m ≤ 510) :
    Calls Tryd.prog 83 #[.int .i64 m] w fun e w' => e = .returned (.tuple #[.int .i64 (rigV m), .int .i64 (lefE m)]) ∧ w' = w := by
  obtain ⟨p1, p2, p3, p4, _⟩ := pw_facts m (by omega)
  by_cases h0 : lvl (m : Int) = 0
  · have hv : rigV m = 0 := by unfold rigV; rw [if_pos h0]
    have he : lefE m = 1 := by unfold lefE; rw [if_pos h0]
    have h0' : ((lvl (m : Int) : Int) == 0) = true := beq_iff_eq.2 (by omega)
    rw [hv, he]
    clear hv he h0
    go_enter Tryd.func83, Tryd.ntmps83
    go_wp2_with (go_at_call 84; refine (rlevel_any m _ hm).mono ?_; rintro e1 w1 ⟨rfl, hw1⟩; subst w1)
    go_ret2
    exact ⟨rfl, rfl⟩
  · have hv : rigV m = (m : Int) + pw (lvl (m : Int)) := by unfold rigV; rw [if_neg h0]
    have he : lefE m = 0 := by unfold lefE; rw [if_neg h0]
    have h0' : ((lvl (m : Int) : Int) == 0) = false := beq_eq_false_iff_ne.2 (by omega)
    rw [hv, he]
    clear hv he h0
    go_enter Tryd.func83, Tryd.ntmps83
    go_wp2_with (first
      | (go_at_call 84; refine (rlevel_any m _ hm).mono ?_; rintro e1 w1 ⟨rfl, hw1⟩; subst w1)
      | (go_at_call 85; refine (rhalf_any _ _ (by omega)).mono ?_; rintro e1 w1 ⟨rfl, hw1⟩; subst w1))
    go_ret2
    exact ⟨rfl, rfl⟩
theorem rnode_any (x n : Int) (w : World) :
    Calls Tryd.prog 64 #[.int .i64 x, .int .i64 n] w fun e w' => e = .returned (.bool (fullN n && decide (0 ≤ x) && decide (x < 2 * n - 1))) ∧ w' = w := by
  go_enter Tryd.func64, Tryd.ntmps64
  rcases hf : fullN n with _ | _
  · go_wp2_with (go_at_call 81; refine (rfull_any n _).mono ?_; rintro e w' ⟨rfl, hw1⟩; subst w'; rw [hf])
    go_ret
    exact ⟨rfl, rfl⟩
  · obtain ⟨h1, h2⟩ := fullN_le hf
    by_cases h0 : 0 ≤ x
    · go_wp2_with (go_at_call 81; refine (rfull_any n _).mono ?_; rintro e w' ⟨rfl, hw1⟩; subst w'; rw [hf])
      go_ret
      exact ⟨by simp [h0], rfl⟩
    · go_wp2_with (go_at_call 81; refine (rfull_any n _).mono ?_; rintro e w' ⟨rfl, hw1⟩; subst w'; rw [hf])
      go_ret
      exact ⟨by simp; omega, rfl⟩
/-- A node whose child another one is. -/
def isPar (p x : Nat) : Bool := decide (lefE p = 0) && (decide (lefV p = x) || decide (rigV p = x))
theorem par_up : ∀ p : Nat, p < 511 → lefE p = 0 → upV (lefV p) = p ∧ upV (rigV p) = p := by decide +kernel
theorem up_par : ∀ x : Nat, x < 511 → isPar (upV (x : Int)).toNat x = true := by decide +kernel
theorem up_root : ∀ n : Nat, n < 257 → fullN (n : Int) = true → upV ((n : Int) - 1) = 2 * (n : Int) - 1 := by decide +kernel
theorem par_is {p x : Nat} (hp : p < 511) (h : isPar p x = true) : upV (x : Int) = p := by
  unfold isPar at h
  simp only [Bool.and_eq_true, Bool.or_eq_true, decide_eq_true_eq] at h
  obtain ⟨h1, h2⟩ := h
  obtain ⟨u1, u2⟩ := par_up p hp h1
  rcases h2 with h2 | h2
  · rw [← h2]; exact u1
  · rw [← h2]; exact u2
set_option maxHeartbeats 1000000 in
theorem parent6 (x n : Nat) (w : World) (hf : fullN (n : Int) = true) (hx : x < 2 * n - 1) :
    Calls Tryd.prog 65 #[.int .i64 x, .int .i64 n] w fun e w' => e = .returned (.tuple #[.int .i64 (if x = n - 1 then 0 else upV (x : Int)), .int .i64 (if x = n - 1 then 1 else 0)]) ∧ w' = w := by
  have hn := fullN_le hf
  have hnode : (fullN (n : Int) && decide (0 ≤ (x : Int)) && decide ((x : Int) < 2 * (n : Int) - 1)) = true := by simp [hf]; omega
  have HR := hid (show ∀ e v : Int, (∀ p : Nat, p < 2 * n - 1 → isPar p x = false) → (if x = n - 1 then (0 : Int) else upV (x : Int)) = 0 ∧ (if x = n - 1 then (1 : Int) else 0) = 1 from fun e v h => by
    by_cases hxn : x = n - 1
    · rw [if_pos hxn, if_pos hxn]; exact ⟨rfl, rfl⟩
    · have hin := up_in hf (show (0 : Int) ≤ (x : Int) by omega) (by omega) (by omega)
      have := h (upV (x : Int)).toNat (by omega)
      rw [up_par x (by omega)] at this
      cases this)
  have HP := hid (show ∀ p : Nat, p < 2 * n - 1 → isPar p x = true → (if x = n - 1 then (0 : Int) else upV (x : Int)) = p ∧ (if x = n - 1 then (1 : Int) else 0) = 0 from fun p hp h => by
    have hu := par_is (by omega) h
    by_cases hxn : x = n - 1
    · exfalso
      have := up_root n (by omega) hf
      rw [show (x : Int) = (n : Int) - 1 by omega, this] at hu
      omega
    · rw [if_neg hxn, if_neg hxn]; exact ⟨hu, rfl⟩)
  generalize (if x = n - 1 then (0 : Int) else upV (x : Int)) = V at *
  generalize (if x = n - 1 then (1 : Int) else 0) = E at *
  have hn1 : 1 ≤ n := by omega
  have hn2 : n ≤ 256 := by omega
  clear hn
  have HF := hid hf; clear hf
  have HND := hid hnode; clear hnode
  go_enter Tryd.func65, Tryd.ntmps65
  go_wp2_with (go_at_call 64; refine (rnode_any _ _ _).mono ?_; rintro e w' ⟨rfl, hw1⟩; subst w'; rw [HND.out])
  go_loop [18, 4, 5] (fun i _ _ => ∃ p : Nat, i = .int .i64 p ∧ p ≤ 2 * n - 1 ∧ Hid (∀ q, q < p → isPar q x = false)) (fun i _ _ => 2 * n - (intOf i).toNat)
  case atStart => exact ⟨0, rfl, by omega, hid (fun q hq => by omega)⟩
  case round =>
    obtain ⟨p, hi, hp, HQ⟩ := hrel
    subst hi
    by_cases hlt : p < 2 * n - 1
    · have hlt' : (p : Int) < 2 * (n : Int) - 1 := by omega
      by_cases he : lefE p = 0
      · have he' : (lefE p == 0) = true := beq_iff_eq.2 he
        by_cases hl : lefV p = (x : Int)
        · have hl' : (lefV p == (x : Int)) = true := beq_iff_eq.2 hl
          have HI := hid (show isPar p x = true by unfold isPar; simp [he, hl])
          clear he hl
          have HE := hid (HP.out p hlt HI.out)
          go_wp2_with (first
          | (go_at_call 82; refine (left_any p _ (by omega)).mono ?_; rintro e1 w1 ⟨rfl, hw1⟩; subst w1)
          | (go_at_call 83; refine (right_any p _ (by omega)).mono ?_; rintro e1 w1 ⟨rfl, hw1⟩; subst w1))
          go_ret2
          exact ⟨by rw [HE.out.1, HE.out.2]; rfl, rfl⟩
        · have hl' : (lefV p == (x : Int)) = false := beq_eq_false_iff_ne.2 hl
          by_cases hr : rigV p = (x : Int)
          · have hr' : (rigV p == (x : Int)) = true := beq_iff_eq.2 hr
            have HI := hid (show isPar p x = true by unfold isPar; simp [he, hr])
            clear he hl hr
            have HE := hid (HP.out p hlt HI.out)
            go_wp2_with (first
          | (go_at_call 82; refine (left_any p _ (by omega)).mono ?_; rintro e1 w1 ⟨rfl, hw1⟩; subst w1)
          | (go_at_call 83; refine (right_any p _ (by omega)).mono ?_; rintro e1 w1 ⟨rfl, hw1⟩; subst w1))
            go_ret2
            exact ⟨by rw [HE.out.1, HE.out.2]; rfl, rfl⟩
          · have hr' : (rigV p == (x : Int)) = false := beq_eq_false_iff_ne.2 hr
            have HI := hid (show isPar p x = false by unfold isPar; simp [hl, hr])
            clear he hl hr
            go_wp2_with (first
          | (go_at_call 82; refine (left_any p _ (by omega)).mono ?_; rintro e1 w1 ⟨rfl, hw1⟩; subst w1)
          | (go_at_call 83; refine (right_any p _ (by omega)).mono ?_; rintro e1 w1 ⟨rfl, hw1⟩; subst w1))
            go_round
            case rel => exact ⟨p + 1, by go_num, by omega, hid (fun q hq => by
              by_cases hqp : q < p
              · exact HQ.out q hqp
              · rw [show q = p by omega]; exact HI.out)⟩
            case measure => simp [intOf]; omega
      · have he' : (lefE p == 0) = false := beq_eq_false_iff_ne.2 he
        have HI := hid (show isPar p x = false by unfold isPar; simp [he])
        clear he
        go_wp2_with (first
          | (go_at_call 82; refine (left_any p _ (by omega)).mono ?_; rintro e1 w1 ⟨rfl, hw1⟩; subst w1)
          | (go_at_call 83; refine (right_any p _ (by omega)).mono ?_; rintro e1 w1 ⟨rfl, hw1⟩; subst w1))
        go_round
        case rel => exact ⟨p + 1, by go_num, by omega, hid (fun q hq => by
          by_cases hqp : q < p
          · exact HQ.out q hqp
          · rw [show q = p by omega]; exact HI.out)⟩
        case measure => simp [intOf]; omega
    · have hlt' : 2 * (n : Int) - 1 ≤ (p : Int) := by omega
      have HE := hid (HR.out 0 0 (fun q hq => HQ.out q (by omega)))
      go_wp2
      go_ret2
      exact ⟨by rw [HE.out.1, HE.out.2]; rfl, rfl⟩
theorem path_eqF (n : Nat) (f : Nat) (x : Nat) (hx : x ≠ n - 1) (hn : 1 ≤ n) : pathF (f + 1) (x : Int) (n : Int) = upV (x : Int) :: pathF f (upV (x : Int)) n := by
  rw [pathF, if_neg (by omega)]
set_option maxHeartbeats 1000000 in
theorem rpath_any (x n : Nat) (w : World) (hf : fullN (n : Int) = true) (hx : x < 2 * n - 1) :
    Calls Tryd.prog 43 #[.int .i64 x, .int .i64 n] w fun e w' => ∃ v, e = .returned (.tuple #[v, .int .i64 0]) ∧ w'.ownsRow w.heap.size 3 1 v (pathL x n).length ((pathL x n).map (.int .i64)) ∧ Below w.heap.size w w' := by
  have hn := fullN_le hf
  have hnode : (fullN (n : Int) && decide (0 ≤ (x : Int)) && decide ((x : Int) < 2 * (n : Int) - 1)) = true := by simp [hf]; omega
  have HF := hid hf; clear hf
  have HND := hid hnode; clear hnode
  have hn1 : 1 ≤ n := by omega
  have hn2 : n ≤ 256 := by omega
  clear hn
  obtain ⟨i0, hi, hz0, hz1, hz2⟩ := info_parts Tryd.infoInt
  go_enter Tryd.func43, Tryd.ntmps43
  go_wp2_with (go_at_call 64; refine (rnode_any _ _ _).mono ?_; rintro e w' ⟨rfl, hw1⟩; subst w'; rw [HND.out])
  go_loopw [0, 6, 4, 5] (fun y v _ _ wr => ∃ (j z : Nat), y = .int .i64 z ∧ z < 2 * n - 1 ∧ j ≤ 9 ∧ Hid (lvl (z : Int) = lvl (x : Int) + j) ∧ wr.ownsRow w.heap.size 3 1 v j (((pathL x n).take j).map (.int .i64)) ∧ Hid (pathL x n = (pathL x n).take j ++ pathF (9 - j) z n) ∧ Below w.heap.size w wr) (fun y _ _ _ _ => 10 - lvl (intOf y))
  case atStart => exact ⟨0, x, rfl, hx, by omega, hid rfl, World.ownsRow_nil _ _ _ _, hid rfl, Below.refl _ _⟩
  case round =>
    obtain ⟨j, z, hz, hzb, hj9, HLV, hown, HPL, hbr⟩ := hrel
    subst hz
    have HB := hid hbr
    have hszr := hbr.size
    clear hbr
    have hz8 := lvl_le (show (0 : Int) ≤ (z : Int) by omega) (show (z : Int) ≤ 510 by omega)
    have hj8 : j ≤ 8 := by have := HLV.out; omega
    by_cases he : z = n - 1
    · have HL := hid (show pathL x n = (pathL x n).take j by
        have h := HPL.out
        rw [show 9 - j = (9 - j - 1) + 1 by omega, pathF, if_pos (by omega), List.append_nil] at h
        exact h)
      have HJL := hid hown.1
      have HO := hid hown
      have hp := parent6 z n wr HF.out hzb
      rw [if_pos he, if_pos he] at hp
      have HP := hid hp
      clear he hown hp
      go_wp2_with (go_at_call 65; refine HP.out.mono ?_; rintro e1 w1 ⟨rfl, hw1⟩; subst w1)
      go_ret2
      refine ⟨_, rfl, ?_, HB.out⟩
      have h1 := HJL.out
      have h2 := HO.out
      rw [List.length_map, Nat.mul_one, ← HL.out] at h1
      rw [← HL.out] at h2
      rw [h1]
      exact h2
    · obtain ⟨u0, u1, u2⟩ := up_in HF.out (show (0 : Int) ≤ (z : Int) by omega) (by omega) (show (z : Int) ≠ n - 1 by omega)
      have hp := parent6 z n wr HF.out hzb
      rw [if_neg he, if_neg he] at hp
      have HC := hid (show pathF (9 - j) (z : Int) n = upV z :: pathF (9 - (j + 1)) (upV z) n by
        rw [show 9 - j = (9 - (j + 1)) + 1 by omega, pathF, if_neg (by omega)])
      have HU2 := hid u2
      obtain ⟨u, hu⟩ := Int.eq_ofNat_of_zero_le u0
      rw [hu] at hp HC HU2 u1
      have HP := hid hp
      have HS := hid (take_step (L := pathL x n) (j := j) (HC.out ▸ HPL.out) (by have := hown.1; simpa using this))
      have hown3 := hown.alloc (.cells #[.int .i64 u] 3)
      have hlit := SlA.lit1 (w := wr) (T := 3) (.int .i64 u)
      have HNE := hid he
      clear he hp hu u0 u2
      go_wp2_with (first
        | (go_at_call 65; refine HP.out.mono ?_; rintro e1 w1 ⟨rfl, hw1⟩; subst w1)
        | (at_builtin; refine wpList_append_sl _ rfl _ _ 23 rfl w.heap.size 3 i0 (.int .i64 0) 1 8 Tryd.underlying23 hi hz0 hz1 hz2 rfl (by decide) _ _ _ rfl hown3 _ 1 1 _ rfl hlit (one_int _ _) (by unfold maxLen; omega) (by omega) (by simp; omega) ?_; intro v3 w3 hown4 hg4 _))
      go_roundw
      case rel =>
        refine ⟨j + 1, u, rfl, by omega, by omega, hid (by rw [HU2.out, HLV.out]; omega), ?_, hid HS.out.2, below_append (HB.out.alloc (by omega) _) hg4 hown3 (Nat.le_refl _) (by simp; omega)⟩
        rw [HS.out.1, List.map_append]
        exact hown4
      case measure =>
        have := HU2.out
        simp [intOf]; omega

theorem leaf_facts : ∀ m : Nat, m < 511 → lfA (m : Int) = ((m : Int) - (2 * (pw (lvl (m : Int) + 1) : Int) - 1) / 2) / 2 ∧ lfB (m : Int) = ((m : Int) + (2 * (pw (lvl (m : Int) + 1) : Int) - 1) / 2) / 2 + 1 := by decide +kernel
theorem rleaves_any (m : Nat) (w : World) (hm : m ≤ 510) :
    Calls Tryd.prog 68 #[.int .i64 m] w fun e w' => e = .returned (.tuple #[.int .i64 (lfA m), .int .i64 (lfB m), .int .i64 0]) ∧ w' = w := by
  obtain ⟨p1, _, _, _, p5, p6, p7⟩ := pw_facts m (by omega)
  have hh := rhalf_any (lvl (m : Int) + 1) w (by omega)
  have HL := hid (leaf_facts m (by omega))
  have HH := hid hh
  clear hh
  generalize pw (lvl (m : Int) + 1) = P at *
  go_enter Tryd.func68, Tryd.ntmps68
  go_wp2_with (first
    | (go_at_call 84; refine (rlevel_any m _ hm).mono ?_; rintro e1 w1 ⟨rfl, hw1⟩; subst w1)
    | (go_at_call 85; refine HH.out.mono ?_; rintro e1 w1 ⟨rfl, hw1⟩; subst w1))
  go_ret3
  exact ⟨by rw [HL.out.1, HL.out.2]; rfl, rfl⟩
/-- A node is another one, or under it. -/
def undB (x y : Nat) : Bool := decide (lfA (y : Int) ≤ lfA (x : Int)) && decide (lfB (x : Int) ≤ lfB (y : Int)) && decide (lvl (x : Int) ≤ lvl (y : Int))
theorem under_y (x y : Nat) (a b c d : Int) (k m : Nat) (w : World) (HH1 : Hid (∀ w, Calls Tryd.prog 68 #[.int .i64 x] w fun e w' => e = .returned (.tuple #[.int .i64 a, .int .i64 b, .int .i64 0]) ∧ w' = w)) (HH2 : Hid (∀ w, Calls Tryd.prog 68 #[.int .i64 y] w fun e w' => e = .returned (.tuple #[.int .i64 c, .int .i64 d, .int .i64 0]) ∧ w' = w)) (HH3 : Hid (∀ w, Calls Tryd.prog 84 #[.int .i64 x] w fun e w' => e = .returned (.tuple #[.int .i64 k, .int .i64 0]) ∧ w' = w)) (HH4 : Hid (∀ w, Calls Tryd.prog 84 #[.int .i64 y] w fun e w' => e = .returned (.tuple #[.int .i64 m, .int .i64 0]) ∧ w' = w)) (h1 : c ≤ a) (h2 : b ≤ d) (h3 : (k : Int) ≤ (m : Int)) :
    Calls Tryd.prog 69 #[.int .i64 x, .int .i64 y] w fun e w' => e = .returned (.bool true) ∧ w' = w := by
  go_enter Tryd.func69, Tryd.ntmps69
  go_wp2_with fail
  with_reducible refine (HH1.out _).mono ?_
  rintro e1 w1 ⟨rfl, hw1⟩; subst w1
  go_wp2_with fail
  with_reducible refine (HH2.out _).mono ?_
  rintro e1 w1 ⟨rfl, hw1⟩; subst w1
  go_wp2_with fail
  with_reducible refine (HH3.out _).mono ?_
  rintro e1 w1 ⟨rfl, hw1⟩; subst w1
  go_wp2_with fail
  with_reducible refine (HH4.out _).mono ?_
  rintro e1 w1 ⟨rfl, hw1⟩; subst w1
  go_wp2_with fail
  go_ret
  exact ⟨rfl, rfl⟩
theorem under_n3 (x y : Nat) (a b c d : Int) (k m : Nat) (w : World) (HH1 : Hid (∀ w, Calls Tryd.prog 68 #[.int .i64 x] w fun e w' => e = .returned (.tuple #[.int .i64 a, .int .i64 b, .int .i64 0]) ∧ w' = w)) (HH2 : Hid (∀ w, Calls Tryd.prog 68 #[.int .i64 y] w fun e w' => e = .returned (.tuple #[.int .i64 c, .int .i64 d, .int .i64 0]) ∧ w' = w)) (HH3 : Hid (∀ w, Calls Tryd.prog 84 #[.int .i64 x] w fun e w' => e = .returned (.tuple #[.int .i64 k, .int .i64 0]) ∧ w' = w)) (HH4 : Hid (∀ w, Calls Tryd.prog 84 #[.int .i64 y] w fun e w' => e = .returned (.tuple #[.int .i64 m, .int .i64 0]) ∧ w' = w)) (h1 : c ≤ a) (h2 : b ≤ d) (h3 : (m : Int) < (k : Int)) :
    Calls Tryd.prog 69 #[.int .i64 x, .int .i64 y] w fun e w' => e = .returned (.bool false) ∧ w' = w := by
  go_enter Tryd.func69, Tryd.ntmps69
  go_wp2_with fail
  with_reducible refine (HH1.out _).mono ?_
  rintro e1 w1 ⟨rfl, hw1⟩; subst w1
  go_wp2_with fail
  with_reducible refine (HH2.out _).mono ?_
  rintro e1 w1 ⟨rfl, hw1⟩; subst w1
  go_wp2_with fail
  with_reducible refine (HH3.out _).mono ?_
  rintro e1 w1 ⟨rfl, hw1⟩; subst w1
  go_wp2_with fail
  with_reducible refine (HH4.out _).mono ?_
  rintro e1 w1 ⟨rfl, hw1⟩; subst w1
  go_wp2_with fail
  go_ret
  exact ⟨by show Ending.returned (Value.bool (decide (k ≤ m))) = _; rw [decide_eq_false (by omega)], rfl⟩
theorem under_n2 (x y : Nat) (a b c d : Int) (k m : Nat) (w : World) (HH1 : Hid (∀ w, Calls Tryd.prog 68 #[.int .i64 x] w fun e w' => e = .returned (.tuple #[.int .i64 a, .int .i64 b, .int .i64 0]) ∧ w' = w)) (HH2 : Hid (∀ w, Calls Tryd.prog 68 #[.int .i64 y] w fun e w' => e = .returned (.tuple #[.int .i64 c, .int .i64 d, .int .i64 0]) ∧ w' = w)) (HH3 : Hid (∀ w, Calls Tryd.prog 84 #[.int .i64 x] w fun e w' => e = .returned (.tuple #[.int .i64 k, .int .i64 0]) ∧ w' = w)) (HH4 : Hid (∀ w, Calls Tryd.prog 84 #[.int .i64 y] w fun e w' => e = .returned (.tuple #[.int .i64 m, .int .i64 0]) ∧ w' = w)) (h1 : c ≤ a) (h2 : d < b) :
    Calls Tryd.prog 69 #[.int .i64 x, .int .i64 y] w fun e w' => e = .returned (.bool false) ∧ w' = w := by
  go_enter Tryd.func69, Tryd.ntmps69
  go_wp2_with fail
  with_reducible refine (HH1.out _).mono ?_
  rintro e1 w1 ⟨rfl, hw1⟩; subst w1
  go_wp2_with fail
  with_reducible refine (HH2.out _).mono ?_
  rintro e1 w1 ⟨rfl, hw1⟩; subst w1
  go_wp2_with fail
  with_reducible refine (HH3.out _).mono ?_
  rintro e1 w1 ⟨rfl, hw1⟩; subst w1
  go_wp2_with fail
  with_reducible refine (HH4.out _).mono ?_
  rintro e1 w1 ⟨rfl, hw1⟩; subst w1
  go_wp2_with fail
  go_ret
  exact ⟨rfl, rfl⟩
theorem under_n1 (x y : Nat) (a b c d : Int) (k m : Nat) (w : World) (HH1 : Hid (∀ w, Calls Tryd.prog 68 #[.int .i64 x] w fun e w' => e = .returned (.tuple #[.int .i64 a, .int .i64 b, .int .i64 0]) ∧ w' = w)) (HH2 : Hid (∀ w, Calls Tryd.prog 68 #[.int .i64 y] w fun e w' => e = .returned (.tuple #[.int .i64 c, .int .i64 d, .int .i64 0]) ∧ w' = w)) (HH3 : Hid (∀ w, Calls Tryd.prog 84 #[.int .i64 x] w fun e w' => e = .returned (.tuple #[.int .i64 k, .int .i64 0]) ∧ w' = w)) (HH4 : Hid (∀ w, Calls Tryd.prog 84 #[.int .i64 y] w fun e w' => e = .returned (.tuple #[.int .i64 m, .int .i64 0]) ∧ w' = w)) (h1 : a < c) :
    Calls Tryd.prog 69 #[.int .i64 x, .int .i64 y] w fun e w' => e = .returned (.bool false) ∧ w' = w := by
  go_enter Tryd.func69, Tryd.ntmps69
  go_wp2_with fail
  with_reducible refine (HH1.out _).mono ?_
  rintro e1 w1 ⟨rfl, hw1⟩; subst w1
  go_wp2_with fail
  with_reducible refine (HH2.out _).mono ?_
  rintro e1 w1 ⟨rfl, hw1⟩; subst w1
  go_wp2_with fail
  with_reducible refine (HH3.out _).mono ?_
  rintro e1 w1 ⟨rfl, hw1⟩; subst w1
  go_wp2_with fail
  with_reducible refine (HH4.out _).mono ?_
  rintro e1 w1 ⟨rfl, hw1⟩; subst w1
  go_wp2_with fail
  go_ret
  exact ⟨rfl, rfl⟩
theorem under_any (x y : Nat) (w : World) (hx : x ≤ 510) (hy : y ≤ 510) :
    Calls Tryd.prog 69 #[.int .i64 x, .int .i64 y] w fun e w' => e = .returned (.bool (undB x y)) ∧ w' = w := by
  have H1 := hid (fun w => rleaves_any x w hx)
  have H2 := hid (fun w => rleaves_any y w hy)
  have H3 := hid (fun w => rlevel_any x w hx)
  have H4 := hid (fun w => rlevel_any y w hy)
  by_cases h1 : lfA (y : Int) ≤ lfA (x : Int)
  · by_cases h2 : lfB (x : Int) ≤ lfB (y : Int)
    · by_cases h3 : lvl (x : Int) ≤ lvl (y : Int)
      · rw [show undB x y = true by unfold undB; rw [decide_eq_true h1, decide_eq_true h2, decide_eq_true h3]; rfl]
        exact under_y x y _ _ _ _ _ _ w H1 H2 H3 H4 h1 h2 (by omega)
      · rw [show undB x y = false by unfold undB; rw [decide_eq_false h3, Bool.and_false]]
        exact under_n3 x y _ _ _ _ _ _ w H1 H2 H3 H4 h1 h2 (by omega)
    · rw [show undB x y = false by unfold undB; rw [decide_eq_false h2, Bool.and_false, Bool.false_and]]
      exact under_n2 x y _ _ _ _ _ _ w H1 H2 H3 H4 h1 (by omega)
  · rw [show undB x y = false by unfold undB; rw [decide_eq_false h1, Bool.false_and, Bool.false_and]]
    exact under_n1 x y _ _ _ _ _ _ w H1 H2 H3 H4 (by omega)
end Go.Proofs.YtimdohjlhbpmhaaDoor
