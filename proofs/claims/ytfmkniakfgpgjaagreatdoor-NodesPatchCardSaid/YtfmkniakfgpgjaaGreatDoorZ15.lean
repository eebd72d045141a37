import Derived.Test.YtfmkniakfgpgjaaGreatDoorZ14
/- the reference of layer 6: a tree's numbers. -/
namespace Go.Proofs.YtfmkniakfgpgjaaGreatDoor
open Go.RowKit Go.KK Go.Shelf
set_option linter.unusedVariables false
set_option linter.unusedSimpArgs false

def levF : Nat → Nat → Nat
  | 0, _ => 0
  | f + 1, m => if m % 2 = 1 then levF f (m / 2) + 1 else 0
theorem lev_eq : ∀ m : Nat, m < 511 → levF 10 m = lvl (m : Int) := by decide +kernel
theorem rlevel_any (m : Nat) (w : World) (hm : m ≤ 510) :
    Calls Tryz.prog 133 #[.int .i64 m] w fun e w' => e = .returned (.tuple #[.int .i64 (lvl (m : Int)), .int .i64 0]) ∧ w' = w := by
  have HL := hid (lev_eq m (by omega))
  go_enter Tryz.func133, Tryz.ntmps133
  go_wp2
  go_loop [0, 4] (fun x k => ∃ (z f k' : Nat), x = .int .i64 z ∧ k = .int .i64 k' ∧ f + k' = 10 ∧ z ≤ 510 ∧ Hid (z < 2 ^ f) ∧ Hid (levF 10 m = levF f z + k')) (fun x _ => (intOf x).toNat)
  case atStart => exact ⟨m, 10, 0, rfl, rfl, rfl, hm, hid (by omega), hid rfl⟩
  case round =>
    obtain ⟨z, f, k', hx, hk, hf, hz, HZ, HV⟩ := hrel
    subst hx; subst hk
    have hk10 : k' ≤ 10 := by omega
    have HK := hid hf; clear hf
    by_cases ho : z % 2 = 1
    · obtain ⟨f, rfl⟩ : ∃ f', f = f' + 1 := ⟨f - 1, by
        rcases f with _ | f
        · have h0 : z < 2 ^ 0 := HZ.out
          rw [Nat.pow_zero] at h0; omega
        · omega⟩
      have HV2 := hid (show levF 10 m = levF f (z / 2) + (k' + 1) by rw [HV.out, levF, if_pos ho]; omega)
      have HZ2 := hid (show z / 2 < 2 ^ f by have := HZ.out; rw [Nat.pow_succ] at this; omega)
      have ho' : ((z : Int) % 2 == 1) = true := beq_iff_eq.2 (by omega)
      have hz1 : 1 ≤ z := by omega
      clear ho
      go_wp2
      go_round
      case rel => exact ⟨z / 2, f, k' + 1, by go_num, by go_num, by have := HK.out; omega, by omega, HZ2, HV2⟩
      case measure => simp [intOf]; omega
    · have HV2 := hid (show lvl (m : Int) = k' by
        rw [← HL.out, HV.out]
        rcases f with _ | f
        · rw [levF]; omega
        · rw [levF, if_neg ho]; omega)
      have ho' : ((z : Int) % 2 == 1) = false := beq_eq_false_iff_ne.2 (by omega)
      clear ho
      go_wp2
      go_ret2
      exact ⟨by rw [HV2.out]; rfl, rfl⟩
/-- Two to the power of one less. -/
def pw (k : Nat) : Nat := 2 ^ (k - 1)
theorem rhalf_any (k : Nat) (w : World) (hk : k ≤ 10) :
    Calls Tryz.prog 134 #[.int .i64 k] w fun e w' => e = .returned (.int .i64 (pw k : Int)) ∧ w' = w := by
  go_enter Tryz.func134, Tryz.ntmps134
  go_wp2
  go_loop [3, 6] (fun n i => ∃ (j m : Nat), i = .int .i64 j ∧ n = .int .i64 m ∧ j ≤ k - 1 ∧ m ≤ 1024 ∧ Hid (m = 2 ^ j)) (fun _ i => k - (intOf i).toNat)
  case atStart => exact ⟨0, 1, rfl, rfl, by omega, by omega, hid rfl⟩
  case round =>
    obtain ⟨j, m, hi, hn, hj, hm, HM⟩ := hrel
    subst hi; subst hn
    by_cases hlt : j < k - 1
    · have hjk : (j : Int) < (k : Int) - 1 := by omega
      have hm2 : m * 2 ≤ 1024 := by
        rw [HM.out, ← Nat.pow_succ]
        exact Nat.pow_le_pow_right (by omega) (show j + 1 ≤ 10 by omega)
      go_wp2
      go_round
      case rel => exact ⟨j + 1, m * 2, by go_num, by go_num, by omega, by omega, hid (by rw [HM.out, Nat.pow_succ])⟩
      case measure => simp [intOf]; omega
    · have hjk : (k : Int) - 1 ≤ (j : Int) := by omega
      have HF := hid (show pw k = m by unfold pw; rw [HM.out, show k - 1 = j by omega])
      go_wp2
      go_ret
      exact ⟨by rw [HF.out]; rfl, rfl⟩
theorem pw_facts : ∀ m : Nat, m < 511 → lvl (m : Int) ≤ 8 ∧ pw (lvl (m : Int)) ≤ 128 ∧ 1 ≤ pw (lvl (m : Int)) ∧ pw (lvl (m : Int)) ≤ m + 1 ∧ pw (lvl (m : Int) + 1) ≤ m + 1 ∧ pw (lvl (m : Int) + 1) ≤ 256 ∧ 1 ≤ pw (lvl (m : Int) + 1) := by decide +kernel
/-- Left's answer, and Right's. -/
def lefE (m : Nat) : Int := if lvl (m : Int) = 0 then 1 else 0
def lefV (m : Nat) : Int := if lvl (m : Int) = 0 then 0 else (m : Int) - pw (lvl (m : Int))
def rigV (m : Nat) : Int := if lvl (m : Int) = 0 then 0 else (m : Int) + pw (lvl (m : Int))
/-- A node whose child another one is. -/
def isPar (p x : Nat) : Bool := decide (lefE p = 0) && (decide (lefV p = x) || decide (rigV p = x))
theorem par_up : ∀ p : Nat, p < 511 → lefE p = 0 → upV (lefV p) = p ∧ upV (rigV p) = p := by decide +kernel
theorem up_par : ∀ x : Nat, x < 511 → isPar (upV (x : Int)).toNat x = true := by decide +kernel
theorem up_root : ∀ n : Nat, n < 257 → fullN (n : Int) = true → upV ((n : Int) - 1) = 2 * (n : Int) - 1 := by decide +kernel
theorem par_is {p x : Nat} (hp : p < 511) (h : isPar p x = true) : upV (x : Int) = p := by
  unfold isPar at h
  simp only [Bool.and_eq_true, Bool.or_eq_true, decide_eq_true_eq] at h
  obtain ⟨h1, h2⟩ := h
  obtain ⟨u1, u2⟩ := par_up p hp h1
  rcases h2 with h2 | h2
  · rw [← h2]; exact u1
  · rw [← h2]; exact u2
theorem path_eqF (n : Nat) (f : Nat) (x : Nat) (hx : x ≠ n - 1) (hn : 1 ≤ n) : pathF (f + 1) (x : Int) (n : Int) = upV (x : Int) :: pathF f (upV (x : Int)) n := by
  rw [pathF, if_neg (by omega)]
theorem leaf_facts : ∀ m : Nat, m < 511 → lfA (m : Int) = ((m : Int) - (2 * (pw (lvl (m : Int) + 1) : Int) - 1) / 2) / 2 ∧ lfB (m : Int) = ((m : Int) + (2 * (pw (lvl (m : Int) + 1) : Int) - 1) / 2) / 2 + 1 := by decide +kernel
theorem rleaves_any (m : Nat) (w : World) (hm : m ≤ 510) :
    Calls Tryz.prog 103 #[.int .i64 m] w fun e w' => e = .returned (.tuple #[.int .i64 (lfA m), .int .i64 (lfB m), .int .i64 0]) ∧ w' = w := by
  obtain ⟨p1, _, _, _, p5, p6, p7⟩ := pw_facts m (by omega)
  have hh := rhalf_any (lvl (m : Int) + 1) w (by omega)
  have HL := hid (leaf_facts m (by omega))
  have HH := hid hh
  clear hh
  generalize pw (lvl (m : Int) + 1) = P at *
  go_enter Tryz.func103, Tryz.ntmps103
  go_wp2_with (first
    | (go_at_call 133; refine (rlevel_any m _ hm).mono ?_; rintro e1 w1 ⟨rfl, hw1⟩; subst w1)
    | (go_at_call 134; refine HH.out.mono ?_; rintro e1 w1 ⟨rfl, hw1⟩; subst w1))
  go_ret3
  exact ⟨by rw [HL.out.1, HL.out.2]; rfl, rfl⟩
/-- A node is another one, or under it. -/
def undB (x y : Nat) : Bool := decide (lfA (y : Int) ≤ lfA (x : Int)) && decide (lfB (x : Int) ≤ lfB (y : Int)) && decide (lvl (x : Int) ≤ lvl (y : Int))
theorem under_y (x y : Nat) (a b c d : Int) (k m : Nat) (w : World) (HH1 : Hid (∀ w, Calls Tryz.prog 103 #[.int .i64 x] w fun e w' => e = .returned (.tuple #[.int .i64 a, .int .i64 b, .int .i64 0]) ∧ w' = w)) (HH2 : Hid (∀ w, Calls Tryz.prog 103 #[.int .i64 y] w fun e w' => e = .returned (.tuple #[.int .i64 c, .int .i64 d, .int .i64 0]) ∧ w' = w)) (HH3 : Hid (∀ w, Calls Tryz.prog 133 #[.int .i64 x] w fun e w' => e = .returned (.tuple #[.int .i64 k, .int .i64 0]) ∧ w' = w)) (HH4 : Hid (∀ w, Calls Tryz.prog 133 #[.int .i64 y] w fun e w' => e = .returned (.tuple #[.int .i64 m, .int .i64 0]) ∧ w' = w)) (h1 : c ≤ a) (h2 : b ≤ d) (h3 : (k : Int) ≤ (m : Int)) :
    Calls Tryz.prog 104 #[.int .i64 x, .int .i64 y] w fun e w' => e = .returned (.bool true) ∧ w' = w := by
  go_enter Tryz.func104, Tryz.ntmps104
  go_wp2_with fail
  with_reducible refine (HH1.out _).mono ?_
  rintro e1 w1 ⟨rfl, hw1⟩; subst w1
  go_wp2_with fail
  with_reducible refine (HH2.out _).mono ?_
  rintro e1 w1 ⟨rfl, hw1⟩; subst w1
  go_wp2_with fail
  with_reducible refine (HH3.out _).mono ?_
  rintro e1 w1 ⟨rfl, hw1⟩; subst w1
  go_wp2_with fail
  with_reducible refine (HH4.out _).mono ?_
  rintro e1 w1 ⟨rfl, hw1⟩; subst w1
  go_wp2_with fail
  go_ret
  exact ⟨rfl, rfl⟩
theorem under_n3 (x y : Nat) (a b c d : Int) (k m : Nat) (w : World) (HH1 : Hid (∀ w, Calls Tryz.prog 103 #[.int .i64 x] w fun e w' => e = .returned (.tuple #[.int .i64 a, .int .i64 b, .int .i64 0]) ∧ w' = w)) (HH2 : Hid (∀ w, Calls Tryz.prog 103 #[.int .i64 y] w fun e w' => e = .returned (.tuple #[.int .i64 c, .int .i64 d, .int .i64 0]) ∧ w' = w)) (HH3 : Hid (∀ w, Calls Tryz.prog 133 #[.int .i64 x] w fun e w' => e = .returned (.tuple #[.int .i64 k, .int .i64 0]) ∧ w' = w)) (HH4 : Hid (∀ w, Calls Tryz.prog 133 #[.int .i64 y] w fun e w' => e = .returned (.tuple #[.int .i64 m, .int .i64 0]) ∧ w' = w)) (h1 : c ≤ a) (h2 : b ≤ d) (h3 : (m : Int) < (k : Int)) :
    Calls Tryz.prog 104 #[.int .i64 x, .int .i64 y] w fun e w' => e = .returned (.bool false) ∧ w' = w := by
  go_enter Tryz.func104, Tryz.ntmps104
  go_wp2_with fail
  with_reducible refine (HH1.out _).mono ?_
  rintro e1 w1 ⟨rfl, hw1⟩; subst w1
  go_wp2_with fail
  with_reducible refine (HH2.out _).mono ?_
  rintro e1 w1 ⟨rfl, hw1⟩; subst w1
  go_wp2_with fail
  with_reducible refine (HH3.out _).mono ?_
  rintro e1 w1 ⟨rfl, hw1⟩; subst w1
  go_wp2_with fail
  with_reducible refine (HH4.out _).mono ?_
  rintro e1 w1 ⟨rfl, hw1⟩; subst w1
  go_wp2_with fail
  go_ret
  exact ⟨by show Ending.returned (Value.bool (decide (k ≤ m))) = _; rw [decide_eq_false (by omega)], rfl⟩
theorem under_n2 (x y : Nat) (a b c d : Int) (k m : Nat) (w : World) (HH1 : Hid (∀ w, Calls Tryz.prog 103 #[.int .i64 x] w fun e w' => e = .returned (.tuple #[.int .i64 a, .int .i64 b, .int .i64 0]) ∧ w' = w)) (HH2 : Hid (∀ w, Calls Tryz.prog 103 #[.int .i64 y] w fun e w' => e = .returned (.tuple #[.int .i64 c, .int .i64 d, .int .i64 0]) ∧ w' = w)) (HH3 : Hid (∀ w, Calls Tryz.prog 133 #[.int .i64 x] w fun e w' => e = .returned (.tuple #[.int .i64 k, .int .i64 0]) ∧ w' = w)) (HH4 : Hid (∀ w, Calls Tryz.prog 133 #[.int .i64 y] w fun e w' => e = .returned (.tuple #[.int .i64 m, .int .i64 0]) ∧ w' = w)) (h1 : c ≤ a) (h2 : d < b) :
    Calls Tryz.prog 104 #[.int .i64 x, .int .i64 y] w fun e w' => e = .returned (.bool false) ∧ w' = w := by
  go_enter Tryz.func104, Tryz.ntmps104
  go_wp2_with fail
  with_reducible refine (HH1.out _).mono ?_
  rintro e1 w1 ⟨rfl, hw1⟩; subst w1
  go_wp2_with fail
  with_reducible refine (HH2.out _).mono ?_
  rintro e1 w1 ⟨rfl, hw1⟩; subst w1
  go_wp2_with fail
  with_reducible refine (HH3.out _).mono ?_
  rintro e1 w1 ⟨rfl, hw1⟩; subst w1
  go_wp2_with fail
  with_reducible refine (HH4.out _).mono ?_
  rintro e1 w1 ⟨rfl, hw1⟩; subst w1
  go_wp2_with fail
  go_ret
  exact ⟨rfl, rfl⟩
theorem under_n1 (x y : Nat) (a b c d : Int) (k m : Nat) (w : World) (HH1 : Hid (∀ w, Calls Tryz.prog 103 #[.int .i64 x] w fun e w' => e = .returned (.tuple #[.int .i64 a, .int .i64 b, .int .i64 0]) ∧ w' = w)) (HH2 : Hid (∀ w, Calls Tryz.prog 103 #[.int .i64 y] w fun e w' => e = .returned (.tuple #[.int .i64 c, .int .i64 d, .int .i64 0]) ∧ w' = w)) (HH3 : Hid (∀ w, Calls Tryz.prog 133 #[.int .i64 x] w fun e w' => e = .returned (.tuple #[.int .i64 k, .int .i64 0]) ∧ w' = w)) (HH4 : Hid (∀ w, Calls Tryz.prog 133 #[.int .i64 y] w fun e w' => e = .returned (.tuple #[.int .i64 m, .int .i64 0]) ∧ w' = w)) (h1 : a < c) :
    Calls Tryz.prog 104 #[.int .i64 x, .int .i64 y] w fun e w' => e = .returned (.bool false) ∧ w' = w := by
  go_enter Tryz.func104, Tryz.ntmps104
  go_wp2_with fail
  with_reducible refine (HH1.out _).mono ?_
  rintro e1 w1 ⟨rfl, hw1⟩; subst w1
  go_wp2_with fail
  with_reducible refine (HH2.out _).mono ?_
  rintro e1 w1 ⟨rfl, hw1⟩; subst w1
  go_wp2_with fail
  with_reducible refine (HH3.out _).mono ?_
  rintro e1 w1 ⟨rfl, hw1⟩; subst w1
  go_wp2_with fail
  with_reducible refine (HH4.out _).mono ?_
  rintro e1 w1 ⟨rfl, hw1⟩; subst w1
  go_wp2_with fail
  go_ret
  exact ⟨rfl, rfl⟩
theorem under_any (x y : Nat) (w : World) (hx : x ≤ 510) (hy : y ≤ 510) :
    Calls Tryz.prog 104 #[.int .i64 x, .int .i64 y] w fun e w' => e = .returned (.bool (undB x y)) ∧ w' = w := by
  have H1 := hid (fun w => rleaves_any x w hx)
  have H2 := hid (fun w => rleaves_any y w hy)
  have H3 := hid (fun w => rlevel_any x w hx)
  have H4 := hid (fun w => rlevel_any y w hy)
  by_cases h1 : lfA (y : Int) ≤ lfA (x : Int)
  · by_cases h2 : lfB (x : Int) ≤ lfB (y : Int)
    · by_cases h3 : lvl (x : Int) ≤ lvl (y : Int)
      · rw [show undB x y = true by unfold undB; rw [decide_eq_true h1, decide_eq_true h2, decide_eq_true h3]; rfl]
        exact under_y x y _ _ _ _ _ _ w H1 H2 H3 H4 h1 h2 (by omega)
      · rw [show undB x y = false by unfold undB; rw [decide_eq_false h3, Bool.and_false]]
        exact under_n3 x y _ _ _ _ _ _ w H1 H2 H3 H4 h1 h2 (by omega)
    · rw [show undB x y = false by unfold undB; rw [decide_eq_false h2, Bool.and_false, Bool.false_and]]
      exact under_n2 x y _ _ _ _ _ _ w H1 H2 H3 H4 h1 (by omega)
  · rw [show undB x y = false by unfold undB; rw [decide_eq_false h1, Bool.false_and, Bool.false_and]]
    exact under_n1 x y _ _ _ _ _ _ w H1 H2 H3 H4 (by omega)
end Go.Proofs.YtfmkniakfgpgjaaGreatDoor

/- the reference of layer 7: how many leaves, whether some are there, whether all of a node is zero. -/
namespace Go.Proofs.YtfmkniakfgpgjaaGreatDoor
open Go.RowKit Go.KK Go.Shelf
set_option linter.unusedVariables false
set_option linter.unusedSimpArgs false

/-- How many leaves a row has, if it may have so many. -/
def rlv (n : Nat) : Nat := if fullN (lvN n) && (2 * (lvN n : Int) - 1 == (n : Int)) then lvN n else 0
theorem pow_full {j : Nat} (h : j ≤ 8) : fullN ((2 ^ j : Nat) : Int) = true := by
  have : j = 0 ∨ j = 1 ∨ j = 2 ∨ j = 3 ∨ j = 4 ∨ j = 5 ∨ j = 6 ∨ j = 7 ∨ j = 8 := by omega
  rcases this with rfl | rfl | rfl | rfl | rfl | rfl | rfl | rfl | rfl <;> decide
theorem full_pow {m : Nat} (h : fullN (m : Int) = true) : ∃ j, j ≤ 8 ∧ m = 2 ^ j := by
  have := of_decide_eq_true h
  rcases this with h | h | h | h | h | h | h | h | h
  · exact ⟨0, by omega, by simpa using by omega⟩
  · exact ⟨1, by omega, by simpa using by omega⟩
  · exact ⟨2, by omega, by simpa using by omega⟩
  · exact ⟨3, by omega, by simpa using by omega⟩
  · exact ⟨4, by omega, by simpa using by omega⟩
  · exact ⟨5, by omega, by simpa using by omega⟩
  · exact ⟨6, by omega, by simpa using by omega⟩
  · exact ⟨7, by omega, by simpa using by omega⟩
  · exact ⟨8, by omega, by simpa using by omega⟩
theorem rleavesT_any (A : Option Addr) (n c : Nat) (w : World) (hn : n ≤ 600) :
    Calls Tryz.prog 60 #[.slice A n c] w fun e w' => e = .returned (.int .i64 (rlv n)) ∧ w' = w := by
  go_enter Tryz.func60, Tryz.ntmps60
  go_wp2
  go_loop [3, 2] (fun k _ => ∃ (j m : Nat), k = .int .i64 m ∧ j ≤ 9 ∧ m ≤ 512 ∧ Hid (m = 2 ^ j) ∧ Hid (∀ i, i < j → n + 1 ≠ 2 * 2 ^ i)) (fun k _ => 600 - (intOf k).toNat)
  case atStart => exact ⟨0, 1, rfl, by omega, by omega, hid rfl, hid (fun i hi => by omega)⟩
  case round =>
    obtain ⟨j, m, hk, hj, hm, HM, HN⟩ := hrel
    subst hk
    have hm1 : 1 ≤ m := by rw [HM.out]; exact Nat.one_le_two_pow
    by_cases h9 : j = 9
    · have hm5 : 512 ≤ m := by rw [HM.out, h9]; decide
      have HF := hid (show rlv n = 0 by
        unfold rlv
        rw [if_neg]
        intro h
        simp only [Bool.and_eq_true, beq_iff_eq] at h
        obtain ⟨i, hi, hp⟩ := full_pow h.1
        exact HN.out i (by omega) (by rw [← hp]; omega))
      go_wp2
      go_ret
      exact ⟨by rw [HF.out]; rfl, rfl⟩
    · have hm2 : m ≤ 256 := by
        rw [HM.out]
        exact Nat.pow_le_pow_right (by omega) (show j ≤ 8 by omega)
      by_cases he : n + 1 = 2 * m
      · have HF := hid (show rlv n = m by
          have hlv : lvN n = m := by unfold lvN; omega
          unfold rlv
          rw [hlv, if_pos]
          rw [Bool.and_eq_true, beq_iff_eq]
          exact ⟨by rw [HM.out]; exact pow_full (by omega), by omega⟩)
        have he' : (2 * (m : Int) - 1 == (n : Int)) = true := beq_iff_eq.2 (by omega)
        clear he
        go_wp2
        go_ret
        exact ⟨by rw [HF.out]; rfl, rfl⟩
      · have HF := hid (show ∀ i, i < j + 1 → n + 1 ≠ 2 * 2 ^ i from fun i hi => by
          by_cases hij : i < j
          · exact HN.out i hij
          · rw [show i = j by omega, ← HM.out]
            exact he)
        have he' : (2 * (m : Int) - 1 == (n : Int)) = false := beq_eq_false_iff_ne.2 (by omega)
        have hm2' : (m : Int) * 2 ≤ 512 := by omega
        clear he
        go_wp2
        go_round
        case rel => exact ⟨j + 1, m * 2, by go_num, by omega, by omega, hid (by rw [HM.out, Nat.pow_succ]), HF⟩
        case measure => simp [intOf]; omega

/-- A leaf from one on up to another one is there. -/
def someB (xs : List TN) (a b : Nat) : Bool := (List.range b).any fun j => decide (a ≤ j) && (kd xs (2 * j) == 1)
theorem some_any (A : Option Addr) (n c : Nat) (xs : List TN) (a b : Nat) (w : World) (h : Tr w A n c xs) (hn : n ≤ 600) (hb : b ≤ lvN n) (hab : a ≤ b) :
    Calls Tryz.prog 61 #[.slice A n c, .int .i64 a, .int .i64 b] w fun e w' => e = .returned (.bool (someB xs a b)) ∧ w' = w := by
  have H := hid h; clear h
  have hN : lvN n ≤ 301 := by unfold lvN; omega
  have HB := hid hb
  go_enter Tryz.func61, Tryz.ntmps61
  go_wp2
  go_loop [7, 6] (fun i _ => ∃ j : Nat, i = .int .i64 j ∧ a ≤ j ∧ j ≤ b ∧ Hid (∀ k, a ≤ k → k < j → kd xs (2 * k) ≠ 1)) (fun i _ => b - (intOf i).toNat)
  case atStart => exact ⟨a, rfl, by omega, hab, hid (fun k h1 h2 => by omega)⟩
  case round =>
    obtain ⟨j, hi, h1, h2, H3⟩ := hrel
    subst hi
    by_cases hlt : j < b
    · have h2j : 2 * j < n := by unfold lvN at hb; omega
      obtain ⟨b0, o0, q, A', c', rfl, hx, c0, -, -, -, -, -, -⟩ := H.out.at h2j
      have HK := hid (show kd xs (2 * j) = q.k by unfold kd; rw [hx])
      clear hx
      by_cases hk : q.k = 1
      · have HS := hid (show someB xs a b = true from List.any_eq_true.2 ⟨j, List.mem_range.2 hlt, by rw [HK.out, hk]; simp [h1]⟩)
        have hk' : (q.k == 1) = true := beq_iff_eq.2 hk
        clear hk
        go_wp2
        go_ret
        exact ⟨by rw [HS.out]; rfl, rfl⟩
      · have hk' : (q.k == 1) = false := beq_eq_false_iff_ne.2 hk
        have HF := hid (show ∀ k, a ≤ k → k < j + 1 → kd xs (2 * k) ≠ 1 from fun k a1 a2 => by
          by_cases hkj : k < j
          · exact H3.out k a1 hkj
          · rw [show k = j by omega, HK.out]; exact hk)
        clear hk
        go_wp2
        go_round
        case rel => exact ⟨j + 1, by go_num, by omega, by omega, HF⟩
        case measure => simp [intOf]; omega
    · have HS := hid (show someB xs a b = false by
        rcases hh : someB xs a b with _ | _
        · rfl
        · obtain ⟨k, hk, h⟩ := List.any_eq_true.1 hh
          simp only [Bool.and_eq_true, decide_eq_true_eq, beq_iff_eq] at h
          exact absurd h.2 (H3.out k h.1 (by have := List.mem_range.1 hk; omega)))
      go_wp2
      go_ret
      exact ⟨by rw [HS.out]; rfl, rfl⟩
/-- All of a node is zero. -/
def zerB (x : TN) : Bool := x.k == 0 && x.i == 0 && x.e == 0 && x.s == 0 && x.h == 0 && ((x.u.length : Nat) : Int) == 0
theorem rzero_any (x : TN) (A : Option Addr) (c : Nat) (w : World) :
    Calls Tryz.prog 101 #[.agg #[.int .i64 x.k, .int .i64 x.i, .int .i64 x.e, .int .i64 x.s, .int .i64 x.h, .slice A x.u.length c]] w fun r w' => r = .returned (.bool (zerB x)) ∧ Below w.heap.size w w' := by
  rcases h0 : x.k == 0 with _ | _
  · skip
    have HN := hid (show zerB x = false by unfold zerB; rw [h0]; simp)
    go_enter Tryz.func101, Tryz.ntmps101
    go_wp2
    go_ret
    exact ⟨by rw [HN.out]; rfl, (Below.refl _ _).alloc (Nat.le_refl _) _⟩
  · skip
    rcases h1 : x.i == 0 with _ | _
    · skip
      have HN := hid (show zerB x = false by unfold zerB; rw [h0, h1]; simp)
      go_enter Tryz.func101, Tryz.ntmps101
      go_wp2
      go_ret
      exact ⟨by rw [HN.out]; rfl, (Below.refl _ _).alloc (Nat.le_refl _) _⟩
    · skip
      rcases h2 : x.e == 0 with _ | _
      · skip
        have HN := hid (show zerB x = false by unfold zerB; rw [h0, h1, h2]; simp)
        go_enter Tryz.func101, Tryz.ntmps101
        go_wp2
        go_ret
        exact ⟨by rw [HN.out]; rfl, (Below.refl _ _).alloc (Nat.le_refl _) _⟩
      · skip
        rcases h3 : x.s == 0 with _ | _
        · skip
          have HN := hid (show zerB x = false by unfold zerB; rw [h0, h1, h2, h3]; simp)
          go_enter Tryz.func101, Tryz.ntmps101
          go_wp2
          go_ret
          exact ⟨by rw [HN.out]; rfl, (Below.refl _ _).alloc (Nat.le_refl _) _⟩
        · skip
          rcases h4 : x.h == 0 with _ | _
          · skip
            have HN := hid (show zerB x = false by unfold zerB; rw [h0, h1, h2, h3, h4]; simp)
            go_enter Tryz.func101, Tryz.ntmps101
            go_wp2
            go_ret
            exact ⟨by rw [HN.out]; rfl, (Below.refl _ _).alloc (Nat.le_refl _) _⟩
          · skip
            rcases h5 : ((x.u.length : Nat) : Int) == 0 with _ | _
            · skip
              have HN := hid (show zerB x = false by unfold zerB; rw [h0, h1, h2, h3, h4, h5]; simp)
              go_enter Tryz.func101, Tryz.ntmps101
              go_wp2
              go_ret
              exact ⟨by rw [HN.out]; rfl, (Below.refl _ _).alloc (Nat.le_refl _) _⟩
            · skip
              have HN := hid (show zerB x = true by unfold zerB; rw [h0, h1, h2, h3, h4, h5]; simp)
              go_enter Tryz.func101, Tryz.ntmps101
              go_wp2
              go_ret
              exact ⟨by rw [HN.out]; rfl, (Below.refl _ _).alloc (Nat.le_refl _) _⟩
end Go.Proofs.YtfmkniakfgpgjaaGreatDoor

/- the reference of layer 7: whether a node may stand at its place. -/
namespace Go.Proofs.YtfmkniakfgpgjaaGreatDoor
open Go.RowKit Go.KK Go.Shelf
set_option linter.unusedVariables false
set_option linter.unusedSimpArgs false

/-- A parent between a leaf and a node above it lacks the leaf. -/
def badAt (xs : List TN) (x : Nat) (i : Int) (z : Nat) : Bool :=
  match xs[z]? with
  | some q => q.k == 2 && (((z : Nat) : Int) != (x : Int)) && undB (2 * i).toNat z && undB z x && !inTB q.u i
  | none => false
def midB (xs : List TN) (x : Nat) (i : Int) : Bool := (List.range xs.length).all fun z => !badAt xs x i z
/-- A parent's list may be, behind a number. -/
def rparF (xs : List TN) (x : Nat) : Int → List Int → Bool
  | _, [] => true
  | last, i :: l => decide (last < i) && decide (i < lfB (x : Int)) && (kd xs (2 * i).toNat == 1) && midB xs x i && rparF xs x i l
theorem bad_is {xs : List TN} {x : Nat} {i : Int} {z : Nat} {q : TN} (h : xs[z]? = some q) : badAt xs x i z = (q.k == 2 && (((z : Nat) : Int) != (x : Int)) && undB (2 * i).toNat z && undB z x && !inTB q.u i) := by
  unfold badAt; rw [h]
theorem lf_in : ((List.range 257).all fun N => !fullN (N : Int) || (List.range (2 * N - 1)).all fun x => decide (0 ≤ lfA (x : Int)) && decide (lfA (x : Int) ≤ (N : Int)) && decide (lfB (x : Int) ≤ (N : Int))) = true := by decide +kernel
theorem lf_le {N x : Nat} (hf : fullN (N : Int) = true) (hx : x < 2 * N - 1) : 0 ≤ lfA (x : Int) ∧ lfA (x : Int) ≤ N ∧ lfB (x : Int) ≤ N := by
  have hN := fullN_le hf
  have h := List.all_eq_true.1 lf_in N (List.mem_range.2 (by omega))
  rw [hf, Bool.not_true, Bool.false_or] at h
  have h' := List.all_eq_true.1 h x (List.mem_range.2 hx)
  simp only [Bool.and_eq_true, decide_eq_true_eq] at h'
  exact ⟨h'.1.1, h'.1.2, h'.2⟩
theorem rpar_lo {xs : List TN} {x : Nat} {last i : Int} {l : List Int} (h : i ≤ last) : rparF xs x last (i :: l) = false := by rw [rparF, decide_eq_false (by omega)]; rfl
theorem rpar_hi {xs : List TN} {x : Nat} {last i : Int} {l : List Int} (h : lfB (x : Int) ≤ i) : rparF xs x last (i :: l) = false := by rw [rparF, decide_eq_false (show ¬ i < lfB (x : Int) by omega), Bool.and_false]; rfl
theorem rpar_kd {xs : List TN} {x : Nat} {last i : Int} {l : List Int} (h : kd xs (2 * i).toNat ≠ 1) : rparF xs x last (i :: l) = false := by rw [rparF, beq_eq_false_iff_ne.2 h, Bool.and_false]; rfl
theorem rpar_mid {xs : List TN} {x : Nat} {last i : Int} {l : List Int} (h : midB xs x i = false) : rparF xs x last (i :: l) = false := by rw [rparF, h, Bool.and_false, Bool.false_and]
theorem rpar_go {xs : List TN} {x : Nat} {last i : Int} {l : List Int} (h1 : last < i) (h2 : i < lfB (x : Int)) (h3 : kd xs (2 * i).toNat = 1) (h4 : midB xs x i = true) : rparF xs x last (i :: l) = rparF xs x i l := by
  rw [rparF, decide_eq_true h1, decide_eq_true h2, h3, h4]; rfl
theorem mid_no {xs : List TN} {x : Nat} {i : Int} {z : Nat} (hz : z < xs.length) (h : badAt xs x i z = true) : midB xs x i = false := by
  rcases hh : midB xs x i with _ | _
  · rfl
  · have := List.all_eq_true.1 hh z (List.mem_range.2 hz)
    rw [h] at this; cases this
theorem mid_yes {xs : List TN} {x : Nat} {i : Int} (h : ∀ z, z < xs.length → badAt xs x i z = false) : midB xs x i = true :=
  List.all_eq_true.2 fun z hz => by rw [h z (List.mem_range.1 hz)]; rfl

set_option maxHeartbeats 4000000 in
set_option maxRecDepth 100000 in
theorem rnode_go (A : Option Addr) (n c : Nat) (xs : List TN) (x : Nat) (e h : Int) (u : List Int) (B : Option Addr) (d : Nat) (w : World) (ht : Tr w A n c xs) (hnm : n ≤ 600) (hs : SlA w 1 B u.length d (u.map (.int .i64))) (hu47 : u.length ≤ 2147483648) (hu : Shorts xs) (hf : fullN (lvN n) = true) (hn2 : 2 * (lvN n : Int) - 1 = n) (hx : x < n) (hodd : (x : Int) % 2 ≠ 0) :
    Calls Tryz.prog 62 #[.slice A n c, .int .i64 x, .agg #[.int .i64 2, .int .i64 0, .int .i64 e, .int .i64 0, .int .i64 h, .slice B u.length d]] w fun r w' => r = .returned (.bool (rparF xs x (lfA (x : Int) - 1) u)) ∧ Below w.heap.size w w' := by
  have hb0 : Below w.heap.size w (w.alloc (.cells #[.int .i64 2, .int .i64 0, .int .i64 e, .int .i64 0, .int .i64 h, .slice B u.length d] 46)) := (Below.refl _ _).alloc (Nat.le_refl _) _
  have hN := fullN_le hf
  have hn511 : n ≤ 511 := by omega
  have hN256 : lvN n ≤ 256 := by omega
  have hx510 : x ≤ 510 := by omega
  have hlf := lf_le hf (show x < 2 * lvN n - 1 by omega)
  have ha0 := hlf.1
  have ha1 := hlf.2.1
  have hb1 := hlf.2.2
  have hodd' : ((x : Int) % 2 == 0) = false := beq_eq_false_iff_ne.2 hodd
  have HX := hid ht.len; have H := hid ht; have HS := hid hs; have HU := hid hu
  have hx0 : 2 * (lvN n : Int) ≤ n + 1 := by omega
  have hx1 : (n : Int) + 1 ≤ 2 * (lvN n : Int) := by omega
  have hRL := rleaves_any x
  have HRL := hid (fun w => hRL w hx510)
  have HBX := hid hb0
  clear ht hs hu hf hn2 hlf hodd hN hRL hb0
  have HLA := hid (rfl : lfA (x : Int) = lfA (x : Int))
  go_enter Tryz.func62, Tryz.ntmps62
  go_wp2_with (go_at_call 103; refine (HRL.out _).mono ?_; rintro e1 w1 ⟨rfl, hw1⟩; subst w1)
  go_loopw [52, 10, 6] (fun i la _ wr => ∃ (j : Nat) (last : Int), i = .int .i64 j ∧ la = .int .i64 last ∧ j ≤ u.length ∧ Hid (rparF xs x (lfA (x : Int) - 1) u = rparF xs x last (u.drop j)) ∧ -1 ≤ last ∧ last ≤ 256 ∧ Below w.heap.size w wr) (fun i _ _ _ => u.length - (intOf i).toNat)
  case atStart => exact ⟨0, lfA (x : Int) - 1, rfl, rfl, by omega, hid rfl, by omega, by omega, HBX.out⟩
  case round =>
    obtain ⟨j, last, hi, hla, hj, HJ, hl1, hl2, hbr⟩ := hrel
    subst hi; subst hla
    have HB := hid hbr; clear hbr
    by_cases hlt : j < u.length
    · obtain ⟨b, o, i, rfl, hz, hc⟩ := (HS.out.ext HB.out).elemI hlt
      have HC := hid (tdrop_get hz); clear hz
      by_cases h1 : last < i
      · by_cases h2 : i < lfB (x : Int)
        · obtain ⟨m, rfl⟩ := Int.eq_ofNat_of_zero_le (show 0 ≤ i by omega)
          obtain ⟨Y, hY⟩ : ∃ Y : Nat, Y = 2 * m := ⟨_, rfl⟩
          have h2m : Y < n := by omega
          obtain ⟨b0, o0, q0, A', c', rfl, hq, c0, -, -, -, -, -, -⟩ := (H.out.ext HB.out).at h2m
          have HK := hid (show kd xs (2 * (m : Int)).toNat = q0.k by rw [show (2 * (m : Int)).toNat = Y by omega]; unfold kd; rw [hq])
          clear hq
          by_cases hk : q0.k = 1
          · have HK1 := hid (HK.out.trans hk)
            rw [hk] at c0
            clear hk
            have HY := hid (show (2 * (m : Int)).toNat = Y by omega)
            have hy : 2 * (m : Int) = (Y : Int) := by omega
            have hy510 : Y ≤ 510 := by omega
            clear hY
            have HH1 := hid h1; have HH2 := hid h2
            go_wp2
            obtain ⟨wo, rfl⟩ : ∃ wo : World, wo = wr := ⟨_, rfl⟩
            go_loopw [76, 6] (fun i _ w2 => ∃ z : Nat, i = .int .i64 z ∧ z ≤ n ∧ Hid (∀ k, k < z → badAt xs x (m : Int) k = false) ∧ Below w.heap.size w w2) (fun i _ _ => n - (intOf i).toNat)
            case atStart => exact ⟨0, rfl, by omega, hid (fun k hk => by omega), HB.out⟩
            case round =>
              obtain ⟨z, hi, hz, HZ, hb3⟩ := hrel
              subst hi
              have HB3 := hid hb3; clear hb3
              by_cases hzn : z < n
              · obtain ⟨b1, o1, q, A2, c2, e1, hq, d0, d1, d2, d3, d4, d5, hsq⟩ := (H.out.ext HB3.out).at hzn
                injection e1 with e1; injection e1 with e1 e2; subst e1; subst e2
                have hqu := HU.out _ _ hq
                have HBI := hid (bad_is (x := x) (i := (m : Int)) hq)
                have HQS := hid hsq
                have hzr := HB3.out.size
                clear hq hsq
                by_cases hk2 : q.k = 2
                · have hk2' : (q.k == 2) = true := beq_iff_eq.2 hk2
                  by_cases hzx : (z : Int) = (x : Int)
                  · have hzx' : ((z : Int) != (x : Int)) = false := by rw [hzx]; simp
                    have HBD := hid (show badAt xs x (m : Int) z = false by rw [HBI.out, hzx']; simp)
                    clear hk2 hzx
                    go_wp2_with (first
                      | (go_at_call 104; refine (under_any _ _ _ (by omega) (by omega)).mono ?_; rintro e7 w7 ⟨rfl, hw7⟩; subst w7)
                      | (go_at_call 105; refine (int_any A2 _ c2 q.u m _ (HQS.out.ext ((Below.refl _ _).alloc (Nat.le_refl _) _)) hqu).mono ?_; rintro e7 w7 ⟨rfl, hw7⟩; subst w7))
                    go_roundw
                    case rel => exact ⟨z + 1, by go_num, by omega, hid (fun k hk => by
                      by_cases hkz : k < z
                      · exact HZ.out k hkz
                      · rw [show k = z by omega]; exact HBD.out), HB3.out.alloc HB3.out.size _⟩
                    case measure => simp [intOf]; omega
                  · have hzx' : ((z : Int) != (x : Int)) = true := bne_iff_ne.2 hzx
                    rcases hu1 : undB Y z with _ | _
                    · have HBD := hid (show badAt xs x (m : Int) z = false by rw [HBI.out, HY.out, hu1]; simp)
                      clear hk2 hzx
                      go_wp2_with (first
                        | (go_at_call 104; refine (under_any _ _ _ (by omega) (by omega)).mono ?_; rintro e7 w7 ⟨rfl, hw7⟩; subst w7)
                        | (go_at_call 105; refine (int_any A2 _ c2 q.u m _ (HQS.out.ext ((Below.refl _ _).alloc (Nat.le_refl _) _)) hqu).mono ?_; rintro e7 w7 ⟨rfl, hw7⟩; subst w7))
                      go_roundw
                      case rel => exact ⟨z + 1, by go_num, by omega, hid (fun k hk => by
                        by_cases hkz : k < z
                        · exact HZ.out k hkz
                        · rw [show k = z by omega]; exact HBD.out), HB3.out.alloc HB3.out.size _⟩
                      case measure => simp [intOf]; omega
                    · rcases hu2 : undB z x with _ | _
                      · have HBD := hid (show badAt xs x (m : Int) z = false by rw [HBI.out, hu2]; simp)
                        clear hk2 hzx
                        go_wp2_with (first
                          | (go_at_call 104; refine (under_any _ _ _ (by omega) (by omega)).mono ?_; rintro e7 w7 ⟨rfl, hw7⟩; subst w7)
                          | (go_at_call 105; refine (int_any A2 _ c2 q.u m _ (HQS.out.ext ((Below.refl _ _).alloc (Nat.le_refl _) _)) hqu).mono ?_; rintro e7 w7 ⟨rfl, hw7⟩; subst w7))
                        go_roundw
                        case rel => exact ⟨z + 1, by go_num, by omega, hid (fun k hk => by
                          by_cases hkz : k < z
                          · exact HZ.out k hkz
                          · rw [show k = z by omega]; exact HBD.out), HB3.out.alloc HB3.out.size _⟩
                        case measure => simp [intOf]; omega
                      · rcases hin : inTB q.u (m : Int) with _ | _
                        · have HBD := hid (show badAt xs x (m : Int) z = true by rw [HBI.out, HY.out, hk2', hzx', hu1, hu2, hin]; rfl)
                          have HF := hid (show rparF xs x (lfA (x : Int) - 1) u = false by rw [HJ.out, HC.out]; exact rpar_mid (mid_no (by rw [HX.out]; exact hzn) HBD.out))
                          clear hk2 hzx
                          go_wp2_with (first
                            | (go_at_call 104; refine (under_any _ _ _ (by omega) (by omega)).mono ?_; rintro e7 w7 ⟨rfl, hw7⟩; subst w7)
                            | (go_at_call 105; refine (int_any A2 _ c2 q.u m _ (HQS.out.ext ((Below.refl _ _).alloc (Nat.le_refl _) _)) hqu).mono ?_; rintro e7 w7 ⟨rfl, hw7⟩; subst w7))
                          go_ret
                          exact ⟨by rw [HF.out]; rfl, HB3.out.alloc HB3.out.size _⟩
                        · have HBD := hid (show badAt xs x (m : Int) z = false by rw [HBI.out, hin]; simp)
                          clear hk2 hzx
                          go_wp2_with (first
                            | (go_at_call 104; refine (under_any _ _ _ (by omega) (by omega)).mono ?_; rintro e7 w7 ⟨rfl, hw7⟩; subst w7)
                            | (go_at_call 105; refine (int_any A2 _ c2 q.u m _ (HQS.out.ext ((Below.refl _ _).alloc (Nat.le_refl _) _)) hqu).mono ?_; rintro e7 w7 ⟨rfl, hw7⟩; subst w7))
                          go_roundw
                          case rel => exact ⟨z + 1, by go_num, by omega, hid (fun k hk => by
                            by_cases hkz : k < z
                            · exact HZ.out k hkz
                            · rw [show k = z by omega]; exact HBD.out), HB3.out.alloc HB3.out.size _⟩
                          case measure => simp [intOf]; omega
                · have hk2' : (q.k == 2) = false := beq_eq_false_iff_ne.2 hk2
                  have HBD := hid (show badAt xs x (m : Int) z = false by rw [HBI.out, hk2']; simp)
                  clear hk2
                  go_wp2_with (first
                    | (go_at_call 104; refine (under_any _ _ _ (by omega) (by omega)).mono ?_; rintro e7 w7 ⟨rfl, hw7⟩; subst w7)
                    | (go_at_call 105; refine (int_any A2 _ c2 q.u m _ (HQS.out.ext ((Below.refl _ _).alloc (Nat.le_refl _) _)) hqu).mono ?_; rintro e7 w7 ⟨rfl, hw7⟩; subst w7))
                  go_roundw
                  case rel => exact ⟨z + 1, by go_num, by omega, hid (fun k hk => by
                    by_cases hkz : k < z
                    · exact HZ.out k hkz
                    · rw [show k = z by omega]; exact HBD.out), HB3.out.alloc HB3.out.size _⟩
                  case measure => simp [intOf]; omega
              · have HMI := hid (mid_yes (xs := xs) (x := x) (i := (m : Int)) fun k hk => HZ.out k (by rw [HX.out] at hk; omega))
                have HJ2 := hid (show rparF xs x (lfA (x : Int) - 1) u = rparF xs x (m : Int) (u.drop (j + 1)) by rw [HJ.out, HC.out]; exact rpar_go HH1.out HH2.out HK1.out HMI.out)
                have hm256 : (m : Int) ≤ 256 := by omega
                go_wp2
                go_roundw
                case rel => exact ⟨j + 1, m, by go_num, rfl, by omega, HJ2, by omega, hm256, HB3.out⟩
                case measure => simp [intOf]; omega
          · have HF := hid (show rparF xs x (lfA (x : Int) - 1) u = false by rw [HJ.out, HC.out]; exact rpar_kd (by rw [HK.out]; exact hk))
            have hy : 2 * (m : Int) = (Y : Int) := by omega
            clear hY
            have hk' : (q0.k != 1) = true := bne_iff_ne.2 hk
            clear hk
            go_wp2
            go_ret
            exact ⟨by rw [HF.out]; rfl, HB.out⟩
        · have HF := hid (show rparF xs x (lfA (x : Int) - 1) u = false by rw [HJ.out, HC.out]; exact rpar_hi (by omega))
          have h2' : lfB (x : Int) ≤ i := by omega
          clear h2
          go_wp2
          go_ret
          exact ⟨by rw [HF.out]; rfl, HB.out⟩
      · have HF := hid (show rparF xs x (lfA (x : Int) - 1) u = false by rw [HJ.out, HC.out]; exact rpar_lo (by omega))
        have h1' : i ≤ last := by omega
        clear h1
        go_wp2
        go_ret
        exact ⟨by rw [HF.out]; rfl, HB.out⟩
    · have HF := hid (show rparF xs x (lfA (x : Int) - 1) u = true by rw [HJ.out, List.drop_of_length_le (by omega)]; rfl)
      go_wp2
      go_ret
      exact ⟨by rw [HF.out]; rfl, HB.out⟩
end Go.Proofs.YtfmkniakfgpgjaaGreatDoor

/- the reference of layer 7: a node at its place; Check. -/
namespace Go.Proofs.YtfmkniakfgpgjaaGreatDoor
open Go.RowKit Go.KK Go.Shelf
set_option linter.unusedVariables false
set_option linter.unusedSimpArgs false

def leafB (y : TN) : Bool := y.k == 1 && ((y.u.length : Nat) : Int) == 0
/-- A node may stand at its place. -/
def rnodeB (xs : List TN) (x : Nat) (y : TN) : Bool :=
  if y.k = 0 then zerB y else if (x : Int) % 2 = 0 then leafB y else y.k == 2 && y.i == 0 && y.s == 0 && rparF xs x (lfA (x : Int) - 1) y.u
theorem rnode_any1 (A : Option Addr) (n c : Nat) (xs : List TN) (x : Nat) (y : TN) (B : Option Addr) (d : Nat) (w : World) (ht : Tr w A n c xs) (hnm : n ≤ 600) (hs : SlA w 1 B y.u.length d (y.u.map (.int .i64))) (hu47 : y.u.length ≤ 2147483648) (hu : Shorts xs) (hf : fullN (lvN n) = true) (hn2 : 2 * (lvN n : Int) - 1 = n) (hx : x < n) :
    Calls Tryz.prog 62 #[.slice A n c, .int .i64 x, .agg #[.int .i64 y.k, .int .i64 y.i, .int .i64 y.e, .int .i64 y.s, .int .i64 y.h, .slice B y.u.length d]] w fun r w' => r = .returned (.bool (rnodeB xs x y)) ∧ Below w.heap.size w w' := by
  by_cases h0 : y.k = 0
  · have hr : rnodeB xs x y = zerB y := by unfold rnodeB; rw [if_pos h0]
    rw [hr]
    have h0' : (y.k == 0) = true := beq_iff_eq.2 h0
    clear hr h0 ht hs hu hf hn2
    go_enter Tryz.func62, Tryz.ntmps62
    go_wp2_with (go_at_call 101; refine (rzero_any y _ _ _).mono ?_; rintro e1 w1 ⟨rfl, hb1⟩)
    go_ret
    exact ⟨rfl, (below_new (Below.refl _ _) (Nat.le_refl _) hb1).1⟩
  · have h0' : (y.k == 0) = false := beq_eq_false_iff_ne.2 h0
    by_cases h2 : (x : Int) % 2 = 0
    · have hr : rnodeB xs x y = leafB y := by unfold rnodeB; rw [if_neg h0, if_pos h2]
      rw [hr]
      have h2' : ((x : Int) % 2 == 0) = true := beq_iff_eq.2 h2
      have HLF := hid (fun w => rleaf_any y.k y.i y.e y.s y.h B y.u.length d w)
      clear hr h0 h2 ht hs hu hf hn2
      go_enter Tryz.func62, Tryz.ntmps62
      go_wp2_with (go_at_call 102; refine (HLF.out _).mono ?_; rintro e1 w1 ⟨rfl, hb1⟩)
      go_ret
      exact ⟨rfl, (below_new (Below.refl _ _) (Nat.le_refl _) hb1).1⟩
    · have h2' : ((x : Int) % 2 == 0) = false := beq_eq_false_iff_ne.2 h2
      have hr : rnodeB xs x y = (y.k == 2 && y.i == 0 && y.s == 0 && rparF xs x (lfA (x : Int) - 1) y.u) := by unfold rnodeB; rw [if_neg h0, if_neg h2]
      rw [hr]
      clear hr
      obtain ⟨k, i, e, s, h, u⟩ := y
      simp only at h0 h0' hs hu47 ⊢
      by_cases hk : k = 2
      · subst hk
        by_cases hi : i = 0
        · subst hi
          by_cases hss : s = 0
          · subst hss
            have := rnode_go A n c xs x e h u B d w ht hnm hs hu47 hu hf hn2 hx h2
            simpa using this
          · have hss' : (s != 0) = true := bne_iff_ne.2 hss
            have hv : (2 == (2 : Int) && (0 : Int) == 0 && s == 0 && rparF xs x (lfA (x : Int) - 1) u) = false := by rw [beq_eq_false_iff_ne.2 hss]; simp
            rw [hv]
            clear hss hv h0 h2 ht hs hu hf hn2
            go_enter Tryz.func62, Tryz.ntmps62
            go_wp2
            go_ret
            exact ⟨rfl, (Below.refl _ _).alloc (Nat.le_refl _) _⟩
        · have hi' : (i != 0) = true := bne_iff_ne.2 hi
          have hv : (2 == (2 : Int) && i == 0 && s == 0 && rparF xs x (lfA (x : Int) - 1) u) = false := by rw [beq_eq_false_iff_ne.2 hi]; simp
          rw [hv]
          clear hi hv h0 h2 ht hs hu hf hn2
          go_enter Tryz.func62, Tryz.ntmps62
          go_wp2
          go_ret
          exact ⟨rfl, (Below.refl _ _).alloc (Nat.le_refl _) _⟩
      · have hk' : (k != 2) = true := bne_iff_ne.2 hk
        have hv : (k == 2 && i == 0 && s == 0 && rparF xs x (lfA (x : Int) - 1) u) = false := by rw [beq_eq_false_iff_ne.2 hk]; simp
        rw [hv]
        clear hk hv h0 h2 ht hs hu hf hn2
        go_enter Tryz.func62, Tryz.ntmps62
        go_wp2
        go_ret
        exact ⟨rfl, (Below.refl _ _).alloc (Nat.le_refl _) _⟩
/-- A tree may be: the document's answer. -/
def rnodeAt (xs : List TN) (x : Nat) : Bool := match xs[x]? with | some y => rnodeB xs x y | none => true
def rallR (xs : List TN) : Int := if (List.range xs.length).all (rnodeAt xs) then 0 else 1
theorem rallR_yes {xs : List TN} (h : ∀ k, k < xs.length → rnodeAt xs k = true) : rallR xs = 0 := by
  unfold rallR; rw [if_pos (List.all_eq_true.2 fun k hk => h k (List.mem_range.1 hk))]
theorem rallR_no {xs : List TN} {k : Nat} (hk : k < xs.length) (h : rnodeAt xs k = false) : rallR xs = 1 := by
  unfold rallR; rw [if_neg fun hh => by rw [List.all_eq_true.1 hh k (List.mem_range.2 hk)] at h; cases h]
theorem rlv_some {n : Nat} (h : rlv n ≠ 0) : fullN (lvN n) = true ∧ 2 * (lvN n : Int) - 1 = n ∧ rlv n = lvN n := by
  unfold rlv at h ⊢
  split at h
  · rename_i hc
    simp only [Bool.and_eq_true, beq_iff_eq] at hc
    exact ⟨hc.1, hc.2, by rw [if_pos (by simpa using hc)]⟩
  · exact absurd rfl h
set_option maxHeartbeats 2000000 in
theorem rcheck_go (A : Option Addr) (n c : Nat) (xs : List TN) (w : World) (ht : Tr w A n c xs) (hnm : n ≤ 600) (hu : Shorts xs) (h0 : rlv n ≠ 0) (h1 : someB xs 0 (lvN n) = true) (h2 : lvN n ≤ 1 ∨ someB xs (lvN n / 2) (lvN n) = true) :
    Calls Tryz.prog 20 #[.slice A n c] w fun e w' => e = .returned (.int .i64 (rallR xs)) ∧ Below w.heap.size w w' := by
  obtain ⟨hf, hn2, hr⟩ := rlv_some h0
  have HR := hid hr
  have hN := fullN_le hf
  have hN1 : 1 ≤ lvN n := by omega
  have hN2 : lvN n ≤ 256 := by omega
  have h00 : ((lvN n : Int) == 0) = false := beq_eq_false_iff_ne.2 (by omega)
  have hs1 : Calls Tryz.prog 61 #[.slice A n c, .int .i64 0, .int .i64 (lvN n)] w fun e w' => e = .returned (.bool (someB xs 0 (lvN n))) ∧ w' = w := some_any A n c xs 0 (lvN n) w ht hnm (Nat.le_refl _) (Nat.zero_le _)
  have hs2 := some_any A n c xs (lvN n / 2) (lvN n) w ht hnm (Nat.le_refl _) (by omega)
  rw [h1] at hs1
  have HS1 := hid hs1
  have HX := hid ht.len; have H := hid ht; have HU := hid hu; have HF := hid hf; have HN2 := hid hn2
  have hdiv : (lvN n : Int) / 2 = ((lvN n / 2 : Nat) : Int) := by omega
  have hz0 : ((0 : Nat) : Int) = 0 := rfl
  clear ht hu h0 hr hN hf hn2 h1 hs1
  generalize hP : lvN n / 2 = P at *
  have hgt : lvN n ≤ 1 ∨ (1 < lvN n ∧ Hid (Calls Tryz.prog 61 #[.slice A n c, .int .i64 P, .int .i64 (lvN n)] w fun e w' => e = .returned (.bool true) ∧ w' = w)) := by
    by_cases hl : lvN n ≤ 1
    · exact .inl hl
    · rcases h2 with h2 | h2
      · exact absurd h2 hl
      · rw [h2] at hs2; exact .inr ⟨by omega, hid hs2⟩
  clear h2 hs2 hP
  have main : ∀ W, W = w → True := fun _ _ => trivial
  rcases hgt with hl | ⟨hl, HS2⟩
  all_goals
    go_enter Tryz.func20, Tryz.ntmps20
    go_wp2_with (first
      | (go_at_call 60; refine (rleavesT_any _ n c _ hnm).mono ?_; rintro e1 w1 ⟨rfl, hw1⟩; subst w1; rw [HR.out])
      | (go_at_call 61; ((with_reducible refine HS1.out.mono ?_); rintro e1 w1 ⟨rfl, hw1⟩; subst w1))
      | (go_at_call 61; ((with_reducible refine HS2.out.mono ?_); rintro e1 w1 ⟨rfl, hw1⟩; subst w1)))
    go_loopw [30, 2] (fun i _ wr => ∃ j : Nat, i = .int .i64 j ∧ j ≤ n ∧ Hid (∀ k, k < j → rnodeAt xs k = true) ∧ Below w.heap.size w wr) (fun i _ _ => n - (intOf i).toNat)
    case atStart => exact ⟨0, rfl, by omega, hid (fun k hk => by omega), Below.refl _ _⟩
    case round =>
      obtain ⟨j, hi, hj, HJ, hbr⟩ := hrel
      subst hi
      have HB := hid hbr; clear hbr
      by_cases hlt : j < n
      · obtain ⟨b, o, y, A2, c2, rfl, hy, c0, c1, c2', c3, c4, c5, hsy⟩ := (H.out.ext HB.out).at hlt
        have huy := HU.out _ _ hy
        have HY := hid (show rnodeAt xs j = rnodeB xs j y by unfold rnodeAt; rw [hy])
        have hzr := HB.out.size
        have HSY := hid hsy
        clear hy hsy
        rcases hv : rnodeB xs j y with _ | _
        · have HV := hid (HY.out.trans hv)
          go_wp2_with (go_at_call 62; refine (rnode_any1 _ n c xs j y A2 c2 _ ((H.out.ext HB.out).alloc _) hnm (HSY.out.alloc _) huy HU.out HF.out HN2.out hlt).mono ?_; rintro e1 w1 ⟨rfl, hb1⟩; rw [hv]; have HB1 := hid (below_new HB.out hzr hb1).1; clear hb1)
          go_ret
          exact ⟨by rw [rallR_no (by rw [HX.out]; exact hlt) HV.out]; rfl, HB1.out⟩
        · have HV := hid (HY.out.trans hv)
          go_wp2_with (go_at_call 62; refine (rnode_any1 _ n c xs j y A2 c2 _ ((H.out.ext HB.out).alloc _) hnm (HSY.out.alloc _) huy HU.out HF.out HN2.out hlt).mono ?_; rintro e1 w1 ⟨rfl, hb1⟩; rw [hv]; have HB1 := hid (below_new HB.out hzr hb1).1; clear hb1)
          go_roundw
          case rel => exact ⟨j + 1, by go_num, by omega, hid (fun k hk => by
            by_cases hkj : k < j
            · exact HJ.out k hkj
            · rw [show k = j by omega]; exact HV.out), HB1.out⟩
          case measure => simp [intOf]; omega
      · have HE := hid (rallR_yes (xs := xs) fun k hk => HJ.out k (by rw [HX.out] at hk; omega))
        go_wp2
        go_ret
        exact ⟨by rw [HE.out]; rfl, HB.out⟩
theorem rcheck_no (A : Option Addr) (n c : Nat) (xs : List TN) (w : World) (ht : Tr w A n c xs) (hnm : n ≤ 600) (h : rlv n = 0 ∨ rlv n ≠ 0 ∧ someB xs 0 (lvN n) = false ∨ rlv n ≠ 0 ∧ someB xs 0 (lvN n) = true ∧ 1 < lvN n ∧ someB xs (lvN n / 2) (lvN n) = false) :
    Calls Tryz.prog 20 #[.slice A n c] w fun e w' => e = .returned (.int .i64 1) ∧ Below w.heap.size w w' := by
  have hN : lvN n ≤ 301 := by unfold lvN; omega
  rcases h with h | ⟨h0, h1⟩ | ⟨h0, h1, h2, h3⟩
  · go_enter Tryz.func20, Tryz.ntmps20
    go_wp2_with (go_at_call 60; refine (rleavesT_any _ n c _ hnm).mono ?_; rintro e1 w1 ⟨rfl, hw1⟩; subst w1; rw [h])
    go_ret
    exact ⟨rfl, Below.refl _ _⟩
  · obtain ⟨hf, hn2, hr⟩ := rlv_some h0
    have h00 : ((lvN n : Int) == 0) = false := beq_eq_false_iff_ne.2 (by have := fullN_le hf; omega)
    have hs1 : Calls Tryz.prog 61 #[.slice A n c, .int .i64 0, .int .i64 (lvN n)] w fun e w' => e = .returned (.bool (someB xs 0 (lvN n))) ∧ w' = w := some_any A n c xs 0 (lvN n) w ht hnm (Nat.le_refl _) (Nat.zero_le _)
    rw [h1] at hs1
    have HS1 := hid hs1; have HR := hid hr
    clear h0 h1 hf hn2 hr hs1 ht
    go_enter Tryz.func20, Tryz.ntmps20
    go_wp2_with (first
      | (go_at_call 60; refine (rleavesT_any _ n c _ hnm).mono ?_; rintro e1 w1 ⟨rfl, hw1⟩; subst w1; rw [HR.out])
      | (go_at_call 61; refine HS1.out.mono ?_; rintro e1 w1 ⟨rfl, hw1⟩; subst w1))
    go_ret
    exact ⟨rfl, Below.refl _ _⟩
  · obtain ⟨hf, hn2, hr⟩ := rlv_some h0
    have h00 : ((lvN n : Int) == 0) = false := beq_eq_false_iff_ne.2 (by omega)
    have hs1 : Calls Tryz.prog 61 #[.slice A n c, .int .i64 0, .int .i64 (lvN n)] w fun e w' => e = .returned (.bool (someB xs 0 (lvN n))) ∧ w' = w := some_any A n c xs 0 (lvN n) w ht hnm (Nat.le_refl _) (Nat.zero_le _)
    have hs2 := some_any A n c xs (lvN n / 2) (lvN n) w ht hnm (Nat.le_refl _) (by omega)
    rw [h1] at hs1
    rw [h3] at hs2
    have hdiv : (lvN n : Int) / 2 = ((lvN n / 2 : Nat) : Int) := by omega
    generalize lvN n / 2 = P at *
    have HS1 := hid hs1; have HS2 := hid hs2; have HR := hid hr
    clear h0 h1 h3 hf hn2 hr hs1 hs2 ht
    go_enter Tryz.func20, Tryz.ntmps20
    go_wp2_with (first
      | (go_at_call 60; refine (rleavesT_any _ n c _ hnm).mono ?_; rintro e1 w1 ⟨rfl, hw1⟩; subst w1; rw [HR.out])
      | (go_at_call 61; ((with_reducible refine HS1.out.mono ?_); rintro e1 w1 ⟨rfl, hw1⟩; subst w1))
      | (go_at_call 61; ((with_reducible refine HS2.out.mono ?_); rintro e1 w1 ⟨rfl, hw1⟩; subst w1)))
    go_ret
    exact ⟨rfl, Below.refl _ _⟩
end Go.Proofs.YtfmkniakfgpgjaaGreatDoor

/- the plain law of Check: what the program asks of a tree is what the document asks. -/
namespace Go.Proofs.YtfmkniakfgpgjaaGreatDoor
open Go.RowKit Go.KK Go.Shelf
set_option linter.unusedVariables false
set_option linter.unusedSimpArgs false

/-- The node above a leaf at a level. -/
def nd (i j : Nat) : Nat := (i / 2 ^ j) * 2 ^ (j + 1) + 2 ^ j - 1
theorem nd_facts : ((List.range 256).all fun i => (List.range 9).all fun j => decide (lvl (nd i j : Int) = j) && decide (nd i j ≤ 510) && (decide (j = 8) || decide (upV (nd i j : Int) = (nd i (j + 1) : Int)))) = true := by decide +kernel
theorem nd_is {i j : Nat} (hi : i < 256) (hj : j ≤ 8) : lvl (nd i j : Int) = j ∧ nd i j ≤ 510 ∧ (j < 8 → upV (nd i j : Int) = (nd i (j + 1) : Int)) := by
  have h := List.all_eq_true.1 (List.all_eq_true.1 nd_facts i (List.mem_range.2 hi)) j (List.mem_range.2 (by omega))
  simp only [Bool.and_eq_true, Bool.or_eq_true, decide_eq_true_eq] at h
  exact ⟨h.1.1, h.1.2, fun h8 => by rcases h.2 with h2 | h2; · omega
                                    · exact h2⟩
theorem z_facts : ∀ z : Nat, z < 511 → lvl (z : Int) ≤ 8 ∧ z = z / 2 ^ (lvl (z : Int) + 1) * 2 ^ (lvl (z : Int) + 1) + 2 ^ lvl (z : Int) - 1 ∧ lfA (z : Int) = ((z / 2 ^ (lvl (z : Int) + 1) * 2 ^ lvl (z : Int) : Nat) : Int) ∧ lfB (z : Int) = (((z / 2 ^ (lvl (z : Int) + 1) + 1) * 2 ^ lvl (z : Int) : Nat) : Int) := by decide +kernel
theorem nd0 (i : Nat) : nd i 0 = 2 * i := by unfold nd; simp; omega
/-- Who is above a leaf. -/
theorem above_iff {z i : Nat} (hz : z < 511) : (lfA (z : Int) ≤ (i : Int) ∧ (i : Int) < lfB (z : Int)) ↔ z = nd i (lvl (z : Int)) := by
  obtain ⟨_, h1, h2, h3⟩ := z_facts z hz
  generalize lvl (z : Int) = k at *
  rw [h2, h3]
  have hp : 0 < 2 ^ k := Nat.two_pow_pos k
  have hdiv : (z / 2 ^ (k + 1) * 2 ^ k ≤ i ∧ i < (z / 2 ^ (k + 1) + 1) * 2 ^ k) ↔ z / 2 ^ (k + 1) = i / 2 ^ k := by
    constructor
    · rintro ⟨a, b⟩
      have c1 := (Nat.le_div_iff_mul_le hp).2 a
      have c2 := (Nat.div_lt_iff_lt_mul hp).2 b
      omega
    · intro e
      rw [e]
      exact ⟨Nat.div_mul_le_self i _, Nat.lt_mul_of_div_lt (by omega) hp⟩
  constructor
  · rintro ⟨a, b⟩
    have := hdiv.1 ⟨by omega, by omega⟩
    unfold nd
    rw [← this]
    exact h1
  · intro e
    have hq : z / 2 ^ (k + 1) = i / 2 ^ k := by
      unfold nd at e
      have e3 : z / 2 ^ (k + 1) * 2 ^ (k + 1) = i / 2 ^ k * 2 ^ (k + 1) := by
        generalize z / 2 ^ (k + 1) * 2 ^ (k + 1) = u at *
        generalize i / 2 ^ k * 2 ^ (k + 1) = v at *
        omega
      exact Nat.eq_of_mul_eq_mul_right (Nat.two_pow_pos _) e3
    have := hdiv.2 hq
    omega
theorem leaf_ab {i : Nat} (hi : i < 256) : lvl ((2 * i : Nat) : Int) = 0 ∧ lfA ((2 * i : Nat) : Int) = i ∧ lfB ((2 * i : Nat) : Int) = (i : Int) + 1 := by
  have h0 := (nd_is hi (Nat.zero_le 8)).1
  rw [nd0] at h0
  obtain ⟨_, _, h2, h3⟩ := z_facts (2 * i) (by omega)
  rw [h0] at h2 h3
  refine ⟨h0, ?_, ?_⟩
  · rw [h2]; simp
  · rw [h3]; simp
theorem und_leaf {i z : Nat} (hi : i < 256) (hz : z < 511) : undB (2 * i) z = true ↔ z = nd i (lvl (z : Int)) := by
  obtain ⟨h0, h1, h2⟩ := leaf_ab hi
  unfold undB
  rw [h0, h1, h2]
  simp only [Bool.and_eq_true, decide_eq_true_eq, Nat.zero_le, and_true]
  rw [← above_iff hz]
  omega
theorem nest {p q a t i : Nat} (ha : 0 < a) (h1 : p * a ≤ i) (h2 : i < (p + 1) * a) (h3 : q * (a * t) ≤ i) (h4 : i < (q + 1) * (a * t)) : q * (a * t) ≤ p * a ∧ (p + 1) * a ≤ (q + 1) * (a * t) := by
  have e1 : q * (a * t) = q * t * a := by rw [Nat.mul_assoc, Nat.mul_comm a t]
  have e2 : (q + 1) * (a * t) = (q + 1) * t * a := by rw [Nat.mul_assoc, Nat.mul_comm a t]
  rw [e1] at h3 ⊢
  rw [e2] at h4 ⊢
  have f1 : q * t < p + 1 := Nat.lt_of_mul_lt_mul_right (a := a) (Nat.lt_of_le_of_lt h3 h2)
  have f2 : p < (q + 1) * t := Nat.lt_of_mul_lt_mul_right (a := a) (Nat.lt_of_le_of_lt h1 h4)
  exact ⟨Nat.mul_le_mul_right _ (by omega), Nat.mul_le_mul_right _ (by omega)⟩
theorem und_both {i j k : Nat} (hi : i < 256) (hj : j ≤ 8) (hk : k ≤ 8) : undB (nd i j) (nd i k) = true ↔ j ≤ k := by
  have a1 := nd_is hi hj
  have a2 := nd_is hi hk
  obtain ⟨_, _, b2, b3⟩ := z_facts (nd i j) (by omega)
  obtain ⟨_, _, c2, c3⟩ := z_facts (nd i k) (by omega)
  have d1 := (above_iff (i := i) (show nd i j < 511 by omega)).2 (by rw [a1.1])
  have d2 := (above_iff (i := i) (show nd i k < 511 by omega)).2 (by rw [a2.1])
  unfold undB
  rw [b2, b3] at d1
  rw [c2, c3] at d2
  rw [b2, b3, c2, c3]
  rw [a1.1] at d1 ⊢
  rw [a2.1] at d2 ⊢
  clear b2 b3 c2 c3 a1 a2
  simp only [Bool.and_eq_true, decide_eq_true_eq]
  generalize nd i j / 2 ^ (j + 1) = p at *
  generalize nd i k / 2 ^ (k + 1) = q at *
  constructor
  · exact fun h => h.2
  · intro h
    obtain ⟨t, rfl⟩ := Nat.exists_eq_add_of_le h
    rw [Nat.pow_add] at d2 ⊢
    have := nest (Nat.two_pow_pos j) (Int.ofNat_le.1 d1.1) (Int.ofNat_lt.1 d1.2) (Int.ofNat_le.1 d2.1) (Int.ofNat_lt.1 d2.2)
    exact ⟨⟨Int.ofNat_le.2 this.1, Int.ofNat_le.2 this.2⟩, h⟩
theorem nd_inj {i j k : Nat} (hi : i < 256) (hj : j ≤ 8) (hk : k ≤ 8) (h : nd i j = nd i k) : j = k := by
  have a1 := (nd_is hi hj).1
  have a2 := (nd_is hi hk).1
  rw [h] at a1
  omega
theorem nd_root {i K : Nat} (h : i < 2 ^ K) : nd i K = 2 ^ K - 1 := by
  unfold nd
  rw [Nat.div_eq_of_lt h]; simp
/-- The way up from a leaf. -/
theorem pathF_nd {i K : Nat} (hi : i < 2 ^ K) (hK : K ≤ 8) : ∀ (f j : Nat), j ≤ K → K - j < f → pathF f (nd i j : Int) ((2 ^ K : Nat) : Int) = (List.range (K - j)).map fun t => ((nd i (j + 1 + t) : Nat) : Int)
  | 0, _, _, h => by omega
  | f + 1, j, hj, h => by
    have hi256 : i < 256 := Nat.lt_of_lt_of_le hi (show 2 ^ K ≤ 256 from Nat.pow_le_pow_right (by omega) hK)
    have hp : 0 < 2 ^ K := Nat.two_pow_pos K
    rw [pathF]
    by_cases hjk : j = K
    · subst hjk
      rw [if_pos (by rw [nd_root hi]; omega), Nat.sub_self]; rfl
    · rw [if_neg (fun e => hjk (nd_inj hi256 (by omega) (by omega) (by rw [nd_root hi]; omega)))]
      rw [(nd_is hi256 (show j ≤ 8 by omega)).2.2 (by omega), pathF_nd hi hK f (j + 1) (by omega) (by omega)]
      rw [show K - j = (K - (j + 1)) + 1 by omega, List.range_succ_eq_map, List.map_cons, List.map_map]
      congr 1
      apply List.map_congr_left
      intro t _
      show ((nd i (j + 1 + 1 + t) : Nat) : Int) = ((nd i (j + 1 + (t + 1)) : Nat) : Int)
      rw [show j + 1 + 1 + t = j + 1 + (t + 1) by omega]
theorem pathL_nd {i K : Nat} (hi : i < 2 ^ K) (hK : K ≤ 8) : pathL (2 * (i : Int)) ((2 ^ K : Nat) : Int) = (List.range K).map fun t => ((nd i (1 + t) : Nat) : Int) := by
  have := pathF_nd hi hK 9 0 (Nat.zero_le _) (by omega)
  rw [nd0] at this
  rw [show (2 * (i : Int)) = ((2 * i : Nat) : Int) by omega]
  unfold pathL
  simpa using this
theorem tw_range {f : Int → Bool} {i : Nat} (hi : i < 256) : ∀ (m s k : Nat), s + m ≤ 9 → s ≤ k → k < s + m → twB f (nd i k : Int) ((List.range m).map fun t => ((nd i (s + t) : Nat) : Int)) = (List.range (k - s)).all fun t => f (nd i (s + t) : Int)
  | 0, _, _, _, _, h => by omega
  | m + 1, s, k, h1, h2, h3 => by
    rw [List.range_succ_eq_map, List.map_cons, List.map_map]
    by_cases hsk : s = k
    · subst hsk
      rw [Nat.sub_self, Nat.add_zero]
      exact tw_stop _ _ _
    · have hne : ¬ ((nd i (s + 0) : Nat) : Int) = (nd i k : Int) := fun e => hsk (nd_inj hi (by omega) (by omega) (by rw [Nat.add_zero] at e; omega))
      have hih := tw_range (f := f) hi m (s + 1) k (by omega) (by omega) (by omega)
      have hmap : (List.range m).map ((fun t => ((nd i (s + t) : Nat) : Int)) ∘ Nat.succ) = (List.range m).map fun t => ((nd i (s + 1 + t) : Nat) : Int) := by
        apply List.map_congr_left
        intro t _
        show ((nd i (s + (t + 1)) : Nat) : Int) = _
        rw [show s + (t + 1) = s + 1 + t by omega]
      rw [hmap]
      rw [show k - s = (k - (s + 1)) + 1 by omega, List.range_succ_eq_map, List.all_cons, List.all_map]
      have hall : ((List.range (k - (s + 1))).all ((fun t => f ((nd i (s + t) : Nat) : Int)) ∘ Nat.succ)) = (List.range (k - (s + 1))).all fun t => f ((nd i (s + 1 + t) : Nat) : Int) := by
        congr 1
        funext t
        show f ((nd i (s + (t + 1)) : Nat) : Int) = _
        rw [show s + (t + 1) = s + 1 + t by omega]
      rw [hall, ← hih]
      rcases hf : f ((nd i (s + 0) : Nat) : Int) with _ | _
      · rw [tw_no hne hf, Bool.false_and]
      · rw [tw_go hne hf, Bool.true_and]
end Go.Proofs.YtfmkniakfgpgjaaGreatDoor

