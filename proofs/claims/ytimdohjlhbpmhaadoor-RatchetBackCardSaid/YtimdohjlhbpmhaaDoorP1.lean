/- the plain law of Check: what the program asks of a tree is what the document asks. -/
import Derived.Test.YtimdohjlhbpmhaaDoorQ6
namespace Go.Proofs.YtimdohjlhbpmhaaDoor
open Go.RowKit Go.KK Go.Shelf
set_option linter.unusedVariables false
set_option linter.unusedSimpArgs false

/-- The node above a leaf at a level. -/
def nd (i j : Nat) : Nat := (i / 2 ^ j) * 2 ^ (j + 1) + 2 ^ j - 1
theorem nd_facts : ((List.range 256).all fun i => (List.range 9).all fun j => decide (lvl (nd i j : Int) = j) && decide (nd i j ≤ 510) && (decide (j = 8) || decide (upV (nd i j : Int) = (nd i (j + 1) : Int)))) = true := by decide +kernel
theorem nd_is {i j : Nat} (hi : i < 256) (hj : j ≤ 8) : lvl (nd i j : Int) = j ∧ nd i j ≤ 510 ∧ (j < 8 → upV (nd i j : Int) = (nd i (j + 1) : Int)) := by
  have h := List.all_eq_true.1 (List.all_eq_true.1 nd_facts i (List.mem_range.2 hi)) j (List.mem_range.2 (by omega))
  simp only [Bool.and_eq_true, Bool.or_eq_true, decide_eq_true_eq] at h
  exact ⟨h.1.1, h.1.2, fun h8 => by rcases h.2 with h2 | h2; · omega
                                    · exact h2⟩
theorem z_facts : ∀ z : Nat, z < 511 → lvl (z : Int) ≤ 8 ∧ z = z / 2 ^ (lvl (z : Int) + 1) * 2 ^ (lvl (z : Int) + 1) + 2 ^ lvl (z : Int) - 1 ∧ lfA (z : Int) = ((z / 2 ^ (lvl (z : Int) + 1) * 2 ^ lvl (z : Int) : Nat) : Int) ∧ lfB (z : Int) = (((z / 2 ^ (lvl (z : Int) + 1) + 1) * 2 ^ lvl (z : Int) : Nat) : Int) := by decide +kernel
theorem nd0 (i : Nat) : nd i 0 = 2 * i := by unfold nd; simp; omega
/-- Who is above a leaf. -/
theorem above_iff {z i : Nat} (hz : z < 511) : (lfA (z : Int) ≤ (i : Int) ∧ (i : Int) < lfB (z : Int)) ↔ z = nd i (lvl (z : Int)) := by
  obtain ⟨_, h1, h2, h3⟩ := z_facts z hz
  generalize lvl (z : Int) = k at *
  rw [h2, h3]
  have hp : 0 < 2 ^ k := Nat.two_pow_pos k
  have hdiv : (z / 2 ^ (k + 1) * 2 ^ k ≤ i ∧ i < (z / 2 ^ (k + 1) + 1) * 2 ^ k) ↔ z / 2 ^ (k + 1) = i / 2 ^ k := by
    constructor
    · rintro ⟨a, b⟩
      have c1 := (Nat.le_div_iff_mul_le hp).2 a
      have c2 := (Nat.div_lt_iff_lt_mul hp).2 b
      omega
    · intro e
      rw [e]
      exact ⟨Nat.div_mul_le_self i _, Nat.lt_mul_of_div_lt (by omega) hp⟩
  constructor
  · rintro ⟨a, b⟩
    have := hdiv.1 ⟨by omega, by omega⟩
    unfold nd
    rw [← this]
    exact h1
  · intro e
    have hq : z / 2 ^ (k + 1) = i / 2 ^ k := by
      unfold nd at e
      have e3 : z / 2 ^ (k + 1) * 2 ^ (k + 1) = i / 2 ^ k * 2 ^ (k + 1) := by
        generalize z / 2 ^ (k + 1) * 2 ^ (k + 1) = u at *
        generalize i / 2 ^ k * 2 ^ (k + 1) = v at *
        omega
      exact Nat.eq_of_mul_eq_mul_right (Nat.two_pow_pos _) e3
    have := hdiv.2 hq
    omega
theorem leaf_ab {i : Nat} (hi : i < 256) : lvl ((2 * i : Nat) : Int) = 0 ∧ lfA ((2 * i : Nat) : Int) = i ∧ lfB ((2 * i : Nat) : Int) = (i : Int) + 1 := by
  have h0 := (nd_is hi (Nat.zero_le 8)).1
  rw [nd0] at h0
  obtain ⟨_, _, h2, h3⟩ := z_facts (2 * i) (by omega)
  rw [h0] at h2 h3
  refine ⟨h0, ?_, ?_⟩
  · rw [h2]; simp
  · rw [h3]; simp
theorem und_leaf {i z : Nat} (hi : i < 256) (hz : z < 511) : undB (2 * i) z = true ↔ z = nd i (lvl (z : Int)) := by
  obtain ⟨h0, h1, h2⟩ := leaf_ab hi
  unfold undB
  rw [h0, h1, h2]
  simp only [Bool.and_eq_true, decide_eq_true_eq, Nat.zero_le, and_true]
  rw [← above_iff hz]
  omega
theorem nest {p q a t i : Nat} (ha : 0 < a) (h1 : p * a ≤ i) (h2 : i < (p + 1) * a) (h3 : q * (a * t) ≤ i) (h4 : i < (q + 1) * (a * t)) : q * (a * t) ≤ p * a ∧ (p + 1) * a ≤ (q + 1) * (a * t) := by
  have e1 : q * (a * t) = q * t * a := by rw [Nat.mul_assoc, Nat.mul_comm a t]
  have e2 : (q + 1) * (a * t) = (q + 1) * t * a := by rw [Nat.mul_assoc, Nat.mul_comm a t]
  rw [e1] at h3 ⊢
  rw [e2] at h4 ⊢
  have f1 : q * t < p + 1 := Nat.lt_of_mul_lt_mul_right (a := a) (Nat.lt_of_le_of_lt h3 h2)
  have f2 : p < (q + 1) * t := Nat.lt_of_mul_lt_mul_right (a := a) (Nat.lt_of_le_of_lt h1 h4)
  exact ⟨Nat.mul_le_mul_right _ (by omega), Nat.mul_le_mul_right _ (by omega)⟩
theorem und_both {i j k : Nat} (hi : i < 256) (hj : j ≤ 8) (hk : k ≤ 8) : undB (nd i j) (nd i k) = true ↔ j ≤ k := by
  have a1 := nd_is hi hj
  have a2 := nd_is hi hk
  obtain ⟨_, _, b2, b3⟩ := z_facts (nd i j) (by omega)
  obtain ⟨_, _, c2, c3⟩ := z_facts (nd i k) (by omega)
  have d1 := (above_iff (i := i) (show nd i j < 511 by omega)).2 (by rw [a1.1])
  have d2 := (above_iff (i := i) (show nd i k < 511 by omega)).2 (by rw [a2.1])
  unfold undB
  rw [b2, b3] at d1
  rw [c2, c3] at d2
  rw [b2, b3, c2, c3]
  rw [a1.1] at d1 ⊢
  rw [a2.1] at d2 ⊢
  clear b2 b3 c2 c3 a1 a2
  simp only [Bool.and_eq_true, decide_eq_true_eq]
  generalize nd i j / 2 ^ (j + 1) = p at *
  generalize nd i k / 2 ^ (k + 1) = q at *
  constructor
  · exact fun h => h.2
  · intro h
    obtain ⟨t, rfl⟩ := Nat.exists_eq_add_of_le h
    rw [Nat.pow_add] at d2 ⊢
    have := nest (Nat.two_pow_pos j) (Int.ofNat_le.1 d1.1) (Int.ofNat_lt.1 d1.2) (Int.ofNat_le.1 d2.1) (Int.ofNat_lt.1 d2.2)
    exact ⟨⟨Int.ofNat_le.2 this.1, Int.ofNat_le.2 this.2⟩, h⟩
theorem nd_inj {i j k : Nat} (hi : i < 256) (hj : j ≤ 8) (hk : k ≤ 8) (h : nd i j = nd i k) : j = k := by
  have a1 := (nd_is hi hj).1
  have a2 := (nd_is hi hk).1
  rw [h] at a1
  omega
theorem nd_root {i K : Nat} (h : i < 2 ^ K) : nd i K = 2 ^ K - 1 := by
  unfold nd
  rw [Nat.div_eq_of_lt h]; simp
/-- The way up from a leaf. -/
theorem pathF_nd {i K : Nat} (hi : i < 2 ^ K) (hK : K ≤ 8) : ∀ (f j : Nat), j ≤ K → K - j < f → pathF f (nd i j : Int) ((2 ^ K : Nat) : Int) = (List.range (K - j)).map fun t => ((nd i (j + 1 + t) : Nat) : Int)
  | 0, _, _, h => by omega
  | f + 1, j, hj, h => by
    have hi256 : i < 256 := Nat.lt_of_lt_of_le hi (show 2 ^ K ≤ 256 from Nat.pow_le_pow_right (by omega) hK)
    have hp : 0 < 2 ^ K := Nat.two_pow_pos K
    rw [pathF]
    by_cases hjk : j = K
    · subst hjk
      rw [if_pos (by rw [nd_root hi]; omega), Nat.sub_self]; rfl
    · rw [if_neg (fun e => hjk (nd_inj hi256 (by omega) (by omega) (by rw [nd_root hi]; omega)))]
      rw [(nd_is hi256 (show j ≤ 8 by omega)).2.2 (by omega), pathF_nd hi hK f (j + 1) (by omega) (by omega)]
      rw [show K - j = (K - (j + 1)) + 1 by omega, List.range_succ_eq_map, List.map_cons, List.map_map]
      congr 1
      apply List.map_congr_left
      intro t _
      show ((nd i (j + 1 + 1 + t) : Nat) : Int) = ((nd i (j + 1 + (t + 1)) : Nat) : Int)
      rw [show j + 1 + 1 + t = j + 1 + (t + 1) by omega]
theorem pathL_nd {i K : Nat} (hi : i < 2 ^ K) (hK : K ≤ 8) : pathL (2 * (i : Int)) ((2 ^ K : Nat) : Int) = (List.range K).map fun t => ((nd i (1 + t) : Nat) : Int) := by
  have := pathF_nd hi hK 9 0 (Nat.zero_le _) (by omega)
  rw [nd0] at this
  rw [show (2 * (i : Int)) = ((2 * i : Nat) : Int) by omega]
  unfold pathL
  simpa using this
theorem tw_range {f : Int → Bool} {i : Nat} (hi : i < 256) : ∀ (m s k : Nat), s + m ≤ 9 → s ≤ k → k < s + m → twB f (nd i k : Int) ((List.range m).map fun t => ((nd i (s + t) : Nat) : Int)) = (List.range (k - s)).all fun t => f (nd i (s + t) : Int)
  | 0, _, _, _, _, h => by omega
  | m + 1, s, k, h1, h2, h3 => by
    rw [List.range_succ_eq_map, List.map_cons, List.map_map]
    by_cases hsk : s = k
    · subst hsk
      rw [Nat.sub_self, Nat.add_zero]
      exact tw_stop _ _ _
    · have hne : ¬ ((nd i (s + 0) : Nat) : Int) = (nd i k : Int) := fun e => hsk (nd_inj hi (by omega) (by omega) (by rw [Nat.add_zero] at e; omega))
      have hih := tw_range (f := f) hi m (s + 1) k (by omega) (by omega) (by omega)
      have hmap : (List.range m).map ((fun t => ((nd i (s + t) : Nat) : Int)) ∘ Nat.succ) = (List.range m).map fun t => ((nd i (s + 1 + t) : Nat) : Int) := by
        apply List.map_congr_left
        intro t _
        show ((nd i (s + (t + 1)) : Nat) : Int) = _
        rw [show s + (t + 1) = s + 1 + t by omega]
      rw [hmap]
      rw [show k - s = (k - (s + 1)) + 1 by omega, List.range_succ_eq_map, List.all_cons, List.all_map]
      have hall : ((List.range (k - (s + 1))).all ((fun t => f ((nd i (s + t) : Nat) : Int)) ∘ Nat.succ)) = (List.range (k - (s + 1))).all fun t => f ((nd i (s + 1 + t) : Nat) : Int) := by
        congr 1
        funext t
        show f ((nd i (s + (t + 1)) : Nat) : Int) = _
        rw [show s + (t + 1) = s + 1 + t by omega]
      rw [hall, ← hih]
      rcases hf : f ((nd i (s + 0) : Nat) : Int) with _ | _
      · rw [tw_no hne hf, Bool.false_and]
      · rw [tw_go hne hf, Bool.true_and]
end Go.Proofs.YtimdohjlhbpmhaaDoor
