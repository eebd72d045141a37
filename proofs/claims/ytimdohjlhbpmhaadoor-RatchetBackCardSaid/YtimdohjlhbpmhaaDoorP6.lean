/- plain: what a tree that may be is, in words of leaves and the nodes above them. -/
import Derived.Test.YtimdohjlhbpmhaaDoorQ14
namespace Go.Proofs.YtimdohjlhbpmhaaDoor
open Go.RowKit Go.KK Go.Shelf
set_option linter.unusedVariables false
set_option linter.unusedSimpArgs false

def MemOk (K : Nat) (xs : List TN) (z m : Nat) : Prop := m < 2 ^ K ∧ z = nd m (lvl (z : Int)) ∧ kd xs (2 * m) = 1 ∧ ∀ t, 1 ≤ t → t < lvl (z : Int) → kd xs (nd m t) = 2 → (m : Int) ∈ um xs (nd m t)
def NodeOk (K : Nat) (xs : List TN) (z : Nat) (x : TN) : Prop :=
  x = zeroN ∨ (z % 2 = 0 ∧ x.k = 1 ∧ x.u = []) ∨ (z % 2 = 1 ∧ x.k = 2 ∧ x.i = 0 ∧ x.s = 0 ∧ x.u.Pairwise (· < ·) ∧ ∀ i ∈ x.u, ∃ m : Nat, i = (m : Int) ∧ MemOk K xs z m)
structure Sound (K : Nat) (xs : List TN) : Prop where
  len : xs.length + 1 = 2 ^ (K + 1)
  le : K ≤ 8
  all : ∀ (z : Nat) x, xs[z]? = some x → NodeOk K xs z x
theorem Sound.lv {K : Nat} {xs : List TN} (h : xs.length + 1 = 2 ^ (K + 1)) : lvN xs.length = 2 ^ K := by
  unfold lvN; rw [h, Nat.pow_succ]; omega
theorem pow_le8 {K : Nat} (h : K ≤ 8) : 2 ^ K ≤ 256 := Nat.pow_le_pow_right (by omega) h
theorem z511 {K z : Nat} {xs : List TN} (hl : xs.length + 1 = 2 ^ (K + 1)) (hK : K ≤ 8) (hz : z < xs.length) : z < 511 := by
  have := pow_le8 hK
  rw [Nat.pow_succ] at hl
  omega
theorem lvl_K {K z : Nat} {xs : List TN} (hl : xs.length + 1 = 2 ^ (K + 1)) (hK : K ≤ 8) (hz : z < xs.length) : lvl (z : Int) ≤ K := by
  obtain ⟨_, h1, _⟩ := z_facts z (z511 hl hK hz)
  rcases Nat.lt_or_ge K (lvl (z : Int)) with h | h
  · exfalso
    have h2 : 2 ^ (K + 1) ≤ 2 ^ lvl (z : Int) := Nat.pow_le_pow_right (by omega) h
    have h3 : 2 ^ lvl (z : Int) - 1 ≤ z := by
      have := Nat.two_pow_pos (lvl (z : Int))
      generalize z / 2 ^ (lvl (z : Int) + 1) * 2 ^ (lvl (z : Int) + 1) = a at *
      omega
    omega
  · exact h
theorem odd_iff {z : Nat} (hz : z < 511) : z % 2 = 1 ↔ 1 ≤ lvl (z : Int) := by
  obtain ⟨_, h1, _⟩ := z_facts z hz
  rcases hk : lvl (z : Int) with _ | k
  · rw [hk] at h1
    simp at h1
    omega
  · rw [hk] at h1
    have e1 : z / 2 ^ (k + 1 + 1) * 2 ^ (k + 1 + 1) = 2 * (z / 2 ^ (k + 1 + 1) * 2 ^ (k + 1)) := by rw [Nat.pow_succ 2 (k + 1)]; rw [← Nat.mul_assoc]; omega
    have e2 : 2 ^ (k + 1) = 2 * 2 ^ k := by rw [Nat.pow_succ]; omega
    have e3 := Nat.two_pow_pos k
    rw [e1] at h1
    constructor
    · intro _; omega
    · intro _
      generalize z / 2 ^ (k + 1 + 1) * 2 ^ (k + 1) = a at *
      omega
theorem one_iff {K z : Nat} {xs : List TN} {i : Int} (hl : xs.length + 1 = 2 ^ (K + 1)) (hK : K ≤ 8) (hz : z < xs.length) (hodd : z % 2 = 1) :
    oneB xs (z : Int) i = true ↔ ∃ m : Nat, i = (m : Int) ∧ MemOk K xs z m := by
  have hlv := Sound.lv hl
  have h511 := z511 hl hK hz
  have hk1 := (odd_iff h511).1 hodd
  have hkK := lvl_K hl hK hz
  have h256 := pow_le8 hK
  have core : ∀ m : Nat, m < 2 ^ K → (oneB xs (z : Int) (m : Int) = true ↔ (z = nd m (lvl (z : Int)) ∧ kd xs (2 * m) = 1 ∧ ∀ t, 1 ≤ t → t < lvl (z : Int) → kd xs (nd m t) = 2 → (m : Int) ∈ um xs (nd m t))) := by
    intro m hm
    unfold oneB
    simp only [Bool.and_eq_true, decide_eq_true_eq]
    rw [above_iff h511, pres_nat (by rw [hlv]; exact hm), beq_iff_eq]
    have hp : z = nd m (lvl (z : Int)) → (pthB xs (z : Int) (m : Int) = true ↔ ∀ t, 1 ≤ t → t < lvl (z : Int) → kd xs (nd m t) = 2 → (m : Int) ∈ um xs (nd m t)) := by
      intro hzn
      have e : pthB xs (z : Int) (m : Int) = twB (goodB xs (m : Int)) (z : Int) (pathL (2 * (m : Int)) (lvN xs.length)) := rfl
      rw [e, hlv, pathL_nd hm hK]
      have e2 : (z : Int) = ((nd m (lvl (z : Int)) : Nat) : Int) := by rw [← hzn]
      rw [show twB (goodB xs (m : Int)) (z : Int) = twB (goodB xs (m : Int)) ((nd m (lvl (z : Int)) : Nat) : Int) by rw [← e2]]
      rw [tw_range (by omega) K 1 (lvl (z : Int)) (by omega) hk1 (by omega), List.all_eq_true]
      constructor
      · intro h t ht1 ht2 hk
        have := h (t - 1) (List.mem_range.2 (by omega))
        unfold goodB at this
        rw [show 1 + (t - 1) = t by omega, Int.toNat_natCast, hk] at this
        simpa using this
      · intro h t ht
        have ht' := List.mem_range.1 ht
        unfold goodB
        rw [Int.toNat_natCast]
        by_cases hk : kd xs (nd m (1 + t)) = 2
        · have := h (1 + t) (by omega) (by omega) hk
          rw [hk]; simpa using this
        · rw [show (kd xs (nd m (1 + t)) != 2) = true from bne_iff_ne.2 hk]; rfl
    constructor
    · rintro ⟨⟨a, b⟩, c⟩; exact ⟨a, b, (hp a).1 c⟩
    · rintro ⟨a, b, c⟩; exact ⟨⟨a, b⟩, (hp a).2 c⟩
  constructor
  · intro h
    have hp : pres xs i = true := by
      unfold oneB at h
      simp only [Bool.and_eq_true] at h
      exact h.1.2
    obtain ⟨p0, p1⟩ := pres_in hp
    obtain ⟨m, rfl⟩ := Int.eq_ofNat_of_zero_le p0
    have hm : m < 2 ^ K := by omega
    exact ⟨m, rfl, hm, (core m hm).1 h⟩
  · rintro ⟨m, rfl, hm, h⟩
    exact (core m hm).2 h
theorem chk_sound {xs : List TN} (h : chkB xs = true) (hw : WfT xs) : ∃ K, Sound K xs ∧ halfB xs = false := by
  obtain ⟨h1, h2, h3, h4⟩ := chk_full h
  obtain ⟨K, hK, hp⟩ := full_pow h1
  have hl : xs.length + 1 = 2 ^ (K + 1) := by rw [Nat.pow_succ, ← hp]; omega
  refine ⟨K, ⟨hl, hK, fun z x hx => ?_⟩, h3⟩
  have hz := (List.getElem?_eq_some_iff.1 hx).1
  have ho := h4 z hz
  unfold okAt at ho
  rw [hx] at ho
  replace ho : okB xs z x = true := ho
  by_cases hk2 : x.k = 2
  · obtain ⟨a, b, c, d, e⟩ := chk_par h hx hk2
    exact .inr (.inr ⟨a, hk2, b, c, d, fun i hi => (one_iff hl hK hz a).1 (e i hi)⟩)
  · unfold okB at ho
    split at ho
    · rename_i hk0
      simp only [Bool.and_eq_true, beq_iff_eq] at ho
      obtain ⟨o1, o2⟩ := ho
      obtain ⟨a, b, c, d, e⟩ := (orN_zero (hw z x hx)).1 o1
      have hu : x.u = [] := List.eq_nil_of_length_eq_zero (by omega)
      left
      obtain ⟨xk, xi, xe, xs', xh, xu⟩ := x
      simp only at a b c d e hu
      subst a; subst b; subst c; subst d; subst e; subst hu
      rfl
    · split at ho
      · rename_i hz2
        simp only [Bool.and_eq_true, beq_iff_eq] at ho
        exact .inr (.inl ⟨by omega, ho.1, List.eq_nil_of_length_eq_zero (by omega)⟩)
      · unfold parB at ho
        simp only [Bool.and_eq_true, beq_iff_eq] at ho
        exact absurd ho.1.1.1.1 hk2
theorem sound_chk {K : Nat} {xs : List TN} (h : Sound K xs) (hh : halfB xs = false) : chkB xs = true := by
  have hlv := Sound.lv h.len
  unfold chkB
  rw [hlv, pow_full h.le, hh, show (2 * ((2 ^ K : Nat) : Int) - 1 == (xs.length : Int)) = true by
    have := h.len
    rw [Nat.pow_succ] at this
    rw [beq_iff_eq]; omega]
  simp only [Bool.true_and, Bool.not_false, List.all_eq_true, List.mem_range]
  intro z hz
  unfold okAt
  have hx : xs[z]? = some (xs[z]'hz) := List.getElem?_eq_getElem hz
  rw [hx]
  show okB xs z (xs[z]'hz) = true
  have hn := h.all z _ hx
  generalize xs[z]'hz = x at *
  unfold okB
  rcases hn with rfl | ⟨a, b, c⟩ | ⟨a, b, c, d, e, f⟩
  · rw [if_pos (show zeroN.k = 0 from rfl)]; decide +kernel
  · rw [if_neg (by omega), if_pos (by omega), b, c]; rfl
  · rw [if_neg (by omega), if_neg (by omega)]
    unfold parB
    rw [b, c, d, (rise_iff x.u).2 e]
    simp only [beq_self_eq_true, Bool.true_and, List.all_eq_true]
    exact fun i hi => (one_iff h.len h.le hz a).2 (f i hi)
end Go.Proofs.YtimdohjlhbpmhaaDoor
