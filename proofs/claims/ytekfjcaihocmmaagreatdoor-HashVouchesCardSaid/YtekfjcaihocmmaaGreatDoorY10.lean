import Derived.Test.YtekfjcaihocmmaaGreatDoorY09
import Derived.Test.YtekfjcaihocmmaaGreatDoorY08
import Derived.Test.YtekfjcaihocmmaaGreatDoorY05
/- the plain law of Check: what the program asks of a tree is what the document asks. -/
namespace Go.Proofs.YtekfjcaihocmmaaGreatDoor
open Go.RowKit Go.KK Go.Shelf
set_option linter.unusedVariables false
set_option linter.unusedSimpArgs false

/-- The node above a leaf at a level. -/
def nd (i j : Nat) : Nat := (i / 2 ^ j) * 2 ^ (j + 1) + 2 ^ j - 1
theorem nd_facts : ((List.range 256).all fun i => (List.range 9).all fun j => decide (lvl (nd i j : Int) = j) && decide (nd i j ≤ 510) && (decide (j = 8) || decide (upV (nd i j : Int) = (nd i (j + 1) : Int)))) = true := by decide +kernel
theorem nd_is {i j : Nat} (hi : i < 256) (hj : j ≤ 8) : lvl (nd i j : Int) = j ∧ nd i j ≤ 510 ∧ (j < 8 → upV (nd i j : Int) = (nd i (j + 1) : Int)) := by
  have h := List.all_eq_true.1 (List.all_eq_true.1 nd_facts i (List.mem_range.2 hi)) j (List.mem_range.2 (by omega))
  simp only [Bool.and_eq_true, Bool.or_eq_true, decide_eq_true_eq] at h
  exact ⟨h.1.1, h.1.2, fun h8 => by rcases h.2 with h2 | h2; · omega
                                    · exact h2⟩
theorem z_facts : ∀ z : Nat, z < 511 → lvl (z : Int) ≤ 8 ∧ z = z / 2 ^ (lvl (z : Int) + 1) * 2 ^ (lvl (z : Int) + 1) + 2 ^ lvl (z : Int) - 1 ∧ lfA (z : Int) = ((z / 2 ^ (lvl (z : Int) + 1) * 2 ^ lvl (z : Int) : Nat) : Int) ∧ lfB (z : Int) = (((z / 2 ^ (lvl (z : Int) + 1) + 1) * 2 ^ lvl (z : Int) : Nat) : Int) := by decide +kernel
theorem nd0 (i : Nat) : nd i 0 = 2 * i := by unfold nd; simp; omega
/-- Who is above a leaf. -/
theorem above_iff {z i : Nat} (hz : z < 511) : (lfA (z : Int) ≤ (i : Int) ∧ (i : Int) < lfB (z : Int)) ↔ z = nd i (lvl (z : Int)) := by
  obtain ⟨_, h1, h2, h3⟩ := z_facts z hz
  generalize lvl (z : Int) = k at *
  rw [h2, h3]
  have hp : 0 < 2 ^ k := Nat.two_pow_pos k
  have hdiv : (z / 2 ^ (k + 1) * 2 ^ k ≤ i ∧ i < (z / 2 ^ (k + 1) + 1) * 2 ^ k) ↔ z / 2 ^ (k + 1) = i / 2 ^ k := by
    constructor
    · rintro ⟨a, b⟩
      have c1 := (Nat.le_div_iff_mul_le hp).2 a
      have c2 := (Nat.div_lt_iff_lt_mul hp).2 b
      omega
    · intro e
      rw [e]
      exact ⟨Nat.div_mul_le_self i _, Nat.lt_mul_of_div_lt (by omega) hp⟩
  constructor
  · rintro ⟨a, b⟩
    have := hdiv.1 ⟨by omega, by omega⟩
    unfold nd
    rw [← this]
    exact h1
  · intro e
    have hq : z / 2 ^ (k + 1) = i / 2 ^ k := by
      unfold nd at e
      have e3 : z / 2 ^ (k + 1) * 2 ^ (k + 1) = i / 2 ^ k * 2 ^ (k + 1) := by
        generalize z / 2 ^ (k + 1) * 2 ^ (k + 1) = u at *
        generalize i / 2 ^ k * 2 ^ (k + 1) = v at *
        omega
      exact Nat.eq_of_mul_eq_mul_right (Nat.two_pow_pos _) e3
    have := hdiv.2 hq
    omega
theorem leaf_ab {i : Nat} (hi : i < 256) : lvl ((2 * i : Nat) : Int) = 0 ∧ lfA ((2 * i : Nat) : Int) = i ∧ lfB ((2 * i : Nat) : Int) = (i : Int) + 1 := by
  have h0 := (nd_is hi (Nat.zero_le 8)).1
  rw [nd0] at h0
  obtain ⟨_, _, h2, h3⟩ := z_facts (2 * i) (by omega)
  rw [h0] at h2 h3
  refine ⟨h0, ?_, ?_⟩
  · rw [h2]; simp
  · rw [h3]; simp
theorem und_leaf {i z : Nat} (hi : i < 256) (hz : z < 511) : undB (2 * i) z = true ↔ z = nd i (lvl (z : Int)) := by
  obtain ⟨h0, h1, h2⟩ := leaf_ab hi
  unfold undB
  rw [h0, h1, h2]
  simp only [Bool.and_eq_true, decide_eq_true_eq, Nat.zero_le, and_true]
  rw [← above_iff hz]
  omega
theorem nest {p q a t i : Nat} (ha : 0 < a) (h1 : p * a ≤ i) (h2 : i < (p + 1) * a) (h3 : q * (a * t) ≤ i) (h4 : i < (q + 1) * (a * t)) : q * (a * t) ≤ p * a ∧ (p + 1) * a ≤ (q + 1) * (a * t) := by
  have e1 : q * (a * t) = q * t * a := by rw [Nat.mul_assoc, Nat.mul_comm a t]
  have e2 : (q + 1) * (a * t) = (q + 1) * t * a := by rw [Nat.mul_assoc, Nat.mul_comm a t]
  rw [e1] at h3 ⊢
  rw [e2] at h4 ⊢
  have f1 : q * t < p + 1 := Nat.lt_of_mul_lt_mul_right (a := a) (Nat.lt_of_le_of_lt h3 h2)
  have f2 : p < (q + 1) * t := Nat.lt_of_mul_lt_mul_right (a := a) (Nat.lt_of_le_of_lt h1 h4)
  exact ⟨Nat.mul_le_mul_right _ (by omega), Nat.mul_le_mul_right _ (by omega)⟩
theorem und_both {i j k : Nat} (hi : i < 256) (hj : j ≤ 8) (hk : k ≤ 8) : undB (nd i j) (nd i k) = true ↔ j ≤ k := by
  have a1 := nd_is hi hj
  have a2 := nd_is hi hk
  obtain ⟨_, _, b2, b3⟩ := z_facts (nd i j) (by omega)
  obtain ⟨_, _, c2, c3⟩ := z_facts (nd i k) (by omega)
  have d1 := (above_iff (i := i) (show nd i j < 511 by omega)).2 (by rw [a1.1])
  have d2 := (above_iff (i := i) (show nd i k < 511 by omega)).2 (by rw [a2.1])
  unfold undB
  rw [b2, b3] at d1
  rw [c2, c3] at d2
  rw [b2, b3, c2, c3]
  rw [a1.1] at d1 ⊢
  rw [a2.1] at d2 ⊢
  clear b2 b3 c2 c3 a1 a2
  simp only [Bool.and_eq_true, decide_eq_true_eq]
  generalize nd i j / 2 ^ (j + 1) = p at *
  generalize nd i k / 2 ^ (k + 1) = q at *
  constructor
  · exact fun h => h.2
  · intro h
    obtain ⟨t, rfl⟩ := Nat.exists_eq_add_of_le h
    rw [Nat.pow_add] at d2 ⊢
    have := nest (Nat.two_pow_pos j) (Int.ofNat_le.1 d1.1) (Int.ofNat_lt.1 d1.2) (Int.ofNat_le.1 d2.1) (Int.ofNat_lt.1 d2.2)
    exact ⟨⟨Int.ofNat_le.2 this.1, Int.ofNat_le.2 this.2⟩, h⟩
theorem nd_inj {i j k : Nat} (hi : i < 256) (hj : j ≤ 8) (hk : k ≤ 8) (h : nd i j = nd i k) : j = k := by
  have a1 := (nd_is hi hj).1
  have a2 := (nd_is hi hk).1
  rw [h] at a1
  omega
theorem nd_root {i K : Nat} (h : i < 2 ^ K) : nd i K = 2 ^ K - 1 := by
  unfold nd
  rw [Nat.div_eq_of_lt h]; simp
/-- The way up from a leaf. -/
theorem pathF_nd {i K : Nat} (hi : i < 2 ^ K) (hK : K ≤ 8) : ∀ (f j : Nat), j ≤ K → K - j < f → pathF f (nd i j : Int) ((2 ^ K : Nat) : Int) = (List.range (K - j)).map fun t => ((nd i (j + 1 + t) : Nat) : Int)
  | 0, _, _, h => by omega
  | f + 1, j, hj, h => by
    have hi256 : i < 256 := Nat.lt_of_lt_of_le hi (show 2 ^ K ≤ 256 from Nat.pow_le_pow_right (by omega) hK)
    have hp : 0 < 2 ^ K := Nat.two_pow_pos K
    rw [pathF]
    by_cases hjk : j = K
    · subst hjk
      rw [if_pos (by rw [nd_root hi]; omega), Nat.sub_self]; rfl
    · rw [if_neg (fun e => hjk (nd_inj hi256 (by omega) (by omega) (by rw [nd_root hi]; omega)))]
      rw [(nd_is hi256 (show j ≤ 8 by omega)).2.2 (by omega), pathF_nd hi hK f (j + 1) (by omega) (by omega)]
      rw [show K - j = (K - (j + 1)) + 1 by omega, List.range_succ_eq_map, List.map_cons, List.map_map]
      congr 1
      apply List.map_congr_left
      intro t _
      show ((nd i (j + 1 + 1 + t) : Nat) : Int) = ((nd i (j + 1 + (t + 1)) : Nat) : Int)
      rw [show j + 1 + 1 + t = j + 1 + (t + 1) by omega]
theorem pathL_nd {i K : Nat} (hi : i < 2 ^ K) (hK : K ≤ 8) : pathL (2 * (i : Int)) ((2 ^ K : Nat) : Int) = (List.range K).map fun t => ((nd i (1 + t) : Nat) : Int) := by
  have := pathF_nd hi hK 9 0 (Nat.zero_le _) (by omega)
  rw [nd0] at this
  rw [show (2 * (i : Int)) = ((2 * i : Nat) : Int) by omega]
  unfold pathL
  simpa using this
theorem tw_range {f : Int → Bool} {i : Nat} (hi : i < 256) : ∀ (m s k : Nat), s + m ≤ 9 → s ≤ k → k < s + m → twB f (nd i k : Int) ((List.range m).map fun t => ((nd i (s + t) : Nat) : Int)) = (List.range (k - s)).all fun t => f (nd i (s + t) : Int)
  | 0, _, _, _, _, h => by omega
  | m + 1, s, k, h1, h2, h3 => by
    rw [List.range_succ_eq_map, List.map_cons, List.map_map]
    by_cases hsk : s = k
    · subst hsk
      rw [Nat.sub_self, Nat.add_zero]
      exact tw_stop _ _ _
    · have hne : ¬ ((nd i (s + 0) : Nat) : Int) = (nd i k : Int) := fun e => hsk (nd_inj hi (by omega) (by omega) (by rw [Nat.add_zero] at e; omega))
      have hih := tw_range (f := f) hi m (s + 1) k (by omega) (by omega) (by omega)
      have hmap : (List.range m).map ((fun t => ((nd i (s + t) : Nat) : Int)) ∘ Nat.succ) = (List.range m).map fun t => ((nd i (s + 1 + t) : Nat) : Int) := by
        apply List.map_congr_left
        intro t _
        show ((nd i (s + (t + 1)) : Nat) : Int) = _
        rw [show s + (t + 1) = s + 1 + t by omega]
      rw [hmap]
      rw [show k - s = (k - (s + 1)) + 1 by omega, List.range_succ_eq_map, List.all_cons, List.all_map]
      have hall : ((List.range (k - (s + 1))).all ((fun t => f ((nd i (s + t) : Nat) : Int)) ∘ Nat.succ)) = (List.range (k - (s + 1))).all fun t => f ((nd i (s + 1 + t) : Nat) : Int) := by
        congr 1
        funext t
        show f ((nd i (s + (t + 1)) : Nat) : Int) = _
        rw [show s + (t + 1) = s + 1 + t by omega]
      rw [hall, ← hih]
      rcases hf : f ((nd i (s + 0) : Nat) : Int) with _ | _
      · rw [tw_no hne hf, Bool.false_and]
      · rw [tw_go hne hf, Bool.true_and]
end Go.Proofs.YtekfjcaihocmmaaGreatDoor

/- the plain law of Check, its end. -/
namespace Go.Proofs.YtekfjcaihocmmaaGreatDoor
open Go.RowKit Go.KK Go.Shelf
set_option linter.unusedVariables false
set_option linter.unusedSimpArgs false

/-- A number that an int can hold. -/
def W64 (a : Int) : Prop := -9223372036854775808 ≤ a ∧ a < 9223372036854775808
theorem ofInt_zero {a : Int} (h : W64 a) : BitVec.ofInt 64 a = 0#64 ↔ a = 0 := by
  constructor
  · intro e
    have h2 : (BitVec.ofInt 64 a).toInt = (0#64).toInt := by rw [e]
    rw [BitVec.toInt_ofInt] at h2
    obtain ⟨h0, h1⟩ := h
    have : a.bmod (2 ^ 64) = a := Int.bmod_eq_of_le (by omega) (by omega)
    rw [this] at h2
    simpa using h2
  · rintro rfl; rfl
theorem or_val (a b : Int) : bits .or .i64 a b = (BitVec.ofInt 64 a ||| BitVec.ofInt 64 b).toInt := by
  show IntKind.i64.wrap ((BitVec.ofInt 64 a ||| BitVec.ofInt 64 b).toNat : Int) = _
  rw [IntKind.wrap_i64, BitVec.toInt_eq_toNat_bmod]
  have hlt := (BitVec.ofInt 64 a ||| BitVec.ofInt 64 b).isLt
  generalize (BitVec.ofInt 64 a ||| BitVec.ofInt 64 b).toNat = n at *
  rw [Int.bmod_def]
  split <;> omega
theorem or_w (a b : Int) : W64 (bits .or .i64 a b) := by
  rw [or_val]
  exact ⟨BitVec.le_toInt _, BitVec.toInt_lt⟩
theorem or_zero {a b : Int} (ha : W64 a) (hb : W64 b) : bits .or .i64 a b = 0 ↔ a = 0 ∧ b = 0 := by
  rw [or_val]
  have : (BitVec.ofInt 64 a ||| BitVec.ofInt 64 b).toInt = 0 ↔ BitVec.ofInt 64 a ||| BitVec.ofInt 64 b = 0#64 := by
    constructor
    · intro h; exact BitVec.eq_of_toInt_eq (by rw [h]; rfl)
    · intro h; rw [h]; rfl
  rw [this, BitVec.or_eq_zero_iff, ofInt_zero ha, ofInt_zero hb]
/-- All numbers of a tree are numbers. -/
def WfT (xs : List TN) : Prop := ∀ (j : Nat) x, xs[j]? = some x → W64 x.k ∧ W64 x.i ∧ W64 x.e ∧ W64 x.s ∧ W64 x.h
theorem orN_zero {x : TN} (h : W64 x.k ∧ W64 x.i ∧ W64 x.e ∧ W64 x.s ∧ W64 x.h) : orN x.k x.i x.e x.s x.h = 0 ↔ x.k = 0 ∧ x.i = 0 ∧ x.e = 0 ∧ x.s = 0 ∧ x.h = 0 := by
  unfold orN
  rw [or_zero (or_w _ _) h.2.2.2.2, or_zero (or_w _ _) h.2.2.2.1, or_zero (or_w _ _) h.2.2.1, or_zero h.1 h.2.1]
  constructor
  · rintro ⟨⟨⟨⟨a, b⟩, c⟩, d⟩, e⟩; exact ⟨a, b, c, d, e⟩
  · rintro ⟨a, b, c, d, e⟩; exact ⟨⟨⟨⟨a, b⟩, c⟩, d⟩, e⟩

theorem compact_len (u : List Int) : (Lib.compact u).length = u.length ↔ ∀ j, j < u.length → Lib.keeps u.toArray j = true := by
  have key : ∀ m, (Lib.compactUpTo u.toArray m).length ≤ m ∧ ((Lib.compactUpTo u.toArray m).length = m → ∀ j, j < m → Lib.keeps u.toArray j = true) := by
    intro m
    induction m with
    | zero => exact ⟨by simp [Lib.compactUpTo], fun _ j hj => by omega⟩
    | succ m ih =>
      rw [Lib.compactUpTo_succ, List.length_append]
      rcases hk : Lib.keeps u.toArray m with _ | _
      · simp only [Bool.false_eq_true, if_false, List.length_nil, Nat.add_zero]
        exact ⟨by omega, fun h => by omega⟩
      · simp only [if_true, List.length_singleton]
        refine ⟨by omega, fun h j hj => ?_⟩
        by_cases hjm : j < m
        · exact ih.2 (by omega) j hjm
        · rw [show j = m by omega]; exact hk
  constructor
  · exact (key u.length).2
  · intro h; rw [Lib.compact_all u h]
theorem arr_get {u : List Int} {j : Nat} (h : j < u.length) : u.toArray[j]! = u[j] := by
  rw [getElem!_pos u.toArray j (by simpa using h)]; rfl
theorem rise_iff (u : List Int) : riseB u = true ↔ u.Pairwise (· < ·) := by
  have h1 : riseB u = true ↔ ∀ j (h : j + 1 < u.length), u[j] < u[j + 1] := by
    unfold riseB sortB
    rw [Bool.and_eq_true, Lib.downOK_iff, beq_iff_eq]
    constructor
    · rintro ⟨a, b⟩ j hj
      have a' := a j (by omega)
      have b' := (compact_len u).1 (by omega) (j + 1) hj
      unfold Lib.keeps at b'
      rw [arr_get hj, arr_get (by omega)] at a'
      rw [decide_eq_true_eq] at b'
      rcases b' with b' | b'
      · omega
      · rw [Nat.add_sub_cancel, arr_get hj, arr_get (by omega)] at b'
        simp only [decide_eq_false_iff_not] at a'
        omega
    · intro h
      refine ⟨fun j hj => ?_, ?_⟩
      · rw [arr_get (by omega), arr_get (by omega)]
        have := h j (by omega)
        simp only [decide_eq_false_iff_not]; omega
      · rw [(compact_len u).2 fun j hj => ?_]
        unfold Lib.keeps
        rw [decide_eq_true_eq]
        rcases j with _ | j
        · exact .inl rfl
        · right
          rw [Nat.add_sub_cancel, arr_get hj, arr_get (by omega)]
          have := h j hj
          omega
  rw [h1, List.pairwise_iff_getElem]
  constructor
  · intro h i j hi hj hij
    obtain ⟨t, rfl⟩ := Nat.exists_eq_add_of_lt hij
    induction t with
    | zero => exact h i hj
    | succ t ih =>
      have a := ih (by omega) (by omega)
      have b := h (i + t + 1) hj
      exact Int.lt_trans a b
  · intro h j hj
    exact h j (j + 1) (by omega) hj (by omega)
theorem rpar_iff (xs : List TN) (x : Nat) : ∀ (u : List Int) (last : Int), rparF xs x last u = true ↔ (∀ i ∈ u, last < i) ∧ u.Pairwise (· < ·) ∧ ∀ i ∈ u, i < lfB (x : Int) ∧ kd xs (2 * i).toNat = 1 ∧ midB xs x i = true
  | [], last => by simp [rparF]
  | i :: l, last => by
    rw [rparF]
    simp only [Bool.and_eq_true, decide_eq_true_eq, beq_iff_eq]
    rw [rpar_iff xs x l i, List.pairwise_cons]
    constructor
    · rintro ⟨⟨⟨⟨a, b⟩, c⟩, d⟩, e, f, g⟩
      refine ⟨fun y hy => ?_, ⟨e, f⟩, fun y hy => ?_⟩
      · rcases List.mem_cons.1 hy with rfl | hy
        · exact a
        · have := e y hy; omega
      · rcases List.mem_cons.1 hy with rfl | hy
        · exact ⟨b, c, d⟩
        · exact g y hy
    · rintro ⟨a, ⟨e, f⟩, g⟩
      obtain ⟨b, c, d⟩ := g i (by simp)
      exact ⟨⟨⟨⟨a i (by simp), b⟩, c⟩, d⟩, e, f, fun y hy => g y (by simp [hy])⟩
theorem nd_ge (i k : Nat) : 2 ^ k - 1 ≤ nd i k := by
  unfold nd
  generalize i / 2 ^ k * 2 ^ (k + 1) = v
  have := Nat.two_pow_pos k
  omega
/-- What stands between a leaf and a node above it: both ways of looking are one. -/
theorem mid_eq {xs : List TN} {K x i : Nat} (hK : K ≤ 8) (hn : xs.length + 1 = 2 * 2 ^ K) (hx : x < xs.length) (hodd : x % 2 = 1) (hi : i < 2 ^ K) (h1 : lfA (x : Int) ≤ (i : Int)) (h2 : (i : Int) < lfB (x : Int)) (hk : kd xs (2 * i) = 1) :
    midB xs x (i : Int) = pthB xs (x : Int) (i : Int) := by
  have hpK : 2 ^ K ≤ 256 := Nat.le_trans (Nat.pow_le_pow_right (by omega) hK) (by decide)
  have hi256 : i < 256 := by omega
  have hx511 : x < 511 := by omega
  have hxe := (above_iff hx511).1 ⟨h1, h2⟩
  have hx8 := (z_facts x hx511).1
  generalize hkx : lvl (x : Int) = kx at *
  have hk1 : 1 ≤ kx := by
    rcases Nat.eq_zero_or_pos kx with h0 | h0
    · subst h0; rw [nd0] at hxe; omega
    · exact h0
  have hkK : kx ≤ K := by
    rcases Nat.lt_or_ge K kx with hh | hh
    · have a := nd_ge i kx
      have b : 2 ^ (K + 1) ≤ 2 ^ kx := Nat.pow_le_pow_right (by omega) hh
      rw [Nat.pow_succ] at b
      omega
    · exact hh
  have hlv : lvN xs.length = 2 ^ K := by unfold lvN; omega
  have hp : pthB xs (x : Int) (i : Int) = (List.range (kx - 1)).all fun t => goodB xs i (nd i (1 + t) : Int) := by
    have e : pthB xs (x : Int) (i : Int) = twB (goodB xs i) (x : Int) (pathL (2 * (i : Int)) (lvN xs.length)) := rfl
    rw [e, hlv, pathL_nd hi hK, hxe]
    exact tw_range hi256 K 1 kx (by omega) hk1 (by omega)
  rw [hp, Bool.eq_iff_iff]
  unfold midB
  rw [List.all_eq_true, List.all_eq_true]
  have lt_n : ∀ t, t ≤ K → nd i t < xs.length := by
    intro t ht
    have a := und_leaf (z := nd i t) hi256 (by have := nd_is hi256 (show t ≤ 8 by omega); omega)
    have b := (above_iff (i := i) (z := nd i t) (by have := nd_is hi256 (show t ≤ 8 by omega); omega)).2 (by rw [(nd_is hi256 (show t ≤ 8 by omega)).1])
    obtain ⟨s, rfl⟩ := Nat.exists_eq_add_of_le ht
    have hd : i / 2 ^ t < 2 ^ s := by
      rw [Nat.div_lt_iff_lt_mul (Nat.two_pow_pos t), ← Nat.pow_add, Nat.add_comm s t]; exact hi
    have : (i / 2 ^ t + 1) * 2 ^ (t + 1) ≤ 2 ^ s * 2 ^ (t + 1) := Nat.mul_le_mul_right _ hd
    have e5 : 2 ^ s * 2 ^ (t + 1) = 2 * 2 ^ (t + s) := by rw [← Nat.pow_add, show s + (t + 1) = (t + s) + 1 by omega, Nat.pow_succ]; omega
    rw [e5, ← hn, Nat.add_mul, Nat.one_mul] at this
    have e : nd i t = i / 2 ^ t * 2 ^ (t + 1) + 2 ^ t - 1 := rfl
    rw [e]
    have h4 : 2 ^ (t + 1) = 2 * 2 ^ t := by rw [Nat.pow_succ]; omega
    have h5 := Nat.two_pow_pos t
    generalize i / 2 ^ t * 2 ^ (t + 1) = v at *
    omega
  have kdq : ∀ {z : Nat} {q : TN}, xs[z]? = some q → kd xs z = q.k ∧ um xs z = q.u := by
    intro z q hq; unfold kd um; rw [hq]; exact ⟨rfl, rfl⟩
  constructor
  · intro h t ht
    rw [List.mem_range] at ht
    have hz := lt_n (1 + t) (by omega)
    have hb := h (nd i (1 + t)) (List.mem_range.2 hz)
    have hq : xs[nd i (1 + t)]? = some xs[nd i (1 + t)] := List.getElem?_eq_getElem hz
    rw [bad_is hq] at hb
    have e1 : (((nd i (1 + t) : Nat) : Int) != (x : Int)) = true := bne_iff_ne.2 (fun e => by
      have := nd_inj hi256 (show 1 + t ≤ 8 by omega) (show kx ≤ 8 by omega) (by omega)
      omega)
    have hl8 := nd_is hi256 (show 1 + t ≤ 8 by omega)
    have e2 : undB (2 * (i : Int)).toNat (nd i (1 + t)) = true := by
      rw [show (2 * (i : Int)).toNat = 2 * i by omega]
      exact (und_leaf hi256 (by omega)).2 (by rw [hl8.1])
    have e3 : undB (nd i (1 + t)) x = true := by rw [hxe]; exact (und_both hi256 (by omega) (by omega)).2 (by omega)
    rw [e1, e2, e3] at hb
    refine good_is hq ?_
    unfold inTB at hb
    revert hb
    unfold bne
    cases ((xs[nd i (1 + t)]).k == 2) <;> cases ((xs[nd i (1 + t)]).u.contains (i : Int)) <;> simp
  · intro h z hz
    rw [List.mem_range] at hz
    have hq : xs[z]? = some xs[z] := List.getElem?_eq_getElem hz
    rcases hb : badAt xs x (i : Int) z with _ | _
    · rfl
    · exfalso
      rw [bad_is hq] at hb
      simp only [Bool.and_eq_true, beq_iff_eq, bne_iff_ne, ne_eq, Bool.not_eq_true'] at hb
      obtain ⟨⟨⟨⟨b1, b2⟩, b3⟩, b4⟩, b5⟩ := hb
      rw [show (2 * (i : Int)).toNat = 2 * i by omega] at b3
      have hze := (und_leaf hi256 (by omega)).1 b3
      have hz8 := (z_facts z (by omega)).1
      generalize hlz : lvl (z : Int) = lz at *
      rw [hze, hxe] at b4
      have hle := (und_both hi256 hz8 (by omega)).1 b4
      have hne : lz ≠ kx := fun e => b2 (by rw [hze, hxe, e])
      have h0 : lz ≠ 0 := fun e => by
        rw [e, nd0] at hze
        have := (kdq hq).1
        rw [b1, hze, hk] at this
        omega
      have hg := h (lz - 1) (List.mem_range.2 (by omega))
      rw [show 1 + (lz - 1) = lz by omega, ← hze] at hg
      have := good_is (z := (i : Int)) hq rfl
      rw [this, b1] at hg
      unfold inTB at b5
      rw [b5] at hg
      cases hg
end Go.Proofs.YtekfjcaihocmmaaGreatDoor

/- Check, both ways: one answer. -/
namespace Go.Proofs.YtekfjcaihocmmaaGreatDoor
open Go.RowKit Go.KK Go.Shelf
set_option linter.unusedVariables false
set_option linter.unusedSimpArgs false

theorem pres_nat {xs : List TN} {j : Nat} (h : j < lvN xs.length) : pres xs (j : Int) = (kd xs (2 * j) == 1) := by
  unfold pres
  rw [show (2 * (j : Int)).toNat = 2 * j by omega, decide_eq_true (show (0 : Int) ≤ (j : Int) by omega), decide_eq_true (show (j : Int) < (lvN xs.length : Int) by omega)]
  rfl
theorem half_some (xs : List TN) : halfB xs = !someB xs (lvN xs.length / 2) (lvN xs.length) := by
  rw [Bool.eq_iff_iff]
  unfold halfB someB
  rw [List.all_eq_true, Bool.not_eq_true', List.any_eq_false]
  constructor
  · intro h j hj hh
    have hj' := List.mem_range.1 hj
    simp only [Bool.and_eq_true, decide_eq_true_eq] at hh
    have := h j hj
    rw [decide_eq_false (show ¬ j < lvN xs.length / 2 by omega), pres_nat hj', hh.2] at this
    cases this
  · intro h j hj
    have hj' := List.mem_range.1 hj
    by_cases hl : j < lvN xs.length / 2
    · rw [decide_eq_true hl]; rfl
    · have := h j hj
      rw [decide_eq_true (show lvN xs.length / 2 ≤ j by omega), Bool.true_and] at this
      rw [pres_nat hj', Bool.eq_false_iff.2 this, Bool.not_false, Bool.or_true]
theorem some_mono {xs : List TN} {a b : Nat} (h : someB xs a b = true) : someB xs 0 b = true := by
  unfold someB at h ⊢
  rw [List.any_eq_true] at h ⊢
  obtain ⟨j, hj, hh⟩ := h
  simp only [Bool.and_eq_true, decide_eq_true_eq] at hh
  exact ⟨j, hj, by rw [hh.2]; simp⟩
theorem one_eq {xs : List TN} {x : Nat} (hf : fullN (lvN xs.length : Int) = true) (hn : 2 * (lvN xs.length : Int) - 1 = xs.length) (hx : x < xs.length) (hodd : x % 2 = 1) (i : Int) (h0 : lfA (x : Int) ≤ i) :
    oneB xs (x : Int) i = (decide (i < lfB (x : Int)) && (kd xs (2 * i).toNat == 1) && midB xs x i) := by
  have hN := fullN_le hf
  have hle := lf_le hf (show x < 2 * lvN xs.length - 1 by omega)
  have hi0 : 0 ≤ i := by omega
  obtain ⟨m, rfl⟩ := Int.eq_ofNat_of_zero_le hi0
  unfold oneB
  rw [decide_eq_true h0, Bool.true_and, show (2 * (m : Int)).toNat = 2 * m by omega]
  by_cases h1 : (m : Int) < lfB (x : Int)
  · rw [decide_eq_true h1, Bool.true_and, Bool.true_and, pres_nat (by omega)]
    rcases hk : (kd xs (2 * m) == 1) with _ | _
    · rfl
    · rw [Bool.true_and, Bool.true_and]
      obtain ⟨K, hK, hp⟩ := full_pow hf
      exact (mid_eq hK (by rw [← hp]; omega) hx hodd (by rw [← hp]; omega) h0 h1 (beq_iff_eq.1 hk)).symm
  · rw [decide_eq_false h1]; rfl
theorem par_eq {xs : List TN} {x : Nat} (hf : fullN (lvN xs.length : Int) = true) (hn : 2 * (lvN xs.length : Int) - 1 = xs.length) (hx : x < xs.length) (hodd : x % 2 = 1) (u : List Int) :
    (riseB u && u.all (oneB xs (x : Int))) = rparF xs x (lfA (x : Int) - 1) u := by
  rw [Bool.eq_iff_iff, Bool.and_eq_true, rise_iff, rpar_iff, List.all_eq_true]
  constructor
  · rintro ⟨a, b⟩
    have lo : ∀ i ∈ u, lfA (x : Int) ≤ i := fun i hi => by
      have := b i hi
      unfold oneB at this
      simp only [Bool.and_eq_true, decide_eq_true_eq] at this
      exact this.1.1.1
    refine ⟨fun i hi => by have := lo i hi; omega, a, fun i hi => ?_⟩
    have := b i hi
    rw [one_eq hf hn hx hodd i (lo i hi)] at this
    simp only [Bool.and_eq_true, decide_eq_true_eq, beq_iff_eq] at this
    exact ⟨this.1.1, this.1.2, this.2⟩
  · rintro ⟨a, b, c⟩
    refine ⟨b, fun i hi => ?_⟩
    obtain ⟨c1, c2, c3⟩ := c i hi
    rw [one_eq hf hn hx hodd i (by have := a i hi; omega)]
    simp only [Bool.and_eq_true, decide_eq_true_eq, beq_iff_eq]
    exact ⟨⟨c1, c2⟩, c3⟩
theorem at_eq {xs : List TN} {x : Nat} (hw : WfT xs) (hf : fullN (lvN xs.length : Int) = true) (hn : 2 * (lvN xs.length : Int) - 1 = xs.length) (hx : x < xs.length) : okAt xs x = rnodeAt xs x := by
  have hq : xs[x]? = some xs[x] := List.getElem?_eq_getElem hx
  unfold okAt rnodeAt
  rw [hq]
  have hwf := hw x _ hq
  generalize xs[x] = y at *
  show okB xs x y = rnodeB xs x y
  unfold okB rnodeB
  by_cases h0 : y.k = 0
  · rw [if_pos h0, if_pos h0]
    unfold zerB
    rw [Bool.eq_iff_iff]
    simp only [Bool.and_eq_true, beq_iff_eq]
    rw [orN_zero hwf]
    constructor
    · rintro ⟨⟨a, b, c, d, e⟩, f⟩; exact ⟨⟨⟨⟨⟨a, b⟩, c⟩, d⟩, e⟩, f⟩
    · rintro ⟨⟨⟨⟨⟨a, b⟩, c⟩, d⟩, e⟩, f⟩; exact ⟨⟨a, b, c, d, e⟩, f⟩
  · rw [if_neg h0, if_neg h0]
    by_cases h2 : (x : Int) % 2 = 0
    · rw [if_pos h2, if_pos h2]; rfl
    · rw [if_neg h2, if_neg h2]
      unfold parB
      rw [← par_eq hf hn hx (by omega) y.u]
      simp only [Bool.and_assoc]
theorem rchk_any (A : Option Addr) (n c : Nat) (xs : List TN) (w : World) (ht : Tr w A n c xs) (hnm : n ≤ 600) (hu : Shorts xs) (hw : WfT xs) :
    Calls Tryz.prog 24 #[.slice A n c] w fun e w' => e = .returned (.int .i64 (chkE xs)) ∧ Below w.heap.size w w' := by
  have hl := ht.len
  by_cases h0 : rlv n = 0
  · have hc : chkE xs = 1 := by
      unfold chkE chkB
      rw [hl]
      unfold rlv at h0
      split at h0
      · rename_i hh
        simp only [Bool.and_eq_true] at hh
        have := fullN_le hh.1
        omega
      · rename_i hh
        rw [Bool.eq_false_iff.2 hh]; rfl
    rw [hc]; exact rcheck_no A n c xs w ht hnm (.inl h0)
  · obtain ⟨hf, hn, hr⟩ := rlv_some h0
    rcases hs : someB xs (lvN n / 2) (lvN n) with _ | _
    · have hh : halfB xs = true := by rw [half_some, hl, hs]; rfl
      have hc : chkE xs = 1 := by unfold chkE chkB; rw [hh]; simp
      rw [hc]
      refine rcheck_no A n c xs w ht hnm ?_
      rcases hs0 : someB xs 0 (lvN n) with _ | _
      · exact .inr (.inl ⟨h0, rfl⟩)
      · refine .inr (.inr ⟨h0, rfl, ?_, hs⟩)
        rcases Nat.lt_or_ge 1 (lvN n) with h | h
        · exact h
        · have h1 : lvN n = 1 := by have := fullN_le hf; omega
          rw [h1] at hs hs0
          rw [show (1 : Nat) / 2 = 0 from rfl, hs0] at hs
          cases hs
    · have hh : halfB xs = false := by rw [half_some, hl, hs]; rfl
      have hc : chkE xs = rallR xs := by
        unfold chkE chkB rallR
        rw [hl, hf, hh, hn]
        have e : (List.range n).all (okAt xs) = (List.range n).all (rnodeAt xs) := by
          rw [Bool.eq_iff_iff, List.all_eq_true, List.all_eq_true]
          constructor
          · intro h j hj; rw [← at_eq hw (by rw [hl]; exact hf) (by rw [hl]; exact hn) (by rw [hl]; exact List.mem_range.1 hj)]; exact h j hj
          · intro h j hj; rw [at_eq hw (by rw [hl]; exact hf) (by rw [hl]; exact hn) (by rw [hl]; exact List.mem_range.1 hj)]; exact h j hj
        rw [e]
        simp
      rw [hc]
      exact rcheck_go A n c xs w ht hnm hu h0 (some_mono hs) (.inr hs)
end Go.Proofs.YtekfjcaihocmmaaGreatDoor

/- hashes: law 09's two, few; the document's Terms. -/
namespace Go.Proofs.YtekfjcaihocmmaaGreatDoor
open Go.RowKit Go.KK Go.Shelf Go.Maps
set_option linter.unusedVariables false
set_option linter.unusedSimpArgs false

set_option maxHeartbeats 2000000 in
theorem two9_any (w : World) (hT : Tb w.heap.size w) : Calls Tryz.prog 25 #[] w (TwoS w) := by
  have HT := hid hT
  clear hT
  go_enter Tryz.func25, Tryz.ntmps25
  go_wp2_with fail
  refine (new_any _).mono ?_
  rintro e1 w1 ⟨Z1, sa, rfl, a1, z1, b1⟩
  go_wp2_with fail
  refine (rnew_any _).mono ?_
  rintro e2 w2 ⟨Z2, sb, rfl, a2, z2, b2⟩
  have HI := hid (show Tw w w2 sa sb Z1 Z2 (atoms 0) from ⟨a1.ext b2, a2, fun b h1 h2 => by have := a1.zlt b h1; have := z2 b h2; omega, z1, fun b h => Nat.le_trans b1.size (z2 b h), b1.trans (b2.mono b1.size)⟩)
  clear a2 z2 b2 a1 z1 b1
  go_wp2_with fail
  go_loopw [7] (fun i wr => ∃ (j : Nat) (Z Z' : Nat → Prop), i = .int .i64 j ∧ j ≤ 10 ∧ Tw w wr sa sb Z Z' (atoms j)) (fun i _ => 10 - (intOf i).toNat)
  case atStart => exact ⟨0, Z1, Z2, rfl, by omega, HI.out⟩
  case round =>
    clear HI
    obtain ⟨j, Z, Z', hi, hj, hI⟩ := hrel
    subst hi
    have HJ := hid hI
    clear hI
    by_cases hlt : j < 10
    · have hj64 : I64 (j : Int) := ⟨by omega, by omega⟩
      have HST := hid (atoms_step (n := j) (by omega))
      have HZB := hid HJ.out.zb
      have hlt' : (j : Int) < 10 := by omega
      go_wp2_with fail
      refine (mke_any Z sa _ w.heap.size _ (atN (j : Int)) none 0 HJ.out.a (SlA.nil _ _) (HT.out.on HJ.out.bl) HJ.out.bl.size (ndI_at hj64)).mono ?_
      rintro e3 w3 ⟨rfl, s3⟩
      obtain ⟨Z3, a3, q3, d3, z3, -, -, b3⟩ := HJ.out.mkA s3
      have A3 := hid a3; have Q3 := hid q3; have D3 := hid d3; have ZZ3 := hid z3; have B3 := hid b3
      clear a3 q3 d3 z3 b3 s3 HJ
      go_wp2_with fail
      refine (ratom_any Z' sb _ _ (j : Int) Q3.out hj64).mono ?_
      rintro e4 w4 ⟨rfl, s4⟩
      obtain ⟨Z4, t4, -, -⟩ := Tw.mkB A3.out Q3.out D3.out ZZ3.out HZB.out B3.out s4
      rw [HST.out] at t4
      have T4 := hid t4
      clear t4 s4 A3 Q3 D3 ZZ3 B3 HZB
      go_wp2_with fail
      go_roundw
      case rel => exact ⟨j + 1, Z3, Z4, by go_num, by omega, T4.out⟩
      case measure => simp [intOf]; omega
    · have : j = 10 := by omega
      subst this
      go_wp2_with fail
      go_ret2
      exact ⟨sa, sb, Z, Z', rfl, HJ.out⟩
/-- A tree is small. -/
def few9 (xs : List TN) : Bool := decide (xs.length ≤ 70) && xs.all fun x => decide (x.u.length ≤ 40)
/-- A value that reads as a tree. -/
def TrW9 (w : World) (v : Value) (xs : List TN) : Prop := ∃ A n c, v = .slice A n c ∧ Tr w A n c xs
theorem TrW9.ext {w w' : World} {v : Value} {xs : List TN} (h : TrW9 w v xs) (hb : Below w.heap.size w w') : TrW9 w' v xs := by
  obtain ⟨A, n, c, e, ht⟩ := h
  exact ⟨A, n, c, e, ht.ext hb⟩
set_option maxHeartbeats 1000000 in
theorem lfew9_any (A : Option Addr) (m c : Nat) (vs : List Value) (ts : List (List TN)) (w : World) (h : SlA w 1 A m c vs) (hts : ts.length = m) (hm : m ≤ 10) (hv : ∀ (j : Nat) v xs, vs[j]? = some v → ts[j]? = some xs → TrW9 w v xs) :
    Calls Tryz.prog 23 #[.slice A m c] w fun e w' => e = .returned (.bool (ts.all few9)) ∧ Below w.heap.size w w' := by
  have H := hid h; have HT := hid hts; have HV := hid hv
  have HL := hid h.len
  clear h hts hv
  go_enter Tryz.func23, Tryz.ntmps23
  go_wp2
  go_loopw [9, 2] (fun i _ wr => ∃ j : Nat, i = .int .i64 j ∧ j ≤ m ∧ Hid (∀ k xs, k < j → ts[k]? = some xs → few9 xs = true) ∧ Below w.heap.size w wr) (fun i _ _ => m - (intOf i).toNat)
  case atStart => exact ⟨0, rfl, by omega, hid (fun k _ hk => by omega), Below.refl _ _⟩
  case round =>
    obtain ⟨j, hi, hj, HJ, hbr⟩ := hrel
    subst hi
    have HB := hid hbr; clear hbr
    by_cases hlt : j < m
    · obtain ⟨b, o, v, rfl, hu, hc⟩ := (H.out.ext HB.out).elem hlt
      have hx : ts[j]? = some (ts[j]'(by rw [HT.out]; exact hlt)) := List.getElem?_eq_getElem _
      generalize ts[j]'(by rw [HT.out]; exact hlt) = xs at hx
      obtain ⟨A2, n2, c2, rfl, htr⟩ := (HV.out j v xs hu hx).ext HB.out
      have HX := hid hx
      have hlen := htr.len
      have hnc := htr.nc
      have hmx : n2 ≤ 9223372036854775807 := by have := hnc.2; have := hnc.1; unfold maxLen at *; omega
      have HUU := hid hu
      have HLEN := hid hlen
      have hzr := HB.out.size
      clear hx hu htr hlen hnc
      have hno : few9 xs = false → ts.all few9 = false := fun h => by
        rcases hh : ts.all few9 with _ | _
        · rfl
        · have := List.all_eq_true.1 hh xs (List.mem_of_getElem? HX.out)
          rw [h] at this; cases this
      have HNO := hid hno
      clear hno
      by_cases h70 : n2 ≤ 70
      · go_wp2
        obtain ⟨wo, rfl⟩ : ∃ wo : World, wo = wr := ⟨_, rfl⟩
        go_loopw [18, 2] (fun i _ w2 => ∃ k : Nat, i = .int .i64 k ∧ k ≤ n2 ∧ Hid (∀ t x, t < k → xs[t]? = some x → x.u.length ≤ 40) ∧ Below w.heap.size w w2) (fun i _ _ => n2 - (intOf i).toNat)
        case atStart => exact ⟨0, rfl, by omega, hid (fun k _ hk => by omega), HB.out⟩
        case round =>
          obtain ⟨k, hi, hk, HK, hb2⟩ := hrel
          subst hi
          have HB2 := hid hb2; clear hb2
          have HTV := hid ((HV.out j _ xs HUU.out HX.out).ext HB2.out)
          by_cases hkn : k < n2
          · have htr2 : Tr wr A2 n2 c2 xs := by
              obtain ⟨A3, n3, c3, e, ht3⟩ := HTV.out
              injection e with e1 e2 e3
              subst e1; subst e2; subst e3
              exact ht3
            obtain ⟨b1, o1, x, A4, c4, rfl, hx, d0, d1, d2, d3, d4, d5, hsx⟩ := htr2.at hkn
            have hxm := hsx.cm
            have hxn := hsx.nc
            have hxl : x.u.length ≤ 9223372036854775807 := by unfold maxLen at hxm; omega
            have HXX := hid hx
            have hz2 := HB2.out.size
            clear hx hsx hxm hxn htr2
            by_cases h40 : x.u.length ≤ 40
            · go_wp2
              go_roundw
              case rel => exact ⟨k + 1, by go_num, by omega, hid (fun t y ht hy => by
                by_cases htk : t < k
                · exact HK.out t y htk hy
                · rw [show t = k by omega, HXX.out] at hy
                  injection hy with hy
                  rw [← hy]; exact h40), HB2.out.alloc hz2 _⟩
              case measure => simp [intOf]; omega
            · have HF := hid (HNO.out (by
                unfold few9
                rcases hh : xs.all (fun x => decide (x.u.length ≤ 40)) with _ | _
                · rw [Bool.and_false]
                · have := List.all_eq_true.1 hh x (List.mem_of_getElem? HXX.out)
                  exact absurd (of_decide_eq_true this) h40))
              go_wp2
              go_ret
              exact ⟨by rw [HF.out]; rfl, HB2.out.alloc hz2 _⟩
          · have HF := hid (show few9 xs = true by
              unfold few9
              rw [decide_eq_true (by rw [HLEN.out]; exact h70), Bool.true_and, List.all_eq_true]
              intro x hx
              obtain ⟨t, ht, e⟩ := List.mem_iff_getElem.1 hx
              exact decide_eq_true (HK.out t x (by have := HLEN.out; omega) (by rw [← e]; exact List.getElem?_eq_getElem ht)))
            go_wp2
            go_roundw
            case rel => exact ⟨j + 1, by go_num, by omega, hid (fun t y ht hy => by
              by_cases htj : t < j
              · exact HJ.out t y htj hy
              · rw [show t = j by omega, HX.out] at hy
                injection hy with hy
                rw [← hy]; exact HF.out), HB2.out⟩
            case measure => simp [intOf]; omega
      · have HF := hid (HNO.out (by unfold few9; rw [decide_eq_false (by rw [HLEN.out]; exact h70)]; rfl))
        go_wp2
        go_ret
        exact ⟨by rw [HF.out]; rfl, HB.out⟩
    · have HF := hid (show ts.all few9 = true from List.all_eq_true.2 fun xs hx => by
        obtain ⟨t, ht, e⟩ := List.mem_iff_getElem.1 hx
        exact HJ.out t xs (by have := HT.out; omega) (by rw [← e]; exact List.getElem?_eq_getElem ht))
      go_wp2
      go_ret
      exact ⟨by rw [HF.out]; rfl, HB.out⟩
/-- What a node names. -/
def rowN (n : TN) : List Int := [n.e, n.h] ++ if n.k = 1 then [n.i, n.s] else []
theorem thn_row (X : List ND) (n : TN) : thnB X n = (rowN n).any fun x => n.k != 0 && !hasB X x := by
  unfold thnB rowN
  by_cases h1 : n.k = 1
  · rw [if_pos h1, h1]; simp [Bool.or_assoc]
  · rw [if_neg h1, beq_eq_false_iff_ne.2 h1, Bool.false_and, Bool.or_false, List.append_nil]
    rcases (n.k != 0) with _ | _ <;> simp
theorem rlen9_any (st : Nat) (xs : List ND) (w : World) (h : ArV w 122 st xs) :
    Calls Tryz.prog 69 #[.pointer (some ⟨st, 0, none⟩)] w fun e w' => e = .returned (.int .i64 xs.length) ∧ w' = w := by
  obtain ⟨A, c, m, h0, h1, hn⟩ := h.parts
  clear hn h
  go_enter Tryz.func69, Tryz.ntmps69
  go_wp2
  go_ret
  exact ⟨rfl, rfl⟩
theorem any_at {α : Type} {p : α → Bool} {l : List α} {j : Nat} {x : α} (h : l[j]? = some x) : (l.drop j).any p = (p x || (l.drop (j + 1)).any p) := by
  rw [drop_get h, List.any_cons]
set_option maxHeartbeats 2000000 in
set_option maxRecDepth 100000 in
theorem rterms9_any (st : Nat) (X : List ND) (A : Option Addr) (n c : Nat) (xs : List TN) (w : World) (h : ArV w 122 st X) (ht : Tr w A n c xs) (hnm : n ≤ 600) (hu : Shorts xs) (hw : WfT xs) :
    Calls Tryz.prog 26 #[.pointer (some ⟨st, 0, none⟩), .slice A n c] w fun e w' => e = .returned (.bool (trmB X xs)) ∧ Below w.heap.size w w' := by
  have H := hid h; have HS := hid ht; have HL := hid ht.len
  have HC := hid (rchk_any A n c xs w ht hnm hu hw)
  have HE := hid (show trmB X xs = (chkB xs && !xs.any (thnB X)) from rfl)
  clear h ht hu hw
  rcases hc : chkB xs with _ | _
  · have he : chkE xs = 1 := by unfold chkE; rw [hc]; rfl
    rw [he] at HC
    rw [hc] at HE
    clear hc he
    go_enter Tryz.func26, Tryz.ntmps26
    go_wp2_with fail
    refine HC.out.mono ?_
    rintro e w1 ⟨rfl, b1⟩
    have B1 := hid b1
    clear b1
    go_wp2_with fail
    go_ret
    exact ⟨by rw [HE.out]; rfl, B1.out⟩
  have he : chkE xs = 0 := by unfold chkE; rw [hc]; rfl
  rw [he] at HC
  rw [hc, Bool.true_and] at HE
  clear hc he
  obtain ⟨i0, hi, hz0, hz1, hz2⟩ := info_parts Tryz.infoInt
  go_enter Tryz.func26, Tryz.ntmps26
  go_wp2_with fail
  refine HC.out.mono ?_
  rintro e w1 ⟨rfl, b1⟩
  have B1 := hid b1
  clear b1 HC
  go_wp2_with fail
  go_loopw [15] (fun i wr => ∃ j : Nat, i = .int .i64 j ∧ j ≤ n ∧ Hid (xs.any (thnB X) = (xs.drop j).any (thnB X)) ∧ Hid (Below w.heap.size w wr)) (fun i _ => n - (intOf i).toNat)
  case atStart => exact ⟨0, rfl, by omega, hid rfl, B1⟩
  case round =>
    clear B1
    obtain ⟨j, hij, hj, HJ, HB⟩ := hrel
    subst hij
    by_cases hlt : j < n
    · obtain ⟨b, o, x, A2, c2, rfl, hx, d0, d1, d2, d3, d4, d5, hsx⟩ := (HS.out.ext HB.out).at hlt
      have hlt' : (j : Int) < (n : Int) := by omega
      have HD := hid (any_at (p := thnB X) hx)
      clear hx hsx
      go_upto_region 6 with fail
      obtain ⟨bx, hbx⟩ : ∃ bx, bx = wr.heap.size := ⟨_, rfl⟩
      have HP := hid (show Below wr.heap.size wr (wr.alloc (.cells #[.int .i64 x.k, .int .i64 x.i, .int .i64 x.e, .int .i64 x.s, .int .i64 x.h, .slice A2 x.u.length c2] 37)) ∧ HasO (.cells #[.int .i64 x.k, .int .i64 x.i, .int .i64 x.e, .int .i64 x.s, .int .i64 x.h, .slice A2 x.u.length c2] 37 (0, 0)) bx (wr.alloc (.cells #[.int .i64 x.k, .int .i64 x.i, .int .i64 x.e, .int .i64 x.s, .int .i64 x.h, .slice A2 x.u.length c2] 37)) from ⟨(Below.refl _ _).alloc (Nat.le_refl _) _, by rw [hbx]; exact HasO.new _ _⟩)
      rw [← hbx]
      clear hbx d0 d1 d2 d3 d4 d5
      refine forget (R := fun V => Below wr.heap.size wr V ∧ HasO (.cells #[.int .i64 x.k, .int .i64 x.i, .int .i64 x.e, .int .i64 x.s, .int .i64 x.h, .slice A2 x.u.length c2] 37 (0, 0)) bx V) ?_ HP.out
      clear HP
      rintro V1 ⟨bv, ho⟩
      have HV := hid (HB.out.trans (bv.mono HB.out.size))
      have HXC := hid (fun (U : World) (hb : Below V1.heap.size V1 U) => (show U.cell? ⟨bx, 0, none⟩ = some (.int .i64 x.k) ∧ U.cell? ⟨bx, 1, none⟩ = some (.int .i64 x.i) ∧ U.cell? ⟨bx, 2, none⟩ = some (.int .i64 x.e) ∧ U.cell? ⟨bx, 3, none⟩ = some (.int .i64 x.s) ∧ U.cell? ⟨bx, 4, none⟩ = some (.int .i64 x.h) from by
        have h := ho.bel hb
        refine ⟨?_, ?_, ?_, ?_, ?_⟩ <;> (rw [cell_of_row _ bx _ _ _ (0, 0) h]; rfl)))
      clear bv ho
      obtain ⟨d0, d1, d2, d3, d4⟩ := HXC.out V1 (Below.refl _ _)
      have S2 := hid (show Below V1.heap.size V1 (V1.alloc (.cells #[.int .i64 x.e, .int .i64 x.h] 3)) from (Below.refl _ _).alloc (Nat.le_refl _) _)
      obtain ⟨e0, e1, -, e3, -⟩ := HXC.out _ S2.out
      go_upto_if 26 with fail
      go_cut [7] (fun v U => ∃ A3 m3 c3, v = .slice A3 m3 c3 ∧ m3 ≤ 4 ∧ SlA U 1 A3 m3 c3 ((rowN x).map (Value.int .i64)) ∧ Below V1.heap.size V1 U)
      case first =>
        have HL2 := hid (show SlA (V1.alloc (.cells #[.int .i64 x.e, .int .i64 x.h] 3)) 1 (some ⟨V1.heap.size, 0, none⟩) 2 2 (([x.e, x.h] : List Int).map (Value.int .i64)) from (SlA.of_own (World.ownsRow_lit (e := 3) (base := 0) (size := 1) V1 #[.int .i64 x.e, .int .i64 x.h] 2 (Nat.zero_le _) (by unfold maxLen; omega) rfl)).2)
        by_cases h1 : x.k = 1
        · have HRN := hid (show rowN x = [x.e, x.h] ++ [x.i, x.s] from by unfold rowN; rw [if_pos h1])
          have hb1 : (x.k == 1) = true := by rw [h1]; rfl
          have OW := hid (show ((V1.alloc (.cells #[.int .i64 x.e, .int .i64 x.h] 3)).alloc (.cells #[.int .i64 x.i, .int .i64 x.s] 3)).ownsRow V1.heap.size 3 1 (.slice (some ⟨V1.heap.size, 0, none⟩) 2 2) 2 [.int .i64 x.e, .int .i64 x.h] from (World.ownsRow_lit (e := 3) (base := V1.heap.size) (size := 1) V1 #[.int .i64 x.e, .int .i64 x.h] 2 (Nat.le_refl _) (by unfold maxLen; omega) rfl).alloc _)
          have LT := hid (show SlA ((V1.alloc (.cells #[.int .i64 x.e, .int .i64 x.h] 3)).alloc (.cells #[.int .i64 x.i, .int .i64 x.s] 3)) 1 (some ⟨V1.heap.size + 1, 0, none⟩) 2 2 [.int .i64 x.i, .int .i64 x.s] from by
            have h := (SlA.of_own (World.ownsRow_lit (e := 3) (base := 0) (size := 1) (V1.alloc (.cells #[.int .i64 x.e, .int .i64 x.h] 3)) #[.int .i64 x.i, .int .i64 x.s] 2 (Nat.zero_le _) (by unfold maxLen; omega) rfl)).2
            rw [show (V1.alloc (.cells #[.int .i64 x.e, .int .i64 x.h] 3)).heap.size = V1.heap.size + 1 from by simp] at h
            exact h)
          have B4 := hid (S2.out.alloc S2.out.size (.cells #[.int .i64 x.i, .int .i64 x.s] 3))
          have hsz := B4.out.size
          clear h1
          go_wp2_with (first
            | (at_builtin; refine wpList_append_sl _ rfl _ _ 30 rfl V1.heap.size 3 i0 (.int .i64 0) 1 8 Tryz.underlying30 hi hz0 hz1 hz2 rfl (by decide) (.slice (some ⟨V1.heap.size, 0, none⟩) 2 2) 2 [.int .i64 x.e, .int .i64 x.h] rfl OW.out _ 2 2 [.int .i64 x.i, .int .i64 x.s] rfl LT.out (ints_one .i64 [x.i, x.s]) (by unfold maxLen; omega) (by omega) hsz ?_; intro v4 w4 own4 gr4 loc4; have BX := hid (below_append B4.out gr4 OW.out (Nat.le_refl _) B4.out.size); have OW4 := hid own4; obtain ⟨A4, c4, rfl, s4⟩ := SlA.owned own4; have S4 := hid s4; clear own4 gr4 loc4 s4)
            | fail)
          go_meet
          exact ⟨A4, _, c4, rfl, by omega, by rw [HRN.out]; exact S4.out, BX.out⟩
        · have HRN := hid (show rowN x = [x.e, x.h] from by unfold rowN; rw [if_neg h1]; rfl)
          have hb1 : (x.k == 1) = false := beq_eq_false_iff_ne.2 h1
          clear h1
          go_wp2_with fail
          go_meet
          exact ⟨_, 2, 2, rfl, by omega, by rw [HRN.out]; exact HL2.out, S2.out⟩
      case rest =>
        obtain ⟨A3, m3, c3, rfl, hm3, hs3, b3⟩ := hcut
        have HR := hid hs3; have HM := hid hm3; have HB3 := hid (HV.out.trans (b3.mono HV.out.size))
        have HX3 := hid (fun (U : World) (hb : Below wc.heap.size wc U) => (HXC.out U (b3.trans (hb.mono b3.size))).1)
        have HRL := hid hs3.lenI
        have HTR := hid (thn_row X x)
        clear hs3 hm3 b3 HXC HV S2
        clear d0 d1 d2 d3 d4 e0 e1 e3
        go_wp2_with fail
        go_loopw [36] (fun i w2 => ∃ k : Nat, i = .int .i64 k ∧ k ≤ m3 ∧ Hid ((rowN x).any (fun x_1 => x.k != 0 && !hasB X x_1) = ((rowN x).drop k).any (fun x_1 => x.k != 0 && !hasB X x_1)) ∧ w2 = wc) (fun i _ => m3 - (intOf i).toNat)
        case atStart => exact ⟨0, rfl, by omega, hid rfl, rfl⟩
        case round =>
          obtain ⟨k, hik, hk, HK, hw2⟩ := hrel
          subst hik; subst hw2
          have hm4 := HM.out
          have hc0 := HX3.out _ (Below.refl _ _)
          by_cases hkm : k < m3
          · obtain ⟨b4, o4, z, rfl, hz, hc⟩ := HR.out.elemI hkm
            have HDZ := hid (any_at (p := fun x_1 => x.k != 0 && !hasB X x_1) hz)
            have hkm' : (k : Int) < (m3 : Int) := by omega
            clear hz
            have HNO := hid (fun (h : (x.k != 0 && !hasB X z) = false) => (show (rowN x).any (fun x_1 => x.k != 0 && !hasB X x_1) = ((rowN x).drop (k + 1)).any (fun x_1 => x.k != 0 && !hasB X x_1) from by rw [HK.out, HDZ.out, h, Bool.false_or]))
            have HYE := hid (fun (h : (x.k != 0 && !hasB X z) = true) => (show trmB X xs = false from by rw [HE.out, HJ.out, HD.out, HTR.out, HK.out, HDZ.out, h]; rfl))
            clear HDZ
            by_cases hk0 : x.k = 0
            · have hb0 : (x.k != 0) = false := by rw [hk0]; rfl
              have HN := hid (HNO.out (by rw [hb0]; rfl))
              clear HNO HYE hk0
              go_wp2_with fail
              go_roundw
              case rel => exact ⟨k + 1, by go_num, by omega, HN, by first | rfl | trivial⟩
              case measure => simp [intOf]; omega
            have hb0 : (x.k != 0) = true := bne_iff_ne.2 hk0
            clear hk0
            by_cases hz0' : z < 0
            · have HY := hid (HYE.out (by rw [hb0, show hasB X z = false by unfold hasB; rw [decide_eq_false (by omega : ¬ 0 ≤ z)]; rfl]; rfl))
              clear HNO HYE
              go_wp2_with fail
              go_ret
              exact ⟨by rw [HY.out]; rfl, HB3.out⟩
            have HLN := hid (rlen9_any st X wr (H.out.ext HB3.out))
            by_cases hz1' : (X.length : Int) ≤ z
            · have HY := hid (HYE.out (by rw [hb0, show hasB X z = false by unfold hasB; rw [decide_eq_false (by omega : ¬ z < (X.length : Int))]; simp]; rfl))
              clear HNO HYE
              go_wp2_with fail
              refine HLN.out.mono ?_
              rintro e w8 ⟨rfl, hw8⟩
              subst hw8
              go_wp2_with fail
              go_ret
              exact ⟨by rw [HY.out]; rfl, HB3.out⟩
            · have HN := hid (HNO.out (by rw [hb0, show hasB X z = true by unfold hasB; rw [decide_eq_true (by omega : z < (X.length : Int)), decide_eq_true (by omega : 0 ≤ z)]; rfl]; rfl))
              clear HNO HYE
              go_wp2_with fail
              refine HLN.out.mono ?_
              rintro e w8 ⟨rfl, hw8⟩
              subst hw8
              go_wp2_with fail
              go_roundw
              case rel => exact ⟨k + 1, by go_num, by omega, HN, by first | rfl | trivial⟩
              case measure => simp [intOf]; omega
          · have HF := hid (show thnB X x = false by rw [HTR.out, HK.out, List.drop_of_length_le (by have := HRL.out; omega)]; rfl)
            go_wp2_with fail
            go_roundw
            case rel => exact ⟨j + 1, by go_num, by omega, hid (by rw [HJ.out, HD.out, HF.out]; rfl), HB3⟩
            case measure => simp [intOf]; omega
    · have HF := hid (show xs.any (thnB X) = false by rw [HJ.out, List.drop_of_length_le (by have := HL.out; omega)]; rfl)
      go_wp2
      go_ret
      exact ⟨by rw [HE.out, HF.out]; rfl, HB.out⟩
end Go.Proofs.YtekfjcaihocmmaaGreatDoor

