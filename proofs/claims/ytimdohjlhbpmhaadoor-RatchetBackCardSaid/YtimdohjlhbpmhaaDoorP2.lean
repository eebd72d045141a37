/- the plain law of Check, its end. -/
import Derived.Test.YtimdohjlhbpmhaaDoorP1
namespace Go.Proofs.YtimdohjlhbpmhaaDoor
open Go.RowKit Go.KK Go.Shelf
set_option linter.unusedVariables false
set_option linter.unusedSimpArgs false

/-- A number that an int can hold. -/
def W64 (a : Int) : Prop := -9223372036854775808 ≤ a ∧ a < 9223372036854775808
theorem ofInt_zero {a : Int} (h : W64 a) : BitVec.ofInt 64 a = 0#64 ↔ a = 0 := by
  constructor
  · intro e
    have h2 : (BitVec.ofInt 64 a).toInt = (0#64).toInt := by rw [e]
    rw [BitVec.toInt_ofInt] at h2
    obtain ⟨h0, h1⟩ := h
    have : a.bmod (2 ^ 64) = a := Int.bmod_eq_of_le (by omega) (by omega)
    rw [this] at h2
    simpa using h2
  · rintro rfl; rfl
theorem or_val (a b : Int) : bits .or .i64 a b = (BitVec.ofInt 64 a ||| BitVec.ofInt 64 b).toInt := by
  show IntKind.i64.wrap ((BitVec.ofInt 64 a ||| BitVec.ofInt 64 b).toNat : Int) = _
  rw [IntKind.wrap_i64, BitVec.toInt_eq_toNat_bmod]
  have hlt := (BitVec.ofInt 64 a ||| BitVec.ofInt 64 b).isLt
  generalize (BitVec.ofInt 64 a ||| BitVec.ofInt 64 b).toNat = n at *
  rw [Int.bmod_def]
  split <;> omega
theorem or_w (a b : Int) : W64 (bits .or .i64 a b) := by
  rw [or_val]
  exact ⟨BitVec.le_toInt _, BitVec.toInt_lt⟩
theorem or_zero {a b : Int} (ha : W64 a) (hb : W64 b) : bits .or .i64 a b = 0 ↔ a = 0 ∧ b = 0 := by
  rw [or_val]
  have : (BitVec.ofInt 64 a ||| BitVec.ofInt 64 b).toInt = 0 ↔ BitVec.ofInt 64 a ||| BitVec.ofInt 64 b = 0#64 := by
    constructor
    · intro h; exact BitVec.eq_of_toInt_eq (by rw [h]; rfl)
    · intro h; rw [h]; rfl
  rw [this, BitVec.or_eq_zero_iff, ofInt_zero ha, ofInt_zero hb]
/-- All numbers of a tree are numbers. -/
def WfT (xs : List TN) : Prop := ∀ (j : Nat) x, xs[j]? = some x → W64 x.k ∧ W64 x.i ∧ W64 x.e ∧ W64 x.s ∧ W64 x.h
theorem orN_zero {x : TN} (h : W64 x.k ∧ W64 x.i ∧ W64 x.e ∧ W64 x.s ∧ W64 x.h) : orN x.k x.i x.e x.s x.h = 0 ↔ x.k = 0 ∧ x.i = 0 ∧ x.e = 0 ∧ x.s = 0 ∧ x.h = 0 := by
  unfold orN
  rw [or_zero (or_w _ _) h.2.2.2.2, or_zero (or_w _ _) h.2.2.2.1, or_zero (or_w _ _) h.2.2.1, or_zero h.1 h.2.1]
  constructor
  · rintro ⟨⟨⟨⟨a, b⟩, c⟩, d⟩, e⟩; exact ⟨a, b, c, d, e⟩
  · rintro ⟨a, b, c, d, e⟩; exact ⟨⟨⟨⟨a, b⟩, c⟩, d⟩, e⟩

theorem compact_len (u : List Int) : (Lib.compact u).length = u.length ↔ ∀ j, j < u.length → Lib.keeps u.toArray j = true := by
  have key : ∀ m, (Lib.compactUpTo u.toArray m).length ≤ m ∧ ((Lib.compactUpTo u.toArray m).length = m → ∀ j, j < m → Lib.keeps u.toArray j = true) := by
    intro m
    induction m with
    | zero => exact ⟨by simp [Lib.compactUpTo], fun _ j hj => by omega⟩
    | succ m ih =>
      rw [Lib.compactUpTo_succ, List.length_append]
      rcases hk : Lib.keeps u.toArray m with _ | _
      · simp only [Bool.false_eq_true, if_false, List.length_nil, Nat.add_zero]
        exact ⟨by omega, fun h => by omega⟩
      · simp only [if_true, List.length_singleton]
        refine ⟨by omega, fun h j hj => ?_⟩
        by_cases hjm : j < m
        · exact ih.2 (by omega) j hjm
        · rw [show j = m by omega]; exact hk
  constructor
  · exact (key u.length).2
  · intro h; rw [Lib.compact_all u h]
theorem arr_get {u : List Int} {j : Nat} (h : j < u.length) : u.toArray[j]! = u[j] := by
  rw [getElem!_pos u.toArray j (by simpa using h)]; rfl
theorem rise_iff (u : List Int) : riseB u = true ↔ u.Pairwise (· < ·) := by
  have h1 : riseB u = true ↔ ∀ j (h : j + 1 < u.length), u[j] < u[j + 1] := by
    unfold riseB sortB
    rw [Bool.and_eq_true, Lib.downOK_iff, beq_iff_eq]
    constructor
    · rintro ⟨a, b⟩ j hj
      have a' := a j (by omega)
      have b' := (compact_len u).1 (by omega) (j + 1) hj
      unfold Lib.keeps at b'
      rw [arr_get hj, arr_get (by omega)] at a'
      rw [decide_eq_true_eq] at b'
      rcases b' with b' | b'
      · omega
      · rw [Nat.add_sub_cancel, arr_get hj, arr_get (by omega)] at b'
        simp only [decide_eq_false_iff_not] at a'
        omega
    · intro h
      refine ⟨fun j hj => ?_, ?_⟩
      · rw [arr_get (by omega), arr_get (by omega)]
        have := h j (by omega)
        simp only [decide_eq_false_iff_not]; omega
      · rw [(compact_len u).2 fun j hj => ?_]
        unfold Lib.keeps
        rw [decide_eq_true_eq]
        rcases j with _ | j
        · exact .inl rfl
        · right
          rw [Nat.add_sub_cancel, arr_get hj, arr_get (by omega)]
          have := h j hj
          omega
  rw [h1, List.pairwise_iff_getElem]
  constructor
  · intro h i j hi hj hij
    obtain ⟨t, rfl⟩ := Nat.exists_eq_add_of_lt hij
    induction t with
    | zero => exact h i hj
    | succ t ih =>
      have a := ih (by omega) (by omega)
      have b := h (i + t + 1) hj
      exact Int.lt_trans a b
  · intro h j hj
    exact h j (j + 1) (by omega) hj (by omega)
theorem rpar_iff (xs : List TN) (x : Nat) : ∀ (u : List Int) (last : Int), rparF xs x last u = true ↔ (∀ i ∈ u, last < i) ∧ u.Pairwise (· < ·) ∧ ∀ i ∈ u, i < lfB (x : Int) ∧ kd xs (2 * i).toNat = 1 ∧ midB xs x i = true
  | [], last => by simp [rparF]
  | i :: l, last => by
    rw [rparF]
    simp only [Bool.and_eq_true, decide_eq_true_eq, beq_iff_eq]
    rw [rpar_iff xs x l i, List.pairwise_cons]
    constructor
    · rintro ⟨⟨⟨⟨a, b⟩, c⟩, d⟩, e, f, g⟩
      refine ⟨fun y hy => ?_, ⟨e, f⟩, fun y hy => ?_⟩
      · rcases List.mem_cons.1 hy with rfl | hy
        · exact a
        · have := e y hy; omega
      · rcases List.mem_cons.1 hy with rfl | hy
        · exact ⟨b, c, d⟩
        · exact g y hy
    · rintro ⟨a, ⟨e, f⟩, g⟩
      obtain ⟨b, c, d⟩ := g i (by simp)
      exact ⟨⟨⟨⟨a i (by simp), b⟩, c⟩, d⟩, e, f, fun y hy => g y (by simp [hy])⟩
theorem nd_ge (i k : Nat) : 2 ^ k - 1 ≤ nd i k := by
  unfold nd
  generalize i / 2 ^ k * 2 ^ (k + 1) = v
  have := Nat.two_pow_pos k
  omega
/-- What stands between a leaf and a node above it: both ways of looking are one. -/
theorem mid_eq {xs : List TN} {K x i : Nat} (hK : K ≤ 8) (hn : xs.length + 1 = 2 * 2 ^ K) (hx : x < xs.length) (hodd : x % 2 = 1) (hi : i < 2 ^ K) (h1 : lfA (x : Int) ≤ (i : Int)) (h2 : (i : Int) < lfB (x : Int)) (hk : kd xs (2 * i) = 1) :
    midB xs x (i : Int) = pthB xs (x : Int) (i : Int) := by
  have hpK : 2 ^ K ≤ 256 := Nat.le_trans (Nat.pow_le_pow_right (by omega) hK) (by decide)
  have hi256 : i < 256 := by omega
  have hx511 : x < 511 := by omega
  have hxe := (above_iff hx511).1 ⟨h1, h2⟩
  have hx8 := (z_facts x hx511).1
  generalize hkx : lvl (x : Int) = kx at *
  have hk1 : 1 ≤ kx := by
    rcases Nat.eq_zero_or_pos kx with h0 | h0
    · subst h0; rw [nd0] at hxe; omega
    · exact h0
  have hkK : kx ≤ K := by
    rcases Nat.lt_or_ge K kx with hh | hh
    · have a := nd_ge i kx
      have b : 2 ^ (K + 1) ≤ 2 ^ kx := Nat.pow_le_pow_right (by omega) hh
      rw [Nat.pow_succ] at b
      omega
    · exact hh
  have hlv : lvN xs.length = 2 ^ K := by unfold lvN; omega
  have hp : pthB xs (x : Int) (i : Int) = (List.range (kx - 1)).all fun t => goodB xs i (nd i (1 + t) : Int) := by
    have e : pthB xs (x : Int) (i : Int) = twB (goodB xs i) (x : Int) (pathL (2 * (i : Int)) (lvN xs.length)) := rfl
    rw [e, hlv, pathL_nd hi hK, hxe]
    exact tw_range hi256 K 1 kx (by omega) hk1 (by omega)
  rw [hp, Bool.eq_iff_iff]
  unfold midB
  rw [List.all_eq_true, List.all_eq_true]
  have lt_n : ∀ t, t ≤ K → nd i t < xs.length := by
    intro t ht
    have a := und_leaf (z := nd i t) hi256 (by have := nd_is hi256 (show t ≤ 8 by omega); omega)
    have b := (above_iff (i := i) (z := nd i t) (by have := nd_is hi256 (show t ≤ 8 by omega); omega)).2 (by rw [(nd_is hi256 (show t ≤ 8 by omega)).1])
    obtain ⟨s, rfl⟩ := Nat.exists_eq_add_of_le ht
    have hd : i / 2 ^ t < 2 ^ s := by
      rw [Nat.div_lt_iff_lt_mul (Nat.two_pow_pos t), ← Nat.pow_add, Nat.add_comm s t]; exact hi
    have : (i / 2 ^ t + 1) * 2 ^ (t + 1) ≤ 2 ^ s * 2 ^ (t + 1) := Nat.mul_le_mul_right _ hd
    have e5 : 2 ^ s * 2 ^ (t + 1) = 2 * 2 ^ (t + s) := by rw [← Nat.pow_add, show s + (t + 1) = (t + s) + 1 by omega, Nat.pow_succ]; omega
    rw [e5, ← hn, Nat.add_mul, Nat.one_mul] at this
    have e : nd i t = i / 2 ^ t * 2 ^ (t + 1) + 2 ^ t - 1 := rfl
    rw [e]
    have h4 : 2 ^ (t + 1) = 2 * 2 ^ t := by rw [Nat.pow_succ]; omega
    have h5 := Nat.two_pow_pos t
    generalize i / 2 ^ t * 2 ^ (t + 1) = v at *
    omega
  have kdq : ∀ {z : Nat} {q : TN}, xs[z]? = some q → kd xs z = q.k ∧ um xs z = q.u := by
    intro z q hq; unfold kd um; rw [hq]; exact ⟨rfl, rfl⟩
  constructor
  · intro h t ht
    rw [List.mem_range] at ht
    have hz := lt_n (1 + t) (by omega)
    have hb := h (nd i (1 + t)) (List.mem_range.2 hz)
    have hq : xs[nd i (1 + t)]? = some xs[nd i (1 + t)] := List.getElem?_eq_getElem hz
    rw [bad_is hq] at hb
    have e1 : (((nd i (1 + t) : Nat) : Int) != (x : Int)) = true := bne_iff_ne.2 (fun e => by
      have := nd_inj hi256 (show 1 + t ≤ 8 by omega) (show kx ≤ 8 by omega) (by omega)
      omega)
    have hl8 := nd_is hi256 (show 1 + t ≤ 8 by omega)
    have e2 : undB (2 * (i : Int)).toNat (nd i (1 + t)) = true := by
      rw [show (2 * (i : Int)).toNat = 2 * i by omega]
      exact (und_leaf hi256 (by omega)).2 (by rw [hl8.1])
    have e3 : undB (nd i (1 + t)) x = true := by rw [hxe]; exact (und_both hi256 (by omega) (by omega)).2 (by omega)
    rw [e1, e2, e3] at hb
    refine good_is hq ?_
    unfold inB at hb
    revert hb
    unfold bne
    cases ((xs[nd i (1 + t)]).k == 2) <;> cases ((xs[nd i (1 + t)]).u.contains (i : Int)) <;> simp
  · intro h z hz
    rw [List.mem_range] at hz
    have hq : xs[z]? = some xs[z] := List.getElem?_eq_getElem hz
    rcases hb : badAt xs x (i : Int) z with _ | _
    · rfl
    · exfalso
      rw [bad_is hq] at hb
      simp only [Bool.and_eq_true, beq_iff_eq, bne_iff_ne, ne_eq, Bool.not_eq_true'] at hb
      obtain ⟨⟨⟨⟨b1, b2⟩, b3⟩, b4⟩, b5⟩ := hb
      rw [show (2 * (i : Int)).toNat = 2 * i by omega] at b3
      have hze := (und_leaf hi256 (by omega)).1 b3
      have hz8 := (z_facts z (by omega)).1
      generalize hlz : lvl (z : Int) = lz at *
      rw [hze, hxe] at b4
      have hle := (und_both hi256 hz8 (by omega)).1 b4
      have hne : lz ≠ kx := fun e => b2 (by rw [hze, hxe, e])
      have h0 : lz ≠ 0 := fun e => by
        rw [e, nd0] at hze
        have := (kdq hq).1
        rw [b1, hze, hk] at this
        omega
      have hg := h (lz - 1) (List.mem_range.2 (by omega))
      rw [show 1 + (lz - 1) = lz by omega, ← hze] at hg
      have := good_is (z := (i : Int)) hq rfl
      rw [this, b1] at hg
      unfold inB at b5
      rw [b5] at hg
      cases hg
end Go.Proofs.YtimdohjlhbpmhaaDoor
