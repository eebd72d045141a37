import Derived.Test.YtfmkniakfgpgjaaGreatDoorZ15
import Derived.Test.YtfmkniakfgpgjaaGreatDoorZ14
import Derived.Test.YtfmkniakfgpgjaaGreatDoorZ07
import Derived.Test.YtfmkniakfgpgjaaGreatDoorZ06
/- the plain law of Check, its end. -/
namespace Go.Proofs.YtfmkniakfgpgjaaGreatDoor
open Go.RowKit Go.KK Go.Shelf
set_option linter.unusedVariables false
set_option linter.unusedSimpArgs false

/-- A number that an int can hold. -/
def W64 (a : Int) : Prop := -9223372036854775808 ≤ a ∧ a < 9223372036854775808
theorem ofInt_zero {a : Int} (h : W64 a) : BitVec.ofInt 64 a = 0#64 ↔ a = 0 := by
  constructor
  · intro e
    have h2 : (BitVec.ofInt 64 a).toInt = (0#64).toInt := by rw [e]
    rw [BitVec.toInt_ofInt] at h2
    obtain ⟨h0, h1⟩ := h
    have : a.bmod (2 ^ 64) = a := Int.bmod_eq_of_le (by omega) (by omega)
    rw [this] at h2
    simpa using h2
  · rintro rfl; rfl
theorem or_val (a b : Int) : bits .or .i64 a b = (BitVec.ofInt 64 a ||| BitVec.ofInt 64 b).toInt := by
  show IntKind.i64.wrap ((BitVec.ofInt 64 a ||| BitVec.ofInt 64 b).toNat : Int) = _
  rw [IntKind.wrap_i64, BitVec.toInt_eq_toNat_bmod]
  have hlt := (BitVec.ofInt 64 a ||| BitVec.ofInt 64 b).isLt
  generalize (BitVec.ofInt 64 a ||| BitVec.ofInt 64 b).toNat = n at *
  rw [Int.bmod_def]
  split <;> omega
theorem or_w (a b : Int) : W64 (bits .or .i64 a b) := by
  rw [or_val]
  exact ⟨BitVec.le_toInt _, BitVec.toInt_lt⟩
theorem or_zero {a b : Int} (ha : W64 a) (hb : W64 b) : bits .or .i64 a b = 0 ↔ a = 0 ∧ b = 0 := by
  rw [or_val]
  have : (BitVec.ofInt 64 a ||| BitVec.ofInt 64 b).toInt = 0 ↔ BitVec.ofInt 64 a ||| BitVec.ofInt 64 b = 0#64 := by
    constructor
    · intro h; exact BitVec.eq_of_toInt_eq (by rw [h]; rfl)
    · intro h; rw [h]; rfl
  rw [this, BitVec.or_eq_zero_iff, ofInt_zero ha, ofInt_zero hb]
/-- All numbers of a tree are numbers. -/
def WfT (xs : List TN) : Prop := ∀ (j : Nat) x, xs[j]? = some x → W64 x.k ∧ W64 x.i ∧ W64 x.e ∧ W64 x.s ∧ W64 x.h
theorem orN_zero {x : TN} (h : W64 x.k ∧ W64 x.i ∧ W64 x.e ∧ W64 x.s ∧ W64 x.h) : orN x.k x.i x.e x.s x.h = 0 ↔ x.k = 0 ∧ x.i = 0 ∧ x.e = 0 ∧ x.s = 0 ∧ x.h = 0 := by
  unfold orN
  rw [or_zero (or_w _ _) h.2.2.2.2, or_zero (or_w _ _) h.2.2.2.1, or_zero (or_w _ _) h.2.2.1, or_zero h.1 h.2.1]
  constructor
  · rintro ⟨⟨⟨⟨a, b⟩, c⟩, d⟩, e⟩; exact ⟨a, b, c, d, e⟩
  · rintro ⟨a, b, c, d, e⟩; exact ⟨⟨⟨⟨a, b⟩, c⟩, d⟩, e⟩

theorem compact_len (u : List Int) : (Lib.compact u).length = u.length ↔ ∀ j, j < u.length → Lib.keeps u.toArray j = true := by
  have key : ∀ m, (Lib.compactUpTo u.toArray m).length ≤ m ∧ ((Lib.compactUpTo u.toArray m).length = m → ∀ j, j < m → Lib.keeps u.toArray j = true) := by
    intro m
    induction m with
    | zero => exact ⟨by simp [Lib.compactUpTo], fun _ j hj => by omega⟩
    | succ m ih =>
      rw [Lib.compactUpTo_succ, List.length_append]
      rcases hk : Lib.keeps u.toArray m with _ | _
      · simp only [Bool.false_eq_true, if_false, List.length_nil, Nat.add_zero]
        exact ⟨by omega, fun h => by omega⟩
      · simp only [if_true, List.length_singleton]
        refine ⟨by omega, fun h j hj => ?_⟩
        by_cases hjm : j < m
        · exact ih.2 (by omega) j hjm
        · rw [show j = m by omega]; exact hk
  constructor
  · exact (key u.length).2
  · intro h; rw [Lib.compact_all u h]
theorem arr_get {u : List Int} {j : Nat} (h : j < u.length) : u.toArray[j]! = u[j] := by
  rw [getElem!_pos u.toArray j (by simpa using h)]; rfl
theorem rise_iff (u : List Int) : riseB u = true ↔ u.Pairwise (· < ·) := by
  have h1 : riseB u = true ↔ ∀ j (h : j + 1 < u.length), u[j] < u[j + 1] := by
    unfold riseB sortB
    rw [Bool.and_eq_true, Lib.downOK_iff, beq_iff_eq]
    constructor
    · rintro ⟨a, b⟩ j hj
      have a' := a j (by omega)
      have b' := (compact_len u).1 (by omega) (j + 1) hj
      unfold Lib.keeps at b'
      rw [arr_get hj, arr_get (by omega)] at a'
      rw [decide_eq_true_eq] at b'
      rcases b' with b' | b'
      · omega
      · rw [Nat.add_sub_cancel, arr_get hj, arr_get (by omega)] at b'
        simp only [decide_eq_false_iff_not] at a'
        omega
    · intro h
      refine ⟨fun j hj => ?_, ?_⟩
      · rw [arr_get (by omega), arr_get (by omega)]
        have := h j (by omega)
        simp only [decide_eq_false_iff_not]; omega
      · rw [(compact_len u).2 fun j hj => ?_]
        unfold Lib.keeps
        rw [decide_eq_true_eq]
        rcases j with _ | j
        · exact .inl rfl
        · right
          rw [Nat.add_sub_cancel, arr_get hj, arr_get (by omega)]
          have := h j hj
          omega
  rw [h1, List.pairwise_iff_getElem]
  constructor
  · intro h i j hi hj hij
    obtain ⟨t, rfl⟩ := Nat.exists_eq_add_of_lt hij
    induction t with
    | zero => exact h i hj
    | succ t ih =>
      have a := ih (by omega) (by omega)
      have b := h (i + t + 1) hj
      exact Int.lt_trans a b
  · intro h j hj
    exact h j (j + 1) (by omega) hj (by omega)
theorem rpar_iff (xs : List TN) (x : Nat) : ∀ (u : List Int) (last : Int), rparF xs x last u = true ↔ (∀ i ∈ u, last < i) ∧ u.Pairwise (· < ·) ∧ ∀ i ∈ u, i < lfB (x : Int) ∧ kd xs (2 * i).toNat = 1 ∧ midB xs x i = true
  | [], last => by simp [rparF]
  | i :: l, last => by
    rw [rparF]
    simp only [Bool.and_eq_true, decide_eq_true_eq, beq_iff_eq]
    rw [rpar_iff xs x l i, List.pairwise_cons]
    constructor
    · rintro ⟨⟨⟨⟨a, b⟩, c⟩, d⟩, e, f, g⟩
      refine ⟨fun y hy => ?_, ⟨e, f⟩, fun y hy => ?_⟩
      · rcases List.mem_cons.1 hy with rfl | hy
        · exact a
        · have := e y hy; omega
      · rcases List.mem_cons.1 hy with rfl | hy
        · exact ⟨b, c, d⟩
        · exact g y hy
    · rintro ⟨a, ⟨e, f⟩, g⟩
      obtain ⟨b, c, d⟩ := g i (by simp)
      exact ⟨⟨⟨⟨a i (by simp), b⟩, c⟩, d⟩, e, f, fun y hy => g y (by simp [hy])⟩
theorem nd_ge (i k : Nat) : 2 ^ k - 1 ≤ nd i k := by
  unfold nd
  generalize i / 2 ^ k * 2 ^ (k + 1) = v
  have := Nat.two_pow_pos k
  omega
/-- What stands between a leaf and a node above it: both ways of looking are one. -/
theorem mid_eq {xs : List TN} {K x i : Nat} (hK : K ≤ 8) (hn : xs.length + 1 = 2 * 2 ^ K) (hx : x < xs.length) (hodd : x % 2 = 1) (hi : i < 2 ^ K) (h1 : lfA (x : Int) ≤ (i : Int)) (h2 : (i : Int) < lfB (x : Int)) (hk : kd xs (2 * i) = 1) :
    midB xs x (i : Int) = pthB xs (x : Int) (i : Int) := by
  have hpK : 2 ^ K ≤ 256 := Nat.le_trans (Nat.pow_le_pow_right (by omega) hK) (by decide)
  have hi256 : i < 256 := by omega
  have hx511 : x < 511 := by omega
  have hxe := (above_iff hx511).1 ⟨h1, h2⟩
  have hx8 := (z_facts x hx511).1
  generalize hkx : lvl (x : Int) = kx at *
  have hk1 : 1 ≤ kx := by
    rcases Nat.eq_zero_or_pos kx with h0 | h0
    · subst h0; rw [nd0] at hxe; omega
    · exact h0
  have hkK : kx ≤ K := by
    rcases Nat.lt_or_ge K kx with hh | hh
    · have a := nd_ge i kx
      have b : 2 ^ (K + 1) ≤ 2 ^ kx := Nat.pow_le_pow_right (by omega) hh
      rw [Nat.pow_succ] at b
      omega
    · exact hh
  have hlv : lvN xs.length = 2 ^ K := by unfold lvN; omega
  have hp : pthB xs (x : Int) (i : Int) = (List.range (kx - 1)).all fun t => goodB xs i (nd i (1 + t) : Int) := by
    have e : pthB xs (x : Int) (i : Int) = twB (goodB xs i) (x : Int) (pathL (2 * (i : Int)) (lvN xs.length)) := rfl
    rw [e, hlv, pathL_nd hi hK, hxe]
    exact tw_range hi256 K 1 kx (by omega) hk1 (by omega)
  rw [hp, Bool.eq_iff_iff]
  unfold midB
  rw [List.all_eq_true, List.all_eq_true]
  have lt_n : ∀ t, t ≤ K → nd i t < xs.length := by
    intro t ht
    have a := und_leaf (z := nd i t) hi256 (by have := nd_is hi256 (show t ≤ 8 by omega); omega)
    have b := (above_iff (i := i) (z := nd i t) (by have := nd_is hi256 (show t ≤ 8 by omega); omega)).2 (by rw [(nd_is hi256 (show t ≤ 8 by omega)).1])
    obtain ⟨s, rfl⟩ := Nat.exists_eq_add_of_le ht
    have hd : i / 2 ^ t < 2 ^ s := by
      rw [Nat.div_lt_iff_lt_mul (Nat.two_pow_pos t), ← Nat.pow_add, Nat.add_comm s t]; exact hi
    have : (i / 2 ^ t + 1) * 2 ^ (t + 1) ≤ 2 ^ s * 2 ^ (t + 1) := Nat.mul_le_mul_right _ hd
    have e5 : 2 ^ s * 2 ^ (t + 1) = 2 * 2 ^ (t + s) := by rw [← Nat.pow_add, show s + (t + 1) = (t + s) + 1 by omega, Nat.pow_succ]; omega
    rw [e5, ← hn, Nat.add_mul, Nat.one_mul] at this
    have e : nd i t = i / 2 ^ t * 2 ^ (t + 1) + 2 ^ t - 1 := rfl
    rw [e]
    have h4 : 2 ^ (t + 1) = 2 * 2 ^ t := by rw [Nat.pow_succ]; omega
    have h5 := Nat.two_pow_pos t
    generalize i / 2 ^ t * 2 ^ (t + 1) = v at *
    omega
  have kdq : ∀ {z : Nat} {q : TN}, xs[z]? = some q → kd xs z = q.k ∧ um xs z = q.u := by
    intro z q hq; unfold kd um; rw [hq]; exact ⟨rfl, rfl⟩
  constructor
  · intro h t ht
    rw [List.mem_range] at ht
    have hz := lt_n (1 + t) (by omega)
    have hb := h (nd i (1 + t)) (List.mem_range.2 hz)
    have hq : xs[nd i (1 + t)]? = some xs[nd i (1 + t)] := List.getElem?_eq_getElem hz
    rw [bad_is hq] at hb
    have e1 : (((nd i (1 + t) : Nat) : Int) != (x : Int)) = true := bne_iff_ne.2 (fun e => by
      have := nd_inj hi256 (show 1 + t ≤ 8 by omega) (show kx ≤ 8 by omega) (by omega)
      omega)
    have hl8 := nd_is hi256 (show 1 + t ≤ 8 by omega)
    have e2 : undB (2 * (i : Int)).toNat (nd i (1 + t)) = true := by
      rw [show (2 * (i : Int)).toNat = 2 * i by omega]
      exact (und_leaf hi256 (by omega)).2 (by rw [hl8.1])
    have e3 : undB (nd i (1 + t)) x = true := by rw [hxe]; exact (und_both hi256 (by omega) (by omega)).2 (by omega)
    rw [e1, e2, e3] at hb
    refine good_is hq ?_
    unfold inTB at hb
    revert hb
    unfold bne
    cases ((xs[nd i (1 + t)]).k == 2) <;> cases ((xs[nd i (1 + t)]).u.contains (i : Int)) <;> simp
  · intro h z hz
    rw [List.mem_range] at hz
    have hq : xs[z]? = some xs[z] := List.getElem?_eq_getElem hz
    rcases hb : badAt xs x (i : Int) z with _ | _
    · rfl
    · exfalso
      rw [bad_is hq] at hb
      simp only [Bool.and_eq_true, beq_iff_eq, bne_iff_ne, ne_eq, Bool.not_eq_true'] at hb
      obtain ⟨⟨⟨⟨b1, b2⟩, b3⟩, b4⟩, b5⟩ := hb
      rw [show (2 * (i : Int)).toNat = 2 * i by omega] at b3
      have hze := (und_leaf hi256 (by omega)).1 b3
      have hz8 := (z_facts z (by omega)).1
      generalize hlz : lvl (z : Int) = lz at *
      rw [hze, hxe] at b4
      have hle := (und_both hi256 hz8 (by omega)).1 b4
      have hne : lz ≠ kx := fun e => b2 (by rw [hze, hxe, e])
      have h0 : lz ≠ 0 := fun e => by
        rw [e, nd0] at hze
        have := (kdq hq).1
        rw [b1, hze, hk] at this
        omega
      have hg := h (lz - 1) (List.mem_range.2 (by omega))
      rw [show 1 + (lz - 1) = lz by omega, ← hze] at hg
      have := good_is (z := (i : Int)) hq rfl
      rw [this, b1] at hg
      unfold inTB at b5
      rw [b5] at hg
      cases hg
end Go.Proofs.YtfmkniakfgpgjaaGreatDoor

/- Check, both ways: one answer. -/
namespace Go.Proofs.YtfmkniakfgpgjaaGreatDoor
open Go.RowKit Go.KK Go.Shelf
set_option linter.unusedVariables false
set_option linter.unusedSimpArgs false

theorem pres_nat {xs : List TN} {j : Nat} (h : j < lvN xs.length) : pres xs (j : Int) = (kd xs (2 * j) == 1) := by
  unfold pres
  rw [show (2 * (j : Int)).toNat = 2 * j by omega, decide_eq_true (show (0 : Int) ≤ (j : Int) by omega), decide_eq_true (show (j : Int) < (lvN xs.length : Int) by omega)]
  rfl
theorem half_some (xs : List TN) : halfB xs = !someB xs (lvN xs.length / 2) (lvN xs.length) := by
  rw [Bool.eq_iff_iff]
  unfold halfB someB
  rw [List.all_eq_true, Bool.not_eq_true', List.any_eq_false]
  constructor
  · intro h j hj hh
    have hj' := List.mem_range.1 hj
    simp only [Bool.and_eq_true, decide_eq_true_eq] at hh
    have := h j hj
    rw [decide_eq_false (show ¬ j < lvN xs.length / 2 by omega), pres_nat hj', hh.2] at this
    cases this
  · intro h j hj
    have hj' := List.mem_range.1 hj
    by_cases hl : j < lvN xs.length / 2
    · rw [decide_eq_true hl]; rfl
    · have := h j hj
      rw [decide_eq_true (show lvN xs.length / 2 ≤ j by omega), Bool.true_and] at this
      rw [pres_nat hj', Bool.eq_false_iff.2 this, Bool.not_false, Bool.or_true]
theorem some_mono {xs : List TN} {a b : Nat} (h : someB xs a b = true) : someB xs 0 b = true := by
  unfold someB at h ⊢
  rw [List.any_eq_true] at h ⊢
  obtain ⟨j, hj, hh⟩ := h
  simp only [Bool.and_eq_true, decide_eq_true_eq] at hh
  exact ⟨j, hj, by rw [hh.2]; simp⟩
theorem one_eq {xs : List TN} {x : Nat} (hf : fullN (lvN xs.length : Int) = true) (hn : 2 * (lvN xs.length : Int) - 1 = xs.length) (hx : x < xs.length) (hodd : x % 2 = 1) (i : Int) (h0 : lfA (x : Int) ≤ i) :
    oneB xs (x : Int) i = (decide (i < lfB (x : Int)) && (kd xs (2 * i).toNat == 1) && midB xs x i) := by
  have hN := fullN_le hf
  have hle := lf_le hf (show x < 2 * lvN xs.length - 1 by omega)
  have hi0 : 0 ≤ i := by omega
  obtain ⟨m, rfl⟩ := Int.eq_ofNat_of_zero_le hi0
  unfold oneB
  rw [decide_eq_true h0, Bool.true_and, show (2 * (m : Int)).toNat = 2 * m by omega]
  by_cases h1 : (m : Int) < lfB (x : Int)
  · rw [decide_eq_true h1, Bool.true_and, Bool.true_and, pres_nat (by omega)]
    rcases hk : (kd xs (2 * m) == 1) with _ | _
    · rfl
    · rw [Bool.true_and, Bool.true_and]
      obtain ⟨K, hK, hp⟩ := full_pow hf
      exact (mid_eq hK (by rw [← hp]; omega) hx hodd (by rw [← hp]; omega) h0 h1 (beq_iff_eq.1 hk)).symm
  · rw [decide_eq_false h1]; rfl
theorem par_eq {xs : List TN} {x : Nat} (hf : fullN (lvN xs.length : Int) = true) (hn : 2 * (lvN xs.length : Int) - 1 = xs.length) (hx : x < xs.length) (hodd : x % 2 = 1) (u : List Int) :
    (riseB u && u.all (oneB xs (x : Int))) = rparF xs x (lfA (x : Int) - 1) u := by
  rw [Bool.eq_iff_iff, Bool.and_eq_true, rise_iff, rpar_iff, List.all_eq_true]
  constructor
  · rintro ⟨a, b⟩
    have lo : ∀ i ∈ u, lfA (x : Int) ≤ i := fun i hi => by
      have := b i hi
      unfold oneB at this
      simp only [Bool.and_eq_true, decide_eq_true_eq] at this
      exact this.1.1.1
    refine ⟨fun i hi => by have := lo i hi; omega, a, fun i hi => ?_⟩
    have := b i hi
    rw [one_eq hf hn hx hodd i (lo i hi)] at this
    simp only [Bool.and_eq_true, decide_eq_true_eq, beq_iff_eq] at this
    exact ⟨this.1.1, this.1.2, this.2⟩
  · rintro ⟨a, b, c⟩
    refine ⟨b, fun i hi => ?_⟩
    obtain ⟨c1, c2, c3⟩ := c i hi
    rw [one_eq hf hn hx hodd i (by have := a i hi; omega)]
    simp only [Bool.and_eq_true, decide_eq_true_eq, beq_iff_eq]
    exact ⟨⟨c1, c2⟩, c3⟩
theorem at_eq {xs : List TN} {x : Nat} (hw : WfT xs) (hf : fullN (lvN xs.length : Int) = true) (hn : 2 * (lvN xs.length : Int) - 1 = xs.length) (hx : x < xs.length) : okAt xs x = rnodeAt xs x := by
  have hq : xs[x]? = some xs[x] := List.getElem?_eq_getElem hx
  unfold okAt rnodeAt
  rw [hq]
  have hwf := hw x _ hq
  generalize xs[x] = y at *
  show okB xs x y = rnodeB xs x y
  unfold okB rnodeB
  by_cases h0 : y.k = 0
  · rw [if_pos h0, if_pos h0]
    unfold zerB
    rw [Bool.eq_iff_iff]
    simp only [Bool.and_eq_true, beq_iff_eq]
    rw [orN_zero hwf]
    constructor
    · rintro ⟨⟨a, b, c, d, e⟩, f⟩; exact ⟨⟨⟨⟨⟨a, b⟩, c⟩, d⟩, e⟩, f⟩
    · rintro ⟨⟨⟨⟨⟨a, b⟩, c⟩, d⟩, e⟩, f⟩; exact ⟨⟨a, b, c, d, e⟩, f⟩
  · rw [if_neg h0, if_neg h0]
    by_cases h2 : (x : Int) % 2 = 0
    · rw [if_pos h2, if_pos h2]; rfl
    · rw [if_neg h2, if_neg h2]
      unfold parB
      rw [← par_eq hf hn hx (by omega) y.u]
      simp only [Bool.and_assoc]
theorem rchk_any (A : Option Addr) (n c : Nat) (xs : List TN) (w : World) (ht : Tr w A n c xs) (hnm : n ≤ 600) (hu : Shorts xs) (hw : WfT xs) :
    Calls Tryz.prog 20 #[.slice A n c] w fun e w' => e = .returned (.int .i64 (chkE xs)) ∧ Below w.heap.size w w' := by
  have hl := ht.len
  by_cases h0 : rlv n = 0
  · have hc : chkE xs = 1 := by
      unfold chkE chkB
      rw [hl]
      unfold rlv at h0
      split at h0
      · rename_i hh
        simp only [Bool.and_eq_true] at hh
        have := fullN_le hh.1
        omega
      · rename_i hh
        rw [Bool.eq_false_iff.2 hh]; rfl
    rw [hc]; exact rcheck_no A n c xs w ht hnm (.inl h0)
  · obtain ⟨hf, hn, hr⟩ := rlv_some h0
    rcases hs : someB xs (lvN n / 2) (lvN n) with _ | _
    · have hh : halfB xs = true := by rw [half_some, hl, hs]; rfl
      have hc : chkE xs = 1 := by unfold chkE chkB; rw [hh]; simp
      rw [hc]
      refine rcheck_no A n c xs w ht hnm ?_
      rcases hs0 : someB xs 0 (lvN n) with _ | _
      · exact .inr (.inl ⟨h0, rfl⟩)
      · refine .inr (.inr ⟨h0, rfl, ?_, hs⟩)
        rcases Nat.lt_or_ge 1 (lvN n) with h | h
        · exact h
        · have h1 : lvN n = 1 := by have := fullN_le hf; omega
          rw [h1] at hs hs0
          rw [show (1 : Nat) / 2 = 0 from rfl, hs0] at hs
          cases hs
    · have hh : halfB xs = false := by rw [half_some, hl, hs]; rfl
      have hc : chkE xs = rallR xs := by
        unfold chkE chkB rallR
        rw [hl, hf, hh, hn]
        have e : (List.range n).all (okAt xs) = (List.range n).all (rnodeAt xs) := by
          rw [Bool.eq_iff_iff, List.all_eq_true, List.all_eq_true]
          constructor
          · intro h j hj; rw [← at_eq hw (by rw [hl]; exact hf) (by rw [hl]; exact hn) (by rw [hl]; exact List.mem_range.1 hj)]; exact h j hj
          · intro h j hj; rw [at_eq hw (by rw [hl]; exact hf) (by rw [hl]; exact hn) (by rw [hl]; exact List.mem_range.1 hj)]; exact h j hj
        rw [e]
        simp
      rw [hc]
      exact rcheck_go A n c xs w ht hnm hu h0 (some_mono hs) (.inr hs)
/-- What a tree that may be is. -/
theorem chk_bare {xs : List TN} (h : chkB xs = true) : Bare xs := by
  obtain ⟨_, _, _, h4⟩ := chk_full h
  intro j x hx hk
  have hj := (List.getElem?_eq_some_iff.1 hx).1
  have := h4 j hj
  unfold okAt at this
  rw [hx] at this
  replace this : okB xs j x = true := this
  unfold okB at this
  split at this
  · simp only [Bool.and_eq_true, beq_iff_eq] at this
    exact List.eq_nil_of_length_eq_zero (by omega)
  · split at this
    · simp only [Bool.and_eq_true, beq_iff_eq] at this
      exact List.eq_nil_of_length_eq_zero (by omega)
    · unfold parB at this
      simp only [Bool.and_eq_true, beq_iff_eq] at this
      exact absurd this.1.1.1.1 hk
theorem chk_par {xs : List TN} (h : chkB xs = true) {j : Nat} {x : TN} (hx : xs[j]? = some x) (hk : x.k = 2) : j % 2 = 1 ∧ x.i = 0 ∧ x.s = 0 ∧ x.u.Pairwise (· < ·) ∧ ∀ i ∈ x.u, oneB xs j i = true := by
  obtain ⟨_, _, _, h4⟩ := chk_full h
  have hj := (List.getElem?_eq_some_iff.1 hx).1
  have := h4 j hj
  unfold okAt at this
  rw [hx] at this
  replace this : okB xs j x = true := this
  unfold okB at this
  split at this
  · omega
  · split at this
    · simp only [Bool.and_eq_true, beq_iff_eq] at this
      omega
    · unfold parB at this
      simp only [Bool.and_eq_true, beq_iff_eq] at this
      exact ⟨by omega, this.1.1.1.2, this.1.1.2, (rise_iff _).1 this.1.2, List.all_eq_true.1 this.2⟩
theorem chk_ord {xs : List TN} {B : Nat} (h : chkB xs = true) (hB : ∀ (j : Nat) x, xs[j]? = some x → x.u.length ≤ B) : Ord B xs := by
  intro j x hx
  refine ⟨?_, hB j x hx⟩
  by_cases hk : x.k = 2
  · exact (chk_par h hx hk).2.2.2.1.imp fun h => Int.le_of_lt h
  · rw [chk_bare h j x hx hk]; exact List.Pairwise.nil
end Go.Proofs.YtfmkniakfgpgjaaGreatDoor

/- plain: layer 22's laws in words of makes: patches, what changed, what opens. -/
namespace Go.Proofs.YtfmkniakfgpgjaaGreatDoor
open Go.RowKit Go.KK Go.Shelf Go.Maps
set_option linter.unusedVariables false
set_option linter.unusedSimpArgs false

theorem ext_getD {l m : List Int} (h : l.length = m.length) (he : ∀ k, k < l.length → l.getD k 0 = m.getD k 0) : l = m := by
  refine List.ext_getElem h fun k h1 h2 => ?_
  have := he k h1
  rw [List.getD_eq_getElem?_getD, List.getD_eq_getElem?_getD, List.getElem?_eq_getElem h1, List.getElem?_eq_getElem h2] at this
  exact this
theorem getD_map' {l : List Int} {f : Int → Int} {k : Nat} (h : k < l.length) : (l.map f).getD k 0 = f (l.getD k 0) := by
  rw [List.getD_eq_getElem?_getD, List.getD_eq_getElem?_getD, List.getElem?_map, List.getElem?_eq_getElem h]; rfl
theorem getD_set {l : List Int} {p k : Nat} {v : Int} (h : k < l.length) : (l.set p v).getD k 0 = if p = k then v else l.getD k 0 := by
  rw [List.getD_eq_getElem?_getD, List.getD_eq_getElem?_getD, List.getElem?_set]
  by_cases e : p = k
  · subst e; rw [if_pos rfl, if_pos rfl, if_pos h]; rfl
  · rw [if_neg e, if_neg e]
theorem take_getD' {l : List Int} {j : Nat} (h : j < l.length) : l.take (j + 1) = l.take j ++ [l.getD j 0] := by
  rw [List.take_add_one, List.getElem?_eq_getElem h, List.getD_eq_getElem?_getD, List.getElem?_eq_getElem h]; rfl

/-- The first so many terms put in. -/
def ptS (l a w : List Int) : Nat → List Int
  | 0 => l
  | j + 1 => (ptS l a w j).set (a.getD j 0).toNat (w.getD j 0)
theorem ptS_len (l a w : List Int) : ∀ j, (ptS l a w j).length = l.length
  | 0 => rfl
  | j + 1 => by rw [ptS, List.length_set, ptS_len l a w j]
def patB (l a w : List Int) : Bool := decide (a.length ≠ w.length) || a.any (fun x => decide (x < 0) || decide ((l.length : Int) ≤ x))
def patF (l a w : List Int) : List Int × Int := if patB l a w then ([], 1) else (ptS l a w a.length, 0)
theorem ptS_get {l a w m : List Int} (h0 : ∀ x ∈ a, 0 ≤ x) (hw : ∀ i, i < a.length → w.getD i 0 = m.getD (a.getD i 0).toNat 0) : ∀ j, j ≤ a.length → ∀ k : Nat, k < l.length → (ptS l a w j).getD k 0 = if (k : Int) ∈ a.take j then m.getD k 0 else l.getD k 0
  | 0, _, k, hk => by simp [ptS]
  | j + 1, hj, k, hk => by
    have hjl : j < a.length := by omega
    have ih := ptS_get h0 hw j (by omega) k hk
    have hmem : a.getD j 0 ∈ a := by rw [List.getD_eq_getElem?_getD, List.getElem?_eq_getElem hjl]; exact List.getElem_mem hjl
    have hz := h0 _ hmem
    rw [ptS, getD_set (by rw [ptS_len]; exact hk), take_getD' hjl, hw j hjl]
    by_cases e : (a.getD j 0).toNat = k
    · rw [if_pos e, e, if_pos (List.mem_append.2 (.inr (List.mem_singleton.2 (by omega))))]
    · rw [if_neg e, ih]
      have : ((k : Int) ∈ a.take j ++ [a.getD j 0]) ↔ (k : Int) ∈ a.take j := by
        rw [List.mem_append, List.mem_singleton]
        exact ⟨fun h => h.elim id fun h => absurd (by omega) e, .inl⟩
      by_cases hm : (k : Int) ∈ a.take j
      · rw [if_pos hm, if_pos (this.2 hm)]
      · rw [if_neg hm, if_neg fun h => hm (this.1 h)]
theorem ch_mem {l m : List Int} {x : Int} : x ∈ chF l m ↔ ∃ k : Nat, x = (k : Int) ∧ k < max l.length m.length ∧ chB l m (k : Int) = true := by
  unfold chF chL
  rw [List.mem_filter, List.mem_map]
  constructor
  · rintro ⟨⟨k, hk, rfl⟩, h⟩; exact ⟨k, rfl, List.mem_range.1 hk, h⟩
  · rintro ⟨k, rfl, hk, h⟩; exact ⟨⟨k, List.mem_range.2 hk, rfl⟩, h⟩
theorem chB_in {l m : List Int} {j : Nat} (h : j < l.length) (h' : j < m.length) : chB l m (j : Int) = (l.getD j 0 != m.getD j 0) := by
  have e1 : l[j]? = some (l.getD j 0) := by rw [List.getD_eq_getElem?_getD, List.getElem?_eq_getElem h]; rfl
  have e2 : m[j]? = some (m.getD j 0) := by rw [List.getD_eq_getElem?_getD, List.getElem?_eq_getElem h']; rfl
  exact chB_at e1 e2
/-- Patched by what was changed one list is the other. -/
theorem pat_ch {l m : List Int} (h : l.length = m.length) : patF l (chF l m) ((chF l m).map fun x => m.getD x.toNat 0) = (m, 0) := by
  have hin : ∀ x ∈ chF l m, 0 ≤ x ∧ x < l.length := fun x hx => by
    obtain ⟨k, rfl, hk, -⟩ := ch_mem.1 hx
    omega
  have hb : patB l (chF l m) ((chF l m).map fun x => m.getD x.toNat 0) = false := by
    unfold patB
    rw [List.length_map, decide_eq_false (by simp), Bool.false_or, List.any_eq_false]
    intro x hx
    have := hin x hx
    rw [decide_eq_false (by omega : ¬ x < 0), decide_eq_false (by omega : ¬ (l.length : Int) ≤ x)]
    simp
  unfold patF
  rw [hb]
  refine Prod.ext (ext_getD (by rw [if_neg (by simp)]; show (ptS _ _ _ _).length = _; rw [ptS_len, h]) fun k hk => ?_) rfl
  rw [if_neg (by simp)] at hk ⊢
  have hk : k < l.length := by rw [show (ptS l (chF l m) ((chF l m).map fun x => m.getD x.toNat 0) (chF l m).length, (0 : Int)).1.length = l.length from ptS_len _ _ _ _] at hk; exact hk
  show (ptS _ _ _ _).getD k 0 = _
  rw [ptS_get (m := m) (fun x hx => (hin x hx).1) (fun i hi => getD_map' hi) _ (Nat.le_refl _) k hk, List.take_length]
  split
  · rfl
  · rename_i hn
    have hc : chB l m (k : Int) = false := by
      rcases hx : chB l m (k : Int) with _ | _
      · rfl
      · exact absurd (ch_mem.2 ⟨k, rfl, by omega, hx⟩) hn
    rw [chB_in hk (by omega)] at hc
    simpa using hc
/-- Two lists that differ at one place at the most. -/
theorem ch_one {x y : List Int} {i : Nat} (hl : x.length = y.length) (hi : i < x.length) (h : ∀ j, j < x.length → j ≠ i → x.getD j 0 = y.getD j 0) : chF x y = if x.getD i 0 = y.getD i 0 then [] else [(i : Int)] := by
  have go : ∀ n, n ≤ x.length → chL x y n = if i < n ∧ x.getD i 0 ≠ y.getD i 0 then [(i : Int)] else [] := by
    intro n
    induction n with
    | zero => intro _; simp [chL]
    | succ n ih =>
      intro hn
      have hb := chB_in (l := x) (m := y) (j := n) (by omega) (by omega)
      by_cases e : n = i
      · subst e
        by_cases hx : x.getD n 0 = y.getD n 0
        · rw [chL_no (by rw [hb, hx]; simp), ih (by omega), if_neg fun hh => hh.2 hx, if_neg fun hh => hh.2 hx]
        · rw [chL_yes (by rw [hb]; exact bne_iff_ne.2 hx), ih (by omega), if_neg fun hh => absurd hh.1 (Nat.lt_irrefl _), if_pos ⟨by omega, hx⟩]; rfl
      · rw [chL_no (by rw [hb, h n (by omega) e]; simp), ih (by omega)]
        have : (i < n ∧ x.getD i 0 ≠ y.getD i 0) ↔ (i < n + 1 ∧ x.getD i 0 ≠ y.getD i 0) := ⟨fun ⟨a, b⟩ => ⟨by omega, b⟩, fun ⟨a, b⟩ => ⟨by omega, b⟩⟩
        by_cases hh : i < n ∧ x.getD i 0 ≠ y.getD i 0
        · rw [if_pos hh, if_pos (this.1 hh)]
        · rw [if_neg hh, if_neg fun k => hh (this.2 k)]
  unfold chF
  rw [← hl, Nat.max_self, go _ (Nat.le_refl _)]
  by_cases hx : x.getD i 0 = y.getD i 0
  · rw [if_neg fun hh => hh.2 hx, if_pos hx]
  · rw [if_pos ⟨hi, hx⟩, if_neg hx]

theorem ndL {o : Int} {l m : List Int} (h : ndN o l = ndN o m) : l = m := by
  unfold ndN at h
  simp only [ND.mk.injEq, true_and, and_true] at h
  exact h
theorem txS_eq {s t : ByteArray} (h : txN s = txN t) : s = t := by
  unfold txN at h
  simp only [ND.mk.injEq, true_and, and_true] at h
  exact h
/-- What is locked alike is one term. -/
theorem lock_uniq {Y : List ND} (ok : Okay Y) {v v' ex cx x : Int} {n : TN} (h : LockAt Y v ex cx x n) (k : LockAt Y v' ex cx x n) : v = v' := by
  obtain ⟨t, key, nonce, c, o, ki, li, us, h1, h2, h3⟩ := h
  obtain ⟨t', key', nonce', c', o', ki', li', us', k1, k2, k3⟩ := k
  have et := h1.ht.uniq ok k1.ht; subst et
  have ek := h1.hk.uniq ok k1.hk; subst ek
  have en := h1.hn.uniq ok k1.hn; subst en
  have eo := h2.ho.uniq ok k2.ho; subst eo
  have eki := h2.hk.uniq ok k2.hk; subst eki
  have eus : us = us' := ext_getD (by rw [h2.ul, k2.ul]) fun i hi => (h2.hu i (by rw [← h2.ul]; exact hi)).uniq ok (k2.hu i (by rw [← h2.ul]; exact hi))
  subst eus
  have el := h2.hl.uniq ok k2.hl; subst el
  have ec := h2.hc.uniq ok k2.hc; subst ec
  exact h3.uniq ok k3
/-- One term locks one leaf. -/
theorem lock_leaf {Y : List ND} {v ex cx x : Int} {n m : TN} (h : LockAt Y v ex cx x n) (k : LockAt Y v ex cx x m) (hk : m.k = 1) : n = m := by
  obtain ⟨t, key, nonce, c, o, ki, li, us, h1, h2, h3⟩ := h
  obtain ⟨t', key', nonce', c', o', ki', li', us', k1, k2, k3⟩ := k
  have e1 := ndL (h3.eq k3)
  simp only [List.cons.injEq, and_true] at e1
  obtain ⟨-, -, -, ec⟩ := e1
  subst ec
  have e2 := ndL (h2.hc.eq k2.hc)
  rw [List.cons.injEq] at e2
  obtain ⟨eki, e3⟩ := e2
  subst eki
  have e4 : n.k = m.k := digB_inj (txS_eq (h2.hk.eq k2.hk))
  have pn : ptsF n o = [n.i, n.e, n.s, n.h] := by unfold ptsF; rw [if_neg (by omega), if_neg (by omega)]
  have pm : ptsF m o' = [m.i, m.e, m.s, m.h] := by unfold ptsF; rw [if_neg (by omega), if_neg (by omega)]
  rw [pn, pm] at e3
  simp only [List.cons_append, List.nil_append, List.cons.injEq, and_true] at e3
  obtain ⟨a1, a2, a3, a4, a5⟩ := e3
  subst a5
  have eus := ndL (h2.hl.eq k2.hl)
  subst eus
  have eu : n.u = m.u := ext_getD (by rw [← h2.ul, k2.ul]) fun i hi => digB_inj (txS_eq ((h2.hu i hi).eq (k2.hu i (by rw [← k2.ul, h2.ul]; exact hi))))
  obtain ⟨nk, ni, ne, ns, nh, nu⟩ := n
  obtain ⟨mk, mi, me, ms, mh, mu⟩ := m
  simp only at e4 a1 a2 a3 a4 eu
  rw [e4, a1, a2, a3, a4, eu]
theorem sameN_eq {x y : TN} : sameN x y = true ↔ x = y := by
  obtain ⟨a, b, c, d, e, f⟩ := x
  obtain ⟨a', b', c', d', e', f'⟩ := y
  unfold sameN
  simp only [Bool.and_eq_true, beq_iff_eq, TN.mk.injEq, and_assoc]
theorem sameT_refl : ∀ xs : List TN, sameT xs xs = true
  | [] => rfl
  | x :: xs => by rw [sameT, sameN_eq.2 rfl, sameT_refl xs]; rfl
/-- Begun again, where the export secret is there. -/
theorem be_again {Y : List ND} (ok : Okay Y) {ep : List Int} {cx ex : Int} (h : XpAt Y ex ep lbNodes cx) : beF Y ep cx = ⟨Y, 0⟩ ∧ beI Y ep cx = ex := by
  have := xp_again ok h
  unfold beF beI
  rw [this]
  exact ⟨rfl, rfl⟩
/-- The keys are made, where there is room. -/
theorem ky_room {Y : List ND} {ex x : Int} (he : hasB Y ex = true) (hx : I64 x) (hl : Y.length + 5 ≤ 100000) : (kyF ex ⟨Y, 0⟩ x).1.e = 0 := by
  have h1 : makE Y (txN (digB x)) = 0 := mk_may (by omega) (by rw [text_may]; exact decide_eq_true (by have h1 := hx.1; have h2 := hx.2; have := Lib.itoa_length_le x (by omega) (by omega); rw [digB_size]; omega))
  have e1 : kyA ⟨Y, 0⟩ x = (⟨makT Y (txN (digB x)), 0⟩, makI Y (txN (digB x))) := by
    unfold kyA doF txF
    rw [if_pos rfl]
    show ((⟨makT Y _, makE Y _⟩ : KS), _) = _
    rw [h1]; rfl
  obtain ⟨m, hm⟩ := mak_pre Y (txN (digB x))
  have hlen := mak_len Y (txN (digB x))
  have ht := (mk_at h1).1.has
  have hex : hasB (makT Y (txN (digB x))) ex = true := by rw [hm]; exact has_ext he m
  have h2 := exd_ok (lab := lbNode) hex ht (by decide) (by omega)
  have e2 : kyB ex ⟨Y, 0⟩ x = (⟨(exdF (makT Y (txN (digB x))) ex lbNode (makI Y (txN (digB x)))).1, 0⟩, (exdF (makT Y (txN (digB x))) ex lbNode (makI Y (txN (digB x)))).2.1) := by
    unfold kyB
    rw [e1]
    unfold doF
    rw [if_pos rfl]
    dsimp only
    rw [h2]
  have hlen2 := gw_exd ex lbNode (makI Y (txN (digB x))) (makT Y (txN (digB x)))
  obtain ⟨m2, hm2⟩ := (sb_exd ex lbNode (makI Y (txN (digB x)))).ext (makT Y (txN (digB x)))
  try dsimp only at hlen2 hm2
  have h3 := exd_ok (xs := (exdF (makT Y (txN (digB x))) ex lbNode (makI Y (txN (digB x)))).1) (s := ex) (c := makI Y (txN (digB x))) (lab := lbNonce) (by rw [hm2]; exact has_ext hex m2) (by rw [hm2]; exact has_ext ht m2) (by decide) (by omega)
  unfold kyF
  rw [e2, e1]
  unfold doF
  rw [if_pos rfl]
  exact h3
/-- What was locked elsewhere, under another epoch's secret, or with another context, does not open. -/
theorem end_no {Y : List ND} {ex ex' cx cx' v : Int} {x y : Int} {n : TN} (h : LockAt Y v ex cx y n) (hx : hasB Y cx' = true) (k : (kyF ex' ⟨Y, 0⟩ x).1.e = 0) (hne : ex ≠ ex' ∨ x ≠ y ∨ cx ≠ cx') :
    ∃ k' n' a' c', At Y v (ndN 9 [k', n', a', c']) ∧ hasB Y cx' = true ∧ ([k', n', a'] == [(kyB ex' ⟨Y, 0⟩ x).2, (kyF ex' ⟨Y, 0⟩ x).2, cx']) = false := by
  obtain ⟨t, key, nonce, c, o, ki, li, us, h1, h2, h3⟩ := h
  refine ⟨key, nonce, cx, c, h3, hx, ?_⟩
  rw [beq_eq_false_iff_ne]
  intro e
  simp only [List.cons.injEq, and_true] at e
  obtain ⟨ek, -, ec⟩ := e
  have g := ky_go ex' ⟨Y, 0⟩ x
  have k1 := (ky_at k).hk
  have kt := (ky_at k).ht
  have k2 := g.key h1.hk
  rw [ek] at k2
  obtain ⟨e1, -, e3⟩ := k2.eq k1
  rw [e3] at h1
  have e4 := txS_eq ((g.at h1.ht).eq kt)
  rcases hne with hne | hne | hne
  · exact hne e1
  · exact hne (digB_inj e4).symm
  · exact hne ec
/-- Two epochs' export secrets. -/
theorem xp_ne {Y : List ND} (ok : Okay Y) {ex ex' i c x i' c' x' cx cx' : Int} {l l' ep ep' : List Int} (h : XpAt Y ex ep lbNodes cx) (k : XpAt Y ex' ep' lbNodes cx') (hn : NxAt Y i c x l ep) (kn : NxAt Y i' c' x' l' ep') (hne : c ≠ c' ∨ cx ≠ cx') : ex ≠ ex' := by
  intro e
  subst e
  obtain ⟨y, h1, h2⟩ := h
  obtain ⟨y', k1, k2⟩ := k
  obtain ⟨e1, -, e3⟩ := h2.eq k2
  subst e1
  rcases hne with hne | hne
  · have := (nx_same ok hn kn 5 (by decide)).1 (h1.eq k1).1
    exact hne this.2.1
  · exact hne e3
/-- Where one does not open: what 'open_any' asks. -/
theorem no_open {Y : List ND} {ep : List Int} {l : List Int} {cx ex cx' v y : Int} {n : TN} {m : Nat} (hv : l.getD m 0 = v) (h : LockAt Y v ex cx y n) (hx : hasB Y cx' = true) (h5 : hasB Y (ep.getD 5 0) = true) (hl : Y.length + 20 ≤ 100000) (hm : m < 1000000) (hne : ex ≠ beI Y ep cx' ∨ (m : Int) ≠ y ∨ cx ≠ cx') :
    (beF Y ep cx').e = 0 ∧ (kyF (beI Y ep cx') (beF Y ep cx') m).1.e = 0 ∧ ∃ k' n' a' c', At (beF Y ep cx').x (l.getD m 0) (ndN 9 [k', n', a', c']) ∧ hasB (beF Y ep cx').x cx' = true ∧ ([k', n', a'] == [(kyB (beI Y ep cx') (beF Y ep cx') m).2, (kyF (beI Y ep cx') (beF Y ep cx') m).2, cx']) = false := by
  have e0 : (beF Y ep cx').e = 0 := xp_ok (lab := lbNodes) hx h5 (by decide) (by omega)
  have hat := xp_at (lab := lbNodes) (show (xpF Y ep lbNodes cx').2.2 = 0 from e0)
  have hh : hasB (beF Y ep cx').x (beI Y ep cx') = true := by obtain ⟨_, _, _, _, h2⟩ := hat; exact h2.has
  have hg := be_go Y ep cx'
  have hlen := hg.len
  obtain ⟨m2, hm2⟩ := hg.ext
  generalize beI Y ep cx' = ex' at *
  generalize beF Y ep cx' = B at *
  obtain ⟨BX, be⟩ := B
  dsimp only at e0 hm2 hlen hh ⊢
  subst e0
  refine ⟨rfl, ?_⟩
  have hk := ky_room (x := (m : Int)) hh ⟨by omega, by omega⟩ (by omega)
  refine ⟨hk, ?_⟩
  subst hm2
  rw [hv]
  exact end_no (h.ext m2) (has_ext hx m2) hk hne
/-- An epoch begun: its context and its secret are there. -/
theorem lkd_has {X Y : List ND} {ep : List Int} {cx ex : Int} {t : List TN} {l : List Int} (ok : Okay Y) (h : Lkd X ep cx t Y l ex) : hasB Y cx = true := by
  obtain ⟨y, _, h2⟩ := h.xp
  obtain ⟨t', _, k2⟩ := h2
  exact at_part ok k2 cx (by simp)
/-- A tree that may be reads as it was. -/
theorem nrm_chk {t : List TN} (h : chkB t = true) (hw : WfT t) : t.map nrm = t := by
  unfold chkB at h
  rw [Bool.and_eq_true, List.all_eq_true] at h
  refine List.ext_getElem (by simp) fun j h1 h2 => ?_
  rw [List.getElem_map]
  have ha := h.2 j (List.mem_range.2 h2)
  have hj : t[j]? = some t[j] := List.getElem?_eq_getElem h2
  unfold okAt at ha
  rw [hj] at ha
  have hwf := hw j _ hj
  generalize t[j] = x at *
  change okB t j x = true at ha
  unfold okB at ha
  obtain ⟨k, i, e, s, hh, u⟩ := x
  dsimp only at ha hwf ⊢
  by_cases h0 : k = 0
  · rw [if_pos h0, Bool.and_eq_true, beq_iff_eq, beq_iff_eq] at ha
    obtain ⟨z1, z2, z3, z4, z5⟩ := (orN_zero (x := ⟨k, i, e, s, hh, u⟩) hwf).1 ha.1
    dsimp only at z1 z2 z3 z4 z5
    subst z1; subst z2; subst z3; subst z4; subst z5
    rfl
  · rw [if_neg h0] at ha
    by_cases h2 : (j : Int) % 2 = 0
    · rw [if_pos h2, Bool.and_eq_true, beq_iff_eq] at ha
      unfold nrm
      dsimp only
      rw [if_neg h0, if_neg (by omega)]
    · rw [if_neg h2] at ha
      unfold parB at ha
      simp only [Bool.and_eq_true, beq_iff_eq] at ha
      unfold nrm
      dsimp only
      have hk : k = 2 := ha.1.1.1.1
      have hi : i = 0 := ha.1.1.1.2
      have hs : s = 0 := ha.1.1.2
      rw [if_neg h0, if_pos hk, hk, hi, hs]
theorem badN_g {X : List ND} {n : TN} (h : badN X n = false) : (n.k = 0 ∨ n.k = 1 ∨ n.k = 2) ∧ ∀ i ∈ n.u, 0 ≤ i ∧ i < 1000000000 := by
  unfold badN at h
  simp only [Bool.or_eq_false_iff, decide_eq_false_iff_not] at h
  refine ⟨by omega, fun i hi => ?_⟩
  have := List.any_eq_false.1 h.2 i hi
  simp only [Bool.or_eq_true, decide_eq_true_eq, not_or] at this
  omega
end Go.Proofs.YtfmkniakfgpgjaaGreatDoor

/- nodes: Patch, and the document's. -/
namespace Go.Proofs.YtfmkniakfgpgjaaGreatDoor
open Go.RowKit Go.KK Go.Shelf Go.Maps
set_option linter.unusedVariables false
set_option linter.unusedSimpArgs false

set_option maxHeartbeats 1000000 in
theorem ix_pat (p : Int → Bool) {q1 : Value} (A : Option Addr) (n c : Nat) (l : List Int) (W : World) (hl : SlA W 1 A n c (l.map (.int .i64))) (hn : n ≤ 2147483648)
    (hcl : ∀ W', Below W.heap.size W W' → ∀ x ∈ l, Calls Tryz.prog 66 #[.int .i64 x, q1] W' fun e w' => e = .returned (.bool (p x)) ∧ Below W'.heap.size W' w') :
    Calls Tryz.prog 78 #[.slice A n c, .func (.func 66) #[] #[q1]] W fun e w' => (∃ k : Int, e = .returned (.int .i64 k) ∧ decide (0 ≤ k) = l.any p) ∧ Below W.heap.size W w' := by
  have HS := hid hl; have HL := hid hl.lenI; have HCL := hid hcl
  clear hl hcl
  go_enter Tryz.func78, Tryz.ntmps78
  go_wp2
  go_loopw [8] (fun i wr => ∃ j : Nat, i = .int .i64 j ∧ j ≤ n ∧ Hid (l.any p = (l.drop j).any p) ∧ Hid (Below W.heap.size W wr)) (fun i _ => n - (intOf i).toNat)
  case atStart => exact ⟨0, rfl, by omega, hid rfl, hid (Below.refl _ _)⟩
  case round =>
    obtain ⟨j, hi, hj, HJ, HB⟩ := hrel
    subst hi
    by_cases hlt : j < n
    · obtain ⟨b1, o, z, rfl, hz, hc⟩ := (HS.out.ext HB.out).elemI hlt
      have hlt' : (j : Int) < (n : Int) := by omega
      have HD := hid (any_step (p := p) hz)
      have HC := hid (HCL.out wr HB.out z (List.mem_of_getElem? hz))
      clear hz
      rcases hh : p z with _ | _
      · have HF := hid (show l.any p = (l.drop (j + 1)).any p by rw [HJ.out, HD.out, hh]; rfl)
        rw [hh] at HC
        go_wp2_with (go_at_call 66; refine HC.out.mono ?_; rintro e w' ⟨rfl, hb⟩; have HB2 := hid (HB.out.trans (hb.mono HB.out.size)); clear hb)
        go_roundw
        case rel => exact ⟨j + 1, by go_num, by omega, HF, HB2⟩
        case measure => simp [intOf]; omega
      · have HF := hid (show l.any p = true by rw [HJ.out, HD.out, hh]; rfl)
        rw [hh] at HC
        go_wp2_with (go_at_call 66; refine HC.out.mono ?_; rintro e w' ⟨rfl, hb⟩; have HB2 := hid (HB.out.trans (hb.mono HB.out.size)); clear hb)
        go_ret
        exact ⟨⟨j, rfl, by rw [HF.out, decide_eq_true (by omega)]⟩, HB2.out⟩
    · have HF := hid (show l.any p = false by rw [HJ.out, List.drop_of_length_le (by have := HL.out; omega)]; rfl)
      go_wp2
      go_ret
      exact ⟨⟨-1, rfl, by rw [HF.out]; rfl⟩, HB.out⟩
theorem cf_pat (p : Int → Bool) {q1 : Value} (A : Option Addr) (n c : Nat) (l : List Int) (W : World) (hl : SlA W 1 A n c (l.map (.int .i64))) (hn : n ≤ 2147483648)
    (hcl : ∀ W', Below W.heap.size W W' → ∀ x ∈ l, Calls Tryz.prog 66 #[.int .i64 x, q1] W' fun e w' => e = .returned (.bool (p x)) ∧ Below W'.heap.size W' w') :
    Calls Tryz.prog 38 #[.slice A n c, .func (.func 66) #[] #[q1]] W fun e w' => e = .returned (.bool (l.any p)) ∧ Below W.heap.size W w' := by
  have HX := hid (ix_pat p A n c l W hl hn hcl)
  clear hl hcl
  go_enter Tryz.func38, Tryz.ntmps38
  go_wp2_with fail
  refine HX.out.mono ?_
  rintro e w' ⟨⟨k, rfl, hk⟩, hw⟩
  have HK := hid hk; have HW := hid hw
  clear hk hw
  go_wp2
  go_ret
  exact ⟨by rw [← HK.out]; rfl, HW.out⟩
theorem pat1_any (W : World) {A : Option Addr} {n c b : Nat} (hb : W.cell? ⟨b, 0, none⟩ = some (.slice A n c)) (hn : n ≤ 1000000) (x : Int) :
    Calls Tryz.prog 66 #[.int .i64 x, .pointer (some ⟨b, 0, none⟩)] W fun e w' => e = .returned (.bool (decide (x < 0) || decide ((n : Int) ≤ x))) ∧ Below W.heap.size W w' := by
  by_cases h0 : x < 0
  · have HF := hid (show decide (x < 0) = true from decide_eq_true h0)
    go_enter Tryz.func66, Tryz.ntmps66
    go_wp2_with fail
    go_ret
    exact ⟨by rw [HF.out]; rfl, Below.refl _ _⟩
  · have HF := hid (show decide (x < 0) = false from decide_eq_false h0)
    rw [HF.out]
    go_enter Tryz.func66, Tryz.ntmps66
    go_wp2_with fail
    go_ret
    exact ⟨rfl, Below.refl _ _⟩
/-- What Patch leaves. -/
def PaS (w : World) (r : List Int × Int) (e : Ending) (w' : World) : Prop := ∃ v, e = .returned (.tuple #[v, .int .i64 r.2]) ∧ w'.ownsRow w.heap.size 3 1 v r.1.length (r.1.map (.int .i64)) ∧ Below w.heap.size w w'
theorem own_at {w : World} {base n : Nat} {e : TypeId} {v : Value} {l : List Int} (h : w.ownsRow base e 1 v n (l.map (.int .i64))) {y : Nat} (hy : y < l.length) : ∃ g cap, v = .slice (some ⟨g, 0, none⟩) n cap ∧ base ≤ g ∧ w.cell? ⟨g, y, none⟩ = some (.int .i64 (l.getD y 0)) ∧ w.frozen? ⟨g, y, none⟩ = false := by
  rcases h.2 with ⟨_, h2⟩ | ⟨g, cap, cur, rfl, hb, _⟩
  · have h1 := h.1
    rw [List.length_map] at h1
    omega
  · refine ⟨g, cap, rfl, hb, ?_, h.frozenAt y⟩
    have := h.cells (g := g) rfl y (.int .i64 (l.getD y 0)) (by rw [List.getElem?_map, List.getD_eq_getElem?_getD, List.getElem?_eq_getElem hy]; rfl)
    rwa [add_lit, Nat.zero_add] at this
set_option maxHeartbeats 2000000 in
set_option maxRecDepth 20000 in
theorem patch_any (A : Option Addr) (n c : Nat) (l : List Int) (B : Option Addr) (m d : Nat) (a : List Int) (C : Option Addr) (k f : Nat) (ww : List Int) (w : World) (h : SlA w 1 A n c (l.map (.int .i64))) (h2 : SlA w 1 B m d (a.map (.int .i64))) (h3 : SlA w 1 C k f (ww.map (.int .i64))) (hn : n ≤ 1000000) (hm : m ≤ 1000000) (hk : k ≤ 1000000) :
    Calls Tryz.prog 25 #[.slice A n c, .slice B m d, .slice C k f] w (PaS w (patF l a ww)) := by
  have HLN := hid h.lenI; have HAN := hid h2.lenI; have HWN := hid h3.lenI
  have b1 : Below w.heap.size w (w.alloc (.cells #[.slice A n c] 33)) := (Below.refl _ _).alloc (Nat.le_refl _) _
  have HS := hid (h.ext b1); have HS2 := hid (h2.ext b1); have HS3 := hid (h3.ext b1)
  have B1 := hid b1
  clear h h2 h3 b1
  by_cases hmk : m = k
  · subst hmk
    have HPB := hid (show patB l a ww = a.any (fun x => decide (x < 0) || decide ((n : Int) ≤ x)) by
      unfold patB
      rw [HLN.out, decide_eq_false (by rw [HAN.out, HWN.out]; simp), Bool.false_or])
    have HCF := hid (cf_pat (fun x => decide (x < 0) || decide ((n : Int) ≤ x)) (q1 := .pointer (some ⟨w.heap.size, 0, none⟩)) B m d a (w.alloc (.cells #[.slice A n c] 33)) HS2.out (by omega) fun W' hb x _ => pat1_any W' (A := A) (n := n) (c := c) (by rw [hb.cell (p := ⟨w.heap.size, 0, none⟩) (by simp), World.cell?_alloc_at _ _ _ 0 rfl]; rfl) hn x)
    rcases hany : a.any (fun x => decide (x < 0) || decide ((n : Int) ≤ x)) with _ | _
    · rw [hany] at HCF HPB
      have HPF := hid (show patF l a ww = (ptS l a ww m, 0) by unfold patF; rw [HPB.out, if_neg (by decide), HAN.out])
      have HIN := hid (show ∀ x ∈ a, 0 ≤ x ∧ x < (n : Int) from fun x hx => by
        have := List.any_eq_false.1 hany x hx
        simp only [Bool.or_eq_true, decide_eq_true_eq, not_or] at this
        omega)
      clear hany
      rw [HPF.out]
      go_enter Tryz.func25, Tryz.ntmps25
      go_wp2_with fail
      refine HCF.out.mono ?_
      rintro e w2 ⟨rfl, hb2⟩
      have B2 := hid (B1.out.trans (hb2.mono B1.out.size))
      have S1 := hid (HS.out.ext hb2); have S2 := hid (HS2.out.ext hb2); have S3 := hid (HS3.out.ext hb2)
      have hc2 : w2.cell? ⟨w.heap.size, 0, none⟩ = some (.slice A n c) := by rw [hb2.cell (p := ⟨w.heap.size, 0, none⟩) (by simp), World.cell?_alloc_at _ _ _ 0 rfl]; rfl
      clear hb2 HS HS2 HS3 HCF
      have HCL := hid (clone_int A n c l w2 S1.out (by omega))
      go_wp2_with fail
      refine HCL.out.mono ?_
      rintro e w3 ⟨v, rfl, own3, hb3⟩
      have O3 := hid own3; have HB3 := hid hb3
      clear own3 hb3 HCL hc2
      go_wp2_with fail
      go_loopw [25] (fun i wr => ∃ j : Nat, i = .int .i64 j ∧ j ≤ m ∧ wr.ownsRow w2.heap.size 3 1 v n ((ptS l a ww j).map (.int .i64)) ∧ Below w2.heap.size w2 wr) (fun i _ => m - (intOf i).toNat)
      case atStart => exact ⟨0, rfl, by omega, O3.out, HB3.out⟩
      case round =>
        clear O3 HB3
        obtain ⟨j, hi, hj, hown, hbr⟩ := hrel
        subst hi
        have HO := hid hown; have HB := hid hbr
        clear hown hbr
        by_cases hlt : j < m
        · obtain ⟨b, off, x, rfl, hx, hcx⟩ := (S2.out.ext HB.out).elemI hlt
          obtain ⟨b', off', z, rfl, hz, hcz⟩ := (S3.out.ext HB.out).elemI hlt
          have hlt' : (j : Int) < (m : Int) := by omega
          obtain ⟨hx0, hxn⟩ := HIN.out x (List.mem_of_getElem? hx)
          obtain ⟨y, rfl⟩ := Int.eq_ofNat_of_zero_le hx0
          have hyn : y < n := by omega
          obtain ⟨g, cap, rfl, hg, hcy, hfy⟩ := own_at HO.out (y := y) (by rw [ptS_len, HLN.out]; exact hyn)
          have HST := hid (show ptS l a ww (j + 1) = (ptS l a ww j).set y z by
            rw [ptS, List.getD_eq_getElem?_getD, List.getD_eq_getElem?_getD, hx, hz]; rfl)
          have HG := hid hg
          clear hx hz hg
          go_wp2_with fail
          go_roundw
          case rel =>
            refine ⟨j + 1, by go_num, by omega, ?_, HB.out.setCell (p := ⟨g, y, none⟩) HG.out _⟩
            rw [HST.out, List.map_set]
            exact (HO.out.stored y (.int .i64 z)).1
          case measure => simp [intOf]; omega
        · obtain rfl : j = m := by omega
          have hlt' : ¬ (j : Int) < (j : Int) := by omega
          have HPL := hid (ptS_len l a ww j)
          go_wp2_with fail
          go_ret2
          refine ⟨_, rfl, ?_, B2.out.trans (HB.out.mono B2.out.size)⟩
          show World.ownsRow _ _ _ _ _ (ptS l a ww j).length _
          rw [HPL.out, HLN.out]
          exact own_mono HO.out B2.out.size
    · rw [hany] at HCF HPB
      have HPF := hid (show patF l a ww = ([], 1) by unfold patF; rw [HPB.out, if_pos rfl])
      clear hany
      rw [HPF.out]
      go_enter Tryz.func25, Tryz.ntmps25
      go_wp2_with fail
      refine HCF.out.mono ?_
      rintro e w2 ⟨rfl, hb2⟩
      have B2 := hid (B1.out.trans (hb2.mono B1.out.size))
      clear hb2
      go_wp2_with fail
      go_ret2
      exact ⟨_, rfl, World.ownsRow_nil _ _ _ _, B2.out⟩
  · have HPF := hid (show patF l a ww = ([], 1) by unfold patF patB; rw [decide_eq_true (by rw [HAN.out, HWN.out]; exact hmk)]; rfl)
    have hmk' : ((m : Int) != (k : Int)) = true := bne_iff_ne.2 (by omega)
    clear hmk
    rw [HPF.out]
    go_enter Tryz.func25, Tryz.ntmps25
    go_wp2_with fail
    go_ret2
    exact ⟨_, rfl, World.ownsRow_nil _ _ _ _, B1.out⟩
theorem pat_bad {l a ww : List Int} {j : Nat} {x : Int} (hl : a.length = ww.length) (hx : a[j]? = some x) (hb : x < 0 ∨ (l.length : Int) ≤ x) : patF l a ww = ([], 1) := by
  unfold patF patB
  have : a.any (fun x => decide (x < 0) || decide ((l.length : Int) ≤ x)) = true := List.any_eq_true.2 ⟨x, List.mem_of_getElem? hx, by simpa using hb⟩
  rw [this, Bool.or_true, if_pos rfl]
theorem pat_good {l a ww : List Int} (hl : a.length = ww.length) (h : ∀ i : Nat, i < a.length → 0 ≤ a.getD i 0 ∧ a.getD i 0 < (l.length : Int)) : patF l a ww = (ptS l a ww a.length, 0) := by
  unfold patF patB
  rw [decide_eq_false (by simpa using hl), Bool.false_or]
  have : a.any (fun x => decide (x < 0) || decide ((l.length : Int) ≤ x)) = false := List.any_eq_false.2 fun x hx => by
    obtain ⟨i, hi, rfl⟩ := List.mem_iff_getElem.1 hx
    have := h i hi
    rw [List.getD_eq_getElem?_getD, List.getElem?_eq_getElem hi] at this
    simp only [Option.getD_some] at this
    simp; omega
  rw [this, if_neg (by decide)]
set_option maxHeartbeats 2000000 in
set_option maxRecDepth 20000 in
theorem rpatch_any (A : Option Addr) (n c : Nat) (l : List Int) (B : Option Addr) (m d : Nat) (a : List Int) (C : Option Addr) (k f : Nat) (ww : List Int) (w : World) (h : SlA w 1 A n c (l.map (.int .i64))) (h2 : SlA w 1 B m d (a.map (.int .i64))) (h3 : SlA w 1 C k f (ww.map (.int .i64))) (hn : n ≤ 1000000) (hm : m ≤ 1000000) (hk : k ≤ 1000000) :
    Calls Tryz.prog 26 #[.slice A n c, .slice B m d, .slice C k f] w (PaS w (patF l a ww)) := by
  have HLN := hid h.lenI; have HAN := hid h2.lenI; have HWN := hid h3.lenI
  obtain ⟨i0, hi, hz0, hz1, hz2⟩ := info_parts Tryz.infoInt
  have HS := hid h; have HS2 := hid h2; have HS3 := hid h3
  clear h h2 h3
  by_cases hmk : m = k
  · subst hmk
    have HLL := hid (show a.length = ww.length by rw [HAN.out, HWN.out])
    obtain ⟨R, hR⟩ : ∃ R, R = patF l a ww := ⟨_, rfl⟩
    have HR := hid hR
    rw [← hR]
    clear hR
    go_enter Tryz.func26, Tryz.ntmps26
    go_wp2_with (first
      | (at_builtin; refine wpList_append_new _ rfl _ _ 33 rfl 3 i0 (.int .i64 0) 1 8 Tryz.underlying33 hi hz0 hz1 hz2 rfl (by decide) rfl A n c (l.map (.int .i64)) rfl HS.out (ints_one _ _) (by unfold maxLen; omega) (by omega) ?_; intro v w3 own3 hb3; have O3 := hid own3; have HB3 := hid hb3; clear own3 hb3)
      | fail)
    go_loopw [20] (fun i wr => ∃ j : Nat, i = .int .i64 j ∧ j ≤ m ∧ (∀ i : Nat, i < j → 0 ≤ a.getD i 0 ∧ a.getD i 0 < (l.length : Int)) ∧ wr.ownsRow w.heap.size 3 1 v n ((ptS l a ww j).map (.int .i64)) ∧ Below w.heap.size w wr) (fun i _ => m - (intOf i).toNat)
    case atStart => exact ⟨0, rfl, by omega, fun i hi => absurd hi (Nat.not_lt_zero _), O3.out, HB3.out⟩
    case round =>
      clear O3 HB3
      obtain ⟨j, hij, hj, hgd, hown, hbr⟩ := hrel
      subst hij
      have HO := hid hown; have HB := hid hbr; have HGD := hid hgd
      clear hown hbr hgd
      by_cases hlt : j < m
      · obtain ⟨b, off, x, rfl, hx, hcx⟩ := (HS2.out.ext HB.out).elemI hlt
        obtain ⟨b', off', z, rfl, hz, hcz⟩ := (HS3.out.ext HB.out).elemI hlt
        have hlt' : (j : Int) < (m : Int) := by omega
        by_cases hbad : x < 0 ∨ (n : Int) ≤ x
        · have HRB := hid (show R = ([], 1) by rw [HR.out]; exact pat_bad HLL.out hx (by rw [HLN.out]; exact hbad))
          clear hx hz
          by_cases h0 : x < 0
          · clear hbad
            go_wp2_with fail
            go_ret2
            rw [HRB.out]
            exact ⟨_, rfl, World.ownsRow_nil _ _ _ _, HB.out⟩
          · have hge : (n : Int) ≤ x := by omega
            clear hbad
            go_wp2_with fail
            go_ret2
            rw [HRB.out]
            exact ⟨_, rfl, World.ownsRow_nil _ _ _ _, HB.out⟩
        · have hx0 : 0 ≤ x := by omega
          have hxn : x < (n : Int) := by omega
          clear hbad
          obtain ⟨y, rfl⟩ := Int.eq_ofNat_of_zero_le hx0
          have hyn : y < n := by omega
          obtain ⟨g, cap, rfl, hg, hcy, hfy⟩ := own_at HO.out (y := y) (by rw [ptS_len, HLN.out]; exact hyn)
          have HST := hid (show ptS l a ww (j + 1) = (ptS l a ww j).set y z by
            rw [ptS, List.getD_eq_getElem?_getD, List.getD_eq_getElem?_getD, hx, hz]; rfl)
          have HGN := hid (show ∀ i : Nat, i < j + 1 → 0 ≤ a.getD i 0 ∧ a.getD i 0 < (l.length : Int) from fun i hi => by
            by_cases e : i = j
            · subst e
              rw [List.getD_eq_getElem?_getD, hx, HLN.out]
              simp only [Option.getD_some]; omega
            · exact HGD.out i (by omega))
          have HG := hid hg
          have hy1 : ¬ (n : Int) ≤ (y : Int) := by omega
          clear hx hz hg
          go_wp2_with fail
          go_roundw
          case rel =>
            refine ⟨j + 1, by go_num, by omega, HGN.out, ?_, HB.out.setCell (p := ⟨g, y, none⟩) HG.out _⟩
            rw [HST.out, List.map_set]
            exact (HO.out.stored y (.int .i64 z)).1
          case measure => simp [intOf]; omega
      · obtain rfl : j = m := by omega
        have hlt' : ¬ (j : Int) < (j : Int) := by omega
        have HPL := hid (ptS_len l a ww j)
        have HRG := hid (show R = (ptS l a ww j, 0) by rw [HR.out, pat_good HLL.out (fun i hi => HGD.out i (by rw [← HAN.out]; exact hi)), HAN.out])
        go_wp2_with fail
        go_ret2
        rw [HRG.out]
        refine ⟨_, rfl, ?_, HB.out⟩
        show World.ownsRow _ _ _ _ _ (ptS l a ww j).length _
        rw [HPL.out, HLN.out]
        exact HO.out
  · have HPF := hid (show patF l a ww = ([], 1) by unfold patF patB; rw [decide_eq_true (by rw [HAN.out, HWN.out]; exact hmk)]; rfl)
    have hmk' : ((m : Int) != (k : Int)) = true := bne_iff_ne.2 (by omega)
    clear hmk
    rw [HPF.out]
    go_enter Tryz.func26, Tryz.ntmps26
    go_wp2_with fail
    go_ret2
    exact ⟨_, rfl, World.ownsRow_nil _ _ _ _, Below.refl _ _⟩
end Go.Proofs.YtfmkniakfgpgjaaGreatDoor

/- the document's arena beside the law's: calls that take a step. -/
namespace Go.Proofs.YtfmkniakfgpgjaaGreatDoor
open Go.RowKit Go.KK Go.Shelf Go.Maps
set_option linter.unusedVariables false
set_option linter.unusedSimpArgs false

/-- The document's arena, and what the call has left alone. -/
structure LQ (w0 W : World) (Z : Nat → Prop) (sb : Nat) (ys : List ND) : Prop where
  ar : AQ W Z sb ys
  z : ∀ b, Z b → w0.heap.size ≤ b
  bl : Below w0.heap.size w0 W
section
variable {w0 W W' : World} {Z Z' Z2 : Nat → Prop} {sa sb : Nat} {xs xs' ys ys' : List ND}
theorem LQ.mv (h : LQ w0 W Z sb ys) (m : Mv Z W Z' W') (ha : AQ W' Z' sb ys') : LQ w0 W' Z' sb ys' :=
  ⟨ha, fun b hb => (m.n b hb).elim (h.z b) fun h' => Nat.le_trans h.bl.size h', h.bl.trans (m.t.below h.z h.bl.size)⟩
theorem LQ.ext (h : LQ w0 W Z sb ys) (hb : Below W.heap.size W W') : LQ w0 W' Z sb ys := h.mv (.below hb) (h.ar.ext hb)
theorem LQ.alloc (h : LQ w0 W Z sb ys) (o : Obj) : LQ w0 (W.alloc o) Z sb ys := h.ext ((Below.refl _ _).alloc (Nat.le_refl _) o)
theorem LQ.sz (h : LQ w0 W Z sb ys) : w0.heap.size ≤ W.heap.size := h.bl.size
/-- Both arenas, side by side: the law's holds these nodes, the document's those. -/
structure Tx (w0 W : World) (sa sb : Nat) (Z Z' : Nat → Prop) (xs ys : List ND) : Prop where
  a : LA w0 W Z sa xs
  b : LQ w0 W Z' sb ys
  d : ∀ b, Z b → ¬ Z' b
theorem Tx.of {xs : List ND} (h : Tw w0 W sa sb Z Z' xs) : Tx w0 W sa sb Z Z' xs xs := ⟨⟨h.a, h.za, h.bl⟩, ⟨h.b, h.zb, h.bl⟩, h.d⟩
/-- The law's arena took a step. -/
theorem Tx.onA (h : Tx w0 W sa sb Z Z' xs ys) (la : LA w0 W' Z2 sa xs') (m : Mv Z W Z2 W') : Tx w0 W' sa sb Z2 Z' xs' ys :=
  ⟨la, ⟨h.b.ar.turn m.t fun b hb k => h.d b k hb, h.b.z, la.bl⟩, fun b hb hb' => by
    rcases m.n b hb with k | k
    · exact h.d b k hb'
    · have := h.b.ar.zlt b hb'; omega⟩
/-- The document's arena took a step. -/
theorem Tx.onB (h : Tx w0 W sa sb Z Z' xs ys) (lq : LQ w0 W' Z2 sb ys') (m : Mv Z' W Z2 W') : Tx w0 W' sa sb Z Z2 xs ys' :=
  ⟨⟨AR.turn h.a.ar m.t fun b hb k => h.d b hb k, h.a.z, lq.bl⟩, lq, fun b hb hb' => by
    rcases m.n b hb' with k | k
    · exact h.d b hb k
    · have := h.a.ar.zlt b hb; omega⟩
theorem Tx.ext (h : Tx w0 W sa sb Z Z' xs ys) (hb : Below W.heap.size W W') : Tx w0 W' sa sb Z Z' xs ys := ⟨h.a.ext hb, h.b.ext hb, h.d⟩
theorem Tx.alloc (h : Tx w0 W sa sb Z Z' xs ys) (o : Obj) : Tx w0 (W.alloc o) sa sb Z Z' xs ys := h.ext ((Below.refl _ _).alloc (Nat.le_refl _) o)
/-- A call of the document's that takes a step. -/
def LrQ (w0 W : World) (Z : Nat → Prop) (sb : Nat) (r : Rs) (e : Ending) (w' : World) : Prop := ∃ Z', e = .returned (.tuple #[.int .i64 r.2.1, .int .i64 r.2.2]) ∧ LQ w0 w' Z' sb r.1 ∧ Mv Z W Z' w'
theorem q_mke (h : LQ w0 W Z sb ys) {x : ND} {A : Option Addr} {c : Nat} (hl : SlA W 1 A x.l.length c (x.l.map (.int .i64))) (hx : NdI x) :
    Calls Tryz.prog 74 #[.pointer (some ⟨sb, 0, none⟩), .agg #[.int .i64 x.o, .int .i64 x.n, .string x.s, .slice A x.l.length c]] W (LrQ w0 W Z sb (mk ys x)) := by
  refine (rmke_any Z sb ys W x A c h.ar hl hx).mono ?_
  rintro e w' ⟨rfl, Z', h1, h2, h3⟩
  exact ⟨Z', rfl, h.mv ⟨h2, h3⟩ h1, ⟨h2, h3⟩⟩
theorem q_of (h : LQ w0 W Z sb ys) {o : Int} {A : Option Addr} {n c : Nat} {l : List Int} (hl : SlA W 1 A n c (l.map (.int .i64))) (ho : I64 o) (hi : ∀ i ∈ l, I64 i) :
    Calls Tryz.prog 54 #[.pointer (some ⟨sb, 0, none⟩), .int .i64 o, .slice A n c] W (LrQ w0 W Z sb (mk ys (ndN o l))) := by
  have e := hl.lenI
  subst e
  have HM := hid (q_mke h (x := ndN o l) hl (ndI_nd ho hi))
  clear h hl
  go_enter Tryz.func54, Tryz.ntmps54
  go_wp2_with fail
  refine HM.out.mono ?_
  rintro e w' ⟨Z', rfl, h1, h2⟩
  have H1 := hid h1; have H2 := hid h2
  clear h1 h2
  go_wp2_with fail
  go_ret2
  exact ⟨Z', rfl, H1.out, H2.out⟩
theorem q_list (h : LQ w0 W Z sb ys) {A : Option Addr} {n c : Nat} {l : List Int} (hl : SlA W 1 A n c (l.map (.int .i64))) (hi : ∀ i ∈ l, I64 i) :
    Calls Tryz.prog 93 #[.pointer (some ⟨sb, 0, none⟩), .slice A n c] W (LrQ w0 W Z sb (mk ys (ndN 3 l))) := by
  have HM := hid (q_of h (o := 3) hl (i64_lit (by decide) (by decide)) hi)
  clear h hl hi
  generalize mk ys (ndN 3 l) = r at *
  unfold LrQ at HM ⊢
  go_enter Tryz.func93, Tryz.ntmps93
  go_wp2_with fail
  refine HM.out.mono ?_
  rintro e w' ⟨Z', rfl, h1, h2⟩
  have H1 := hid h1; have H2 := hid h2
  clear h1 h2
  go_wp2_with fail
  go_ret2
  exact ⟨Z', rfl, H1.out, H2.out⟩
theorem q_text (h : LQ w0 W Z sb ys) (s : ByteArray) :
    Calls Tryz.prog 91 #[.pointer (some ⟨sb, 0, none⟩), .string s] W (LrQ w0 W Z sb (mk ys (txN s))) := by
  have HM := hid (q_mke h (x := txN s) (SlA.nil _ _) (ndI_tx s))
  clear h
  go_enter Tryz.func91, Tryz.ntmps91
  go_wp2_with fail
  refine HM.out.mono ?_
  rintro e w' ⟨Z', rfl, h1, h2⟩
  have H1 := hid h1; have H2 := hid h2
  clear h1 h2
  go_wp2_with fail
  go_ret2
  exact ⟨Z', rfl, H1.out, H2.out⟩
end
end Go.Proofs.YtfmkniakfgpgjaaGreatDoor

