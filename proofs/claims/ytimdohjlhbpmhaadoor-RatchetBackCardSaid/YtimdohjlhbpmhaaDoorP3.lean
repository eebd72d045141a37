/- Check, both ways: one answer. -/
import Derived.Test.YtimdohjlhbpmhaaDoorP2
namespace Go.Proofs.YtimdohjlhbpmhaaDoor
open Go.RowKit Go.KK Go.Shelf
set_option linter.unusedVariables false
set_option linter.unusedSimpArgs false

theorem pres_nat {xs : List TN} {j : Nat} (h : j < lvN xs.length) : pres xs (j : Int) = (kd xs (2 * j) == 1) := by
  unfold pres
  rw [show (2 * (j : Int)).toNat = 2 * j by omega, decide_eq_true (show (0 : Int) ≤ (j : Int) by omega), decide_eq_true (show (j : Int) < (lvN xs.length : Int) by omega)]
  rfl
theorem half_some (xs : List TN) : halfB xs = !someB xs (lvN xs.length / 2) (lvN xs.length) := by
  rw [Bool.eq_iff_iff]
  unfold halfB someB
  rw [List.all_eq_true, Bool.not_eq_true', List.any_eq_false]
  constructor
  · intro h j hj hh
    have hj' := List.mem_range.1 hj
    simp only [Bool.and_eq_true, decide_eq_true_eq] at hh
    have := h j hj
    rw [decide_eq_false (show ¬ j < lvN xs.length / 2 by omega), pres_nat hj', hh.2] at this
    cases this
  · intro h j hj
    have hj' := List.mem_range.1 hj
    by_cases hl : j < lvN xs.length / 2
    · rw [decide_eq_true hl]; rfl
    · have := h j hj
      rw [decide_eq_true (show lvN xs.length / 2 ≤ j by omega), Bool.true_and] at this
      rw [pres_nat hj', Bool.eq_false_iff.2 this, Bool.not_false, Bool.or_true]
theorem some_mono {xs : List TN} {a b : Nat} (h : someB xs a b = true) : someB xs 0 b = true := by
  unfold someB at h ⊢
  rw [List.any_eq_true] at h ⊢
  obtain ⟨j, hj, hh⟩ := h
  simp only [Bool.and_eq_true, decide_eq_true_eq] at hh
  exact ⟨j, hj, by rw [hh.2]; simp⟩
theorem one_eq {xs : List TN} {x : Nat} (hf : fullN (lvN xs.length : Int) = true) (hn : 2 * (lvN xs.length : Int) - 1 = xs.length) (hx : x < xs.length) (hodd : x % 2 = 1) (i : Int) (h0 : lfA (x : Int) ≤ i) :
    oneB xs (x : Int) i = (decide (i < lfB (x : Int)) && (kd xs (2 * i).toNat == 1) && midB xs x i) := by
  have hN := fullN_le hf
  have hle := lf_le hf (show x < 2 * lvN xs.length - 1 by omega)
  have hi0 : 0 ≤ i := by omega
  obtain ⟨m, rfl⟩ := Int.eq_ofNat_of_zero_le hi0
  unfold oneB
  rw [decide_eq_true h0, Bool.true_and, show (2 * (m : Int)).toNat = 2 * m by omega]
  by_cases h1 : (m : Int) < lfB (x : Int)
  · rw [decide_eq_true h1, Bool.true_and, Bool.true_and, pres_nat (by omega)]
    rcases hk : (kd xs (2 * m) == 1) with _ | _
    · rfl
    · rw [Bool.true_and, Bool.true_and]
      obtain ⟨K, hK, hp⟩ := full_pow hf
      exact (mid_eq hK (by rw [← hp]; omega) hx hodd (by rw [← hp]; omega) h0 h1 (beq_iff_eq.1 hk)).symm
  · rw [decide_eq_false h1]; rfl
theorem par_eq {xs : List TN} {x : Nat} (hf : fullN (lvN xs.length : Int) = true) (hn : 2 * (lvN xs.length : Int) - 1 = xs.length) (hx : x < xs.length) (hodd : x % 2 = 1) (u : List Int) :
    (riseB u && u.all (oneB xs (x : Int))) = rparF xs x (lfA (x : Int) - 1) u := by
  rw [Bool.eq_iff_iff, Bool.and_eq_true, rise_iff, rpar_iff, List.all_eq_true]
  constructor
  · rintro ⟨a, b⟩
    have lo : ∀ i ∈ u, lfA (x : Int) ≤ i := fun i hi => by
      have := b i hi
      unfold oneB at this
      simp only [Bool.and_eq_true, decide_eq_true_eq] at this
      exact this.1.1.1
    refine ⟨fun i hi => by have := lo i hi; omega, a, fun i hi => ?_⟩
    have := b i hi
    rw [one_eq hf hn hx hodd i (lo i hi)] at this
    simp only [Bool.and_eq_true, decide_eq_true_eq, beq_iff_eq] at this
    exact ⟨this.1.1, this.1.2, this.2⟩
  · rintro ⟨a, b, c⟩
    refine ⟨b, fun i hi => ?_⟩
    obtain ⟨c1, c2, c3⟩ := c i hi
    rw [one_eq hf hn hx hodd i (by have := a i hi; omega)]
    simp only [Bool.and_eq_true, decide_eq_true_eq, beq_iff_eq]
    exact ⟨⟨c1, c2⟩, c3⟩
theorem at_eq {xs : List TN} {x : Nat} (hw : WfT xs) (hf : fullN (lvN xs.length : Int) = true) (hn : 2 * (lvN xs.length : Int) - 1 = xs.length) (hx : x < xs.length) : okAt xs x = rnodeAt xs x := by
  have hq : xs[x]? = some xs[x] := List.getElem?_eq_getElem hx
  unfold okAt rnodeAt
  rw [hq]
  have hwf := hw x _ hq
  generalize xs[x] = y at *
  show okB xs x y = rnodeB xs x y
  unfold okB rnodeB
  by_cases h0 : y.k = 0
  · rw [if_pos h0, if_pos h0]
    unfold zerB
    rw [Bool.eq_iff_iff]
    simp only [Bool.and_eq_true, beq_iff_eq]
    rw [orN_zero hwf]
    constructor
    · rintro ⟨⟨a, b, c, d, e⟩, f⟩; exact ⟨⟨⟨⟨⟨a, b⟩, c⟩, d⟩, e⟩, f⟩
    · rintro ⟨⟨⟨⟨⟨a, b⟩, c⟩, d⟩, e⟩, f⟩; exact ⟨⟨a, b, c, d, e⟩, f⟩
  · rw [if_neg h0, if_neg h0]
    by_cases h2 : (x : Int) % 2 = 0
    · rw [if_pos h2, if_pos h2]; rfl
    · rw [if_neg h2, if_neg h2]
      unfold parB
      rw [← par_eq hf hn hx (by omega) y.u]
      simp only [Bool.and_assoc]
theorem rchk_any (A : Option Addr) (n c : Nat) (xs : List TN) (w : World) (ht : Tr w A n c xs) (hnm : n ≤ 600) (hu : Shorts xs) (hw : WfT xs) :
    Calls Tryd.prog 21 #[.slice A n c] w fun e w' => e = .returned (.int .i64 (chkE xs)) ∧ Below w.heap.size w w' := by
  have hl := ht.len
  by_cases h0 : rlv n = 0
  · have hc : chkE xs = 1 := by
      unfold chkE chkB
      rw [hl]
      unfold rlv at h0
      split at h0
      · rename_i hh
        simp only [Bool.and_eq_true] at hh
        have := fullN_le hh.1
        omega
      · rename_i hh
        rw [Bool.eq_false_iff.2 hh]; rfl
    rw [hc]; exact rcheck_no A n c xs w ht hnm (.inl h0)
  · obtain ⟨hf, hn, hr⟩ := rlv_some h0
    rcases hs : someB xs (lvN n / 2) (lvN n) with _ | _
    · have hh : halfB xs = true := by rw [half_some, hl, hs]; rfl
      have hc : chkE xs = 1 := by unfold chkE chkB; rw [hh]; simp
      rw [hc]
      refine rcheck_no A n c xs w ht hnm ?_
      rcases hs0 : someB xs 0 (lvN n) with _ | _
      · exact .inr (.inl ⟨h0, rfl⟩)
      · refine .inr (.inr ⟨h0, rfl, ?_, hs⟩)
        rcases Nat.lt_or_ge 1 (lvN n) with h | h
        · exact h
        · have h1 : lvN n = 1 := by have := fullN_le hf; omega
          rw [h1] at hs hs0
          rw [show (1 : Nat) / 2 = 0 from rfl, hs0] at hs
          cases hs
    · have hh : halfB xs = false := by rw [half_some, hl, hs]; rfl
      have hc : chkE xs = rallR xs := by
        unfold chkE chkB rallR
        rw [hl, hf, hh, hn]
        have e : (List.range n).all (okAt xs) = (List.range n).all (rnodeAt xs) := by
          rw [Bool.eq_iff_iff, List.all_eq_true, List.all_eq_true]
          constructor
          · intro h j hj; rw [← at_eq hw (by rw [hl]; exact hf) (by rw [hl]; exact hn) (by rw [hl]; exact List.mem_range.1 hj)]; exact h j hj
          · intro h j hj; rw [at_eq hw (by rw [hl]; exact hf) (by rw [hl]; exact hn) (by rw [hl]; exact List.mem_range.1 hj)]; exact h j hj
        rw [e]
        simp
      rw [hc]
      exact rcheck_go A n c xs w ht hnm hu h0 (some_mono hs) (.inr hs)
/-- What a tree that may be is. -/
theorem chk_bare {xs : List TN} (h : chkB xs = true) : Bare xs := by
  obtain ⟨_, _, _, h4⟩ := chk_full h
  intro j x hx hk
  have hj := (List.getElem?_eq_some_iff.1 hx).1
  have := h4 j hj
  unfold okAt at this
  rw [hx] at this
  replace this : okB xs j x = true := this
  unfold okB at this
  split at this
  · simp only [Bool.and_eq_true, beq_iff_eq] at this
    exact List.eq_nil_of_length_eq_zero (by omega)
  · split at this
    · simp only [Bool.and_eq_true, beq_iff_eq] at this
      exact List.eq_nil_of_length_eq_zero (by omega)
    · unfold parB at this
      simp only [Bool.and_eq_true, beq_iff_eq] at this
      exact absurd this.1.1.1.1 hk
theorem chk_par {xs : List TN} (h : chkB xs = true) {j : Nat} {x : TN} (hx : xs[j]? = some x) (hk : x.k = 2) : j % 2 = 1 ∧ x.i = 0 ∧ x.s = 0 ∧ x.u.Pairwise (· < ·) ∧ ∀ i ∈ x.u, oneB xs j i = true := by
  obtain ⟨_, _, _, h4⟩ := chk_full h
  have hj := (List.getElem?_eq_some_iff.1 hx).1
  have := h4 j hj
  unfold okAt at this
  rw [hx] at this
  replace this : okB xs j x = true := this
  unfold okB at this
  split at this
  · omega
  · split at this
    · simp only [Bool.and_eq_true, beq_iff_eq] at this
      omega
    · unfold parB at this
      simp only [Bool.and_eq_true, beq_iff_eq] at this
      exact ⟨by omega, this.1.1.1.2, this.1.1.2, (rise_iff _).1 this.1.2, List.all_eq_true.1 this.2⟩
theorem chk_ord {xs : List TN} {B : Nat} (h : chkB xs = true) (hB : ∀ (j : Nat) x, xs[j]? = some x → x.u.length ≤ B) : Ord B xs := by
  intro j x hx
  refine ⟨?_, hB j x hx⟩
  by_cases hk : x.k = 2
  · exact (chk_par h hx hk).2.2.2.1.imp fun h => Int.le_of_lt h
  · rw [chk_bare h j x hx hk]; exact List.Pairwise.nil
end Go.Proofs.YtimdohjlhbpmhaaDoor
