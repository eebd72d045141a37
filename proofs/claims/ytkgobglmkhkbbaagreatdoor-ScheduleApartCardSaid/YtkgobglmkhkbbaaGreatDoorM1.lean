/- plain: nodes made one behind the other: a node that is made again is the same term (TermOnce). -/
import Derived.Test.YtkgobglmkhkbbaaGreatDoorB1
namespace Go.KK
open Go.RowKit
set_option linter.unusedVariables false
set_option linter.unusedSimpArgs false

theorem has_iff {xs : List ND} {t : Int} : hasB xs t = true ↔ 0 ≤ t ∧ t < (xs.length : Nat) := by
  unfold hasB
  simp only [Bool.and_eq_true, decide_eq_true_eq]
theorem may_app {xs : List ND} (l : List ND) {x : ND} (h : mayB xs x = true) : mayB (xs ++ l) x = true := by
  unfold mayB at h ⊢
  simp only [Bool.and_eq_true, List.all_eq_true, Bool.or_eq_true] at h ⊢
  refine ⟨⟨h.1.1, fun t ht => ?_⟩, h.2.imp id fun h2 => ?_⟩
  · have := h.1.2 t ht
    unfold hasB at this ⊢
    simp only [Bool.and_eq_true, decide_eq_true_eq, List.length_append] at this ⊢
    omega
  · have h3 : opAt xs (x.l.getD 1 0) = 2 := eq_of_beq h2
    have h4 : opAt (xs ++ l) (x.l.getD 1 0) = 2 := by
      unfold opAt at h3 ⊢
      rcases hh : xs[(x.l.getD 1 0).toNat]? with _ | y
      · rw [hh] at h3; exact absurd h3 (by decide)
      · rw [List.getElem?_append_left (List.getElem?_eq_some_iff.1 hh).1, hh]
        rw [hh] at h3; exact h3
    exact beq_iff_eq.2 h4
/-- The arena behind nodes that were made, one behind the other. -/
def mksT (xs l : List ND) : List ND := l.foldl makT xs
/-- What is told of one: -1 where it may not be. -/
def toldI (xs : List ND) (x : ND) : Int := if makE xs x = 0 then makI xs x else -1
def mksR : List ND → List ND → List Int
  | _, [] => []
  | xs, x :: l => toldI xs x :: mksR (makT xs x) l
theorem take_one {α : Type} {l : List α} {j : Nat} {x : α} (h : l[j]? = some x) : l.take (j + 1) = l.take j ++ [x] := by rw [List.take_add_one, h]; rfl
theorem mksT_take {xs l : List ND} {j : Nat} {x : ND} (h : l[j]? = some x) : mksT xs (l.take (j + 1)) = makT (mksT xs (l.take j)) x := by
  rw [take_one h]; unfold mksT; rw [List.foldl_append]; rfl
theorem mksR_snoc (x : ND) : ∀ (l xs : List ND), mksR xs (l ++ [x]) = mksR xs l ++ [toldI (mksT xs l) x]
  | [], xs => rfl
  | y :: l, xs => by
    show toldI xs y :: mksR (makT xs y) (l ++ [x]) = toldI xs y :: mksR (makT xs y) l ++ [toldI (mksT (makT xs y) l) x]
    rw [mksR_snoc x l]; rfl
theorem mksR_take {xs l : List ND} {j : Nat} {x : ND} (h : l[j]? = some x) : mksR xs (l.take (j + 1)) = mksR xs (l.take j) ++ [toldI (mksT xs (l.take j)) x] := by
  rw [take_one h, mksR_snoc]
theorem mksR_len : ∀ (l xs : List ND), (mksR xs l).length = l.length
  | [], _ => rfl
  | _ :: l, xs => by show (mksR _ l).length + 1 = l.length + 1; rw [mksR_len l]
theorem mksR_at : ∀ (l xs : List ND) (j : Nat) (x : ND), l[j]? = some x → (mksR xs l)[j]? = some (toldI (mksT xs (l.take j)) x)
  | [], _, _, _, h => by simp at h
  | y :: l, xs, 0, x, h => by injection h with h; subst h; rfl
  | y :: l, xs, j + 1, x, h => mksR_at l (makT xs y) j x h
theorem mak_pre (xs : List ND) (x : ND) : ∃ m, makT xs x = xs ++ m := by
  unfold makT
  split
  · split
    · exact ⟨[], by simp⟩
    · split
      · exact ⟨[], by simp⟩
      · exact ⟨[x], rfl⟩
  · exact ⟨[], by simp⟩
theorem mks_pre : ∀ (l xs : List ND), ∃ m, mksT xs l = xs ++ m
  | [], xs => ⟨[], by simp [mksT]⟩
  | x :: l, xs => by
    obtain ⟨m, hm⟩ := mak_pre xs x
    obtain ⟨m', hm'⟩ := mks_pre l (makT xs x)
    exact ⟨m ++ m', by show mksT (makT xs x) l = _; rw [hm', hm, List.append_assoc]⟩
theorem mks_pre_take (xs l : List ND) (j : Nat) : ∃ m, mksT xs l = mksT xs (l.take j) ++ m := by
  obtain ⟨m, hm⟩ := mks_pre (l.drop j) (mksT xs (l.take j))
  refine ⟨m, ?_⟩
  rw [← hm]
  unfold mksT
  rw [← List.foldl_append, List.take_append_drop]
theorem mks_len (xs l : List ND) : (mksT xs l).length ≤ xs.length + l.length := by
  induction l generalizing xs with
  | nil => simp [mksT]
  | cons x l ih =>
    have h1 := ih (makT xs x)
    have h2 : (makT xs x).length ≤ xs.length + 1 := by
      unfold makT
      split
      · split
        · omega
        · split <;> simp
      · omega
    show (mksT (makT xs x) l).length ≤ _
    rw [List.length_cons]; omega
theorem mks_ok {xs l : List ND} (h : Okay xs) (hl : ∀ x ∈ l, x.n < 9223372036854775808) : Okay (mksT xs l) := by
  induction l generalizing xs with
  | nil => exact h
  | cons x l ih => exact ih (okay_mak h (hl x (by simp))) fun y hy => hl y (by simp [hy])
theorem told_some {xs : List ND} {x : ND} (h : 0 ≤ toldI xs x) : makE xs x = 0 ∧ makI xs x = toldI xs x ∧ mayB xs x = true ∧ (makT xs x)[(toldI xs x).toNat]? = some x := by
  unfold toldI at h ⊢
  split at h
  · rename_i he
    rw [if_pos he]
    refine ⟨he, rfl, ?_⟩
    by_cases hm : mayB xs x = true
    · refine ⟨hm, ?_⟩
      by_cases hx : x ∈ xs
      · obtain ⟨a, b, c⟩ := mak_old hm hx
        rw [a, b, Int.toNat_natCast]
        exact idxOf_get hx
      · by_cases hl : xs.length < 100000
        · obtain ⟨a, b, c⟩ := mak_new hm hx hl
          rw [a, b, Int.toNat_natCast]; simp
        · unfold makE at he
          rw [if_pos hm, if_neg hx, if_pos (by omega)] at he
          exact absurd he (by decide)
    · unfold makE at he
      rw [if_neg hm] at he
      exact absurd he (by decide)
  · omega
theorem told_cases (xs : List ND) (x : ND) : (makE xs x = 0 ∧ toldI xs x = makI xs x ∧ 0 ≤ toldI xs x) ∨ (makE xs x ≠ 0 ∧ toldI xs x = -1) := by
  unfold toldI
  by_cases he : makE xs x = 0
  · left
    rw [if_pos he]
    refine ⟨he, rfl, ?_⟩
    unfold makI
    split
    · split
      · omega
      · split <;> omega
    · omega
  · right; rw [if_neg he]; exact ⟨he, rfl⟩
theorem get_pre {α : Type} {xs m : List α} {j : Nat} {x : α} (h : xs[j]? = some x) : (xs ++ m)[j]? = some x := by
  rw [List.getElem?_append_left (List.getElem?_eq_some_iff.1 h).1, h]
theorem get_inj {α : Type} {xs : List α} {j k : Nat} {x : α} (hn : xs.Nodup) (h : xs[j]? = some x) (h' : xs[k]? = some x) : j = k :=
  (List.getElem?_inj (List.getElem?_eq_some_iff.1 h).1 hn).1 (h.trans h'.symm)
/-- Made again, a node is what it was. -/
theorem once_at {l : List ND} {i : Nat} {n : ND} (hl : ∀ x ∈ l, x.n < 9223372036854775808) (hi : l[i]? = some n) (h0 : 0 ≤ toldI (mksT [] (l.take i)) n) :
    makE (mksT (mksT [] l) (l.take i)) n = 0 ∧ makI (mksT (mksT [] l) (l.take i)) n = toldI (mksT [] (l.take i)) n ∧
    (∀ k x, k < i → l[k]? = some x → 0 ≤ toldI (mksT [] (l.take k)) x → (toldI (mksT [] (l.take k)) x == toldI (mksT [] (l.take i)) n) = decide (x = n)) ∧
    ∀ x ∈ n.l, x < toldI (mksT [] (l.take i)) n := by
  have hok : Okay (mksT (mksT [] l) (l.take i)) := mks_ok (mks_ok okay_nil hl) fun x hx => hl x (List.mem_of_mem_take hx)
  have at' : ∀ k x, l[k]? = some x → 0 ≤ toldI (mksT [] (l.take k)) x → mayB (mksT (mksT [] l) (l.take i)) x = true ∧ (mksT (mksT [] l) (l.take i))[(toldI (mksT [] (l.take k)) x).toNat]? = some x := by
    intro k x hk h
    obtain ⟨_, _, c, d⟩ := told_some h
    obtain ⟨m1, e1⟩ := mks_pre_take [] l (k + 1)
    obtain ⟨m2, e2⟩ := mks_pre (l.take i) (mksT [] l)
    rw [mksT_take hk] at e1
    obtain ⟨m0, e0⟩ := mak_pre (mksT [] (l.take k)) x
    refine ⟨?_, ?_⟩
    · rw [e2, e1, e0]; exact may_app _ (may_app _ (may_app _ c))
    · rw [e2, e1]; exact get_pre (get_pre d)
  obtain ⟨hm, hg⟩ := at' i n hi h0
  have hmem := List.mem_of_getElem? hg
  obtain ⟨a, b, c⟩ := mak_old hm hmem
  have hidx := get_inj hok.nd (idxOf_get hmem) hg
  refine ⟨c, by rw [b, hidx]; omega, fun k x hk hx hx0 => ?_, fun x hx => ?_⟩
  · obtain ⟨_, hgx⟩ := at' k x hx hx0
    by_cases he : x = n
    · subst he
      have := get_inj hok.nd hgx hg
      rw [decide_eq_true rfl, beq_iff_eq]
      omega
    · rw [decide_eq_false he, beq_eq_false_iff_ne]
      intro h
      rw [h] at hgx
      rw [hgx] at hg
      injection hg with hg
      exact he hg
  · have hmay := hok.may _ _ hg
    unfold mayB at hmay
    simp only [Bool.and_eq_true, List.all_eq_true] at hmay
    have := hmay.1.2 x hx
    unfold hasB at this
    simp only [Bool.and_eq_true, decide_eq_true_eq, List.length_take] at this
    omega
end Go.KK
