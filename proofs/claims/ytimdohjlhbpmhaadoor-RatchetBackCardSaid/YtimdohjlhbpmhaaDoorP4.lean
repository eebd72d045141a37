/- plain: a number put into a list that rises: both ways. -/
import Derived.Test.YtimdohjlhbpmhaaDoorQ9
namespace Go.Proofs.YtimdohjlhbpmhaaDoor
open Go.RowKit Go.KK Go.Shelf
set_option linter.unusedVariables false
set_option linter.unusedSimpArgs false

theorem posF_eq {acc : List Int} {n : Int} (h : acc.Pairwise (· < ·)) (hn : n ∉ acc) : ∀ k, k ≤ acc.length → posF acc n k = lessN (acc.take k) n
  | 0, _ => by simp [posF, lessN]
  | k + 1, hk => by
    have hg : acc[k]? = some (acc[k]'(by omega)) := List.getElem?_eq_getElem _
    have hd : acc.getD k 0 = acc[k]'(by omega) := by rw [List.getD, hg]; rfl
    have hmem : acc[k]'(by omega) ∈ acc := List.getElem_mem _
    rw [posF, hd, take_get hg]
    unfold lessN
    rw [List.countP_append]
    by_cases hlt : n < acc[k]'(by omega)
    · rw [if_pos hlt, posF_eq h hn k (by omega)]
      have : List.countP (fun x => decide (x < n)) [acc[k]'(by omega)] = 0 := by
        rw [List.countP_eq_zero]; intro y hy; simp at hy; subst hy; simp; omega
      unfold lessN
      rw [this]; rfl
    · rw [if_neg hlt]
      have hne : acc[k]'(by omega) ≠ n := fun e => hn (e ▸ hmem)
      have h1 : List.countP (fun x => decide (x < n)) (acc.take k) = k := by
        have hl : (acc.take k).length = k := by rw [List.length_take]; omega
        have h0 := (List.countP_eq_length (p := fun x => decide (x < n)) (l := acc.take k)).2 ?_
        · rw [h0, hl]
        intro y hy
        obtain ⟨i, hi, e⟩ := List.mem_take_iff_getElem.1 hy
        have := List.pairwise_iff_getElem.1 h i k (by omega) (by omega) (by omega)
        rw [decide_eq_true_eq, ← e]; omega
      have h2 : List.countP (fun x => decide (x < n)) [acc[k]'(by omega)] = 1 := by
        rw [List.countP_cons_of_pos (by rw [decide_eq_true_eq]; omega)]; rfl
      rw [h1, h2]
theorem insR_new {acc : List Int} {n : Int} (h : acc.Pairwise (· < ·)) (hn : n ∉ acc) : insR acc n = insL acc (lessN acc n) n := by
  have hp := posF_eq h hn acc.length (Nat.le_refl _)
  rw [List.take_length] at hp
  unfold insR insL
  rw [hp, if_neg]
  rintro ⟨h0, he⟩
  have hlt : lessN acc n - 1 < acc.length := by have := lessN_le acc n; omega
  rw [List.getD, List.getElem?_eq_getElem hlt] at he
  exact hn (he ▸ List.getElem_mem _)
theorem insR_last {acc : List Int} {n : Int} (h : ∀ y ∈ acc, y < n) : insR acc n = acc ++ [n] := by
  have hn : n ∉ acc := fun hm => by have := h n hm; omega
  unfold insR
  have hp : posF acc n acc.length = acc.length := by
    rcases hl : acc.length with _ | k
    · rfl
    · rw [posF]
      have hg : acc[k]? = some (acc[k]'(by omega)) := List.getElem?_eq_getElem _
      rw [List.getD, hg, if_neg]
      have := h _ (List.getElem_mem (by omega : k < acc.length))
      show ¬ n < acc[k]'(by omega)
      omega
  rw [hp, if_neg]
  · simp
  · rintro ⟨h0, he⟩
    rw [List.getD, List.getElem?_eq_getElem (by omega)] at he
    exact hn (he ▸ List.getElem_mem _)
theorem risL_self : ∀ (l : List Int), l.Pairwise (· < ·) → risL l = l := by
  intro l
  unfold risL
  suffices hh : ∀ (l acc : List Int), (acc ++ l).Pairwise (· < ·) → l.foldl insR acc = acc ++ l from fun h => by simpa using hh l [] (by simpa using h)
  intro l
  induction l with
  | nil => intro acc _; simp
  | cons x l ih =>
    intro acc h
    have h2 := List.pairwise_append.1 h
    rw [List.foldl_cons, insR_last (fun y hy => h2.2.2 y hy x (by simp)), ih (acc ++ [x]) (by simpa using h)]
    simp
/-- What the document does with a parent's list is what the program does. -/
theorem risL_add {u : List Int} {n : Int} (h : u.Pairwise (· < ·)) (hn : n ∉ u) : risL (u ++ [n]) = insL u (lessN u n) n := by
  have := risL_self u h
  unfold risL at this ⊢
  rw [List.foldl_append, this]
  exact insR_new h hn
end Go.Proofs.YtimdohjlhbpmhaaDoor
