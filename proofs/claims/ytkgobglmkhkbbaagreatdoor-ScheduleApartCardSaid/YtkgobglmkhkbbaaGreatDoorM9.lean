/- plain: texts' nodes, a node made twice (of TermShort's plain text, without its atoms). -/
import Derived.Test.YtkgobglmkhkbbaaGreatDoorM1
namespace Go.KK
open Go.RowKit
set_option linter.unusedVariables false
set_option linter.unusedSimpArgs false

/-- A text's node. -/
def txN (s : ByteArray) : ND := ⟨2, 0, s, []⟩
/-- A node that is made twice. -/
theorem mak_again (xs : List ND) (x : ND) : makI (makT xs x) x = makI xs x ∧ makE (makT xs x) x = makE xs x ∧ makT (makT xs x) x = makT xs x := by
  by_cases hm : mayB xs x = true
  · by_cases hx : x ∈ xs
    · have e : makT xs x = xs := by unfold makT; rw [if_pos hm, if_pos hx]
      rw [e]; exact ⟨rfl, rfl, e⟩
    · by_cases hl : 100000 ≤ xs.length
      · have e : makT xs x = xs := by unfold makT; rw [if_pos hm, if_neg hx, if_pos hl]
        rw [e]; exact ⟨rfl, rfl, e⟩
      · have e : makT xs x = xs ++ [x] := by unfold makT; rw [if_pos hm, if_neg hx, if_neg hl]
        have hm2 := may_app [x] hm
        have hx2 : x ∈ xs ++ [x] := by simp
        rw [e]
        refine ⟨?_, ?_, ?_⟩
        · unfold makI
          rw [if_pos hm2, if_pos hx2, if_pos hm, if_neg hx, if_neg hl, List.idxOf_append, if_neg hx]
          simp
        · unfold makE
          rw [if_pos hm2, if_pos hx2, if_pos hm, if_neg hx, if_neg hl]
        · unfold makT
          rw [if_pos hm2, if_pos hx2]
  · have e : makT xs x = xs := by unfold makT; rw [if_neg hm]
    rw [e]; exact ⟨rfl, rfl, e⟩
theorem text_may (xs : List ND) (s : ByteArray) : mayB xs (txN s) = decide (s.size ≤ 200) := by
  unfold mayB shB lenB txN
  simp [arN]
theorem text_e {xs : List ND} (h : xs.length < 100000) (s : ByteArray) : (s.size ≤ 200 ∧ makE xs (txN s) = 0) ∨ (200 < s.size ∧ makE xs (txN s) = 1) := by
  have hm := text_may xs s
  unfold makE
  by_cases hs : s.size ≤ 200
  · rw [hm, decide_eq_true hs, if_pos rfl]
    refine .inl ⟨hs, ?_⟩
    split
    · rfl
    · rw [if_neg (by omega)]
  · rw [hm, decide_eq_false hs]
    exact .inr ⟨by omega, rfl⟩
theorem mak_len (xs : List ND) (x : ND) : (makT xs x).length ≤ xs.length + 1 := by
  unfold makT
  split
  · split
    · omega
    · split
      · omega
      · simp
  · omega
theorem makI_b {xs : List ND} (h : xs.length ≤ 100000) (x : ND) : 0 ≤ makI xs x ∧ makI xs x ≤ 100000 := by
  unfold makI
  split
  · split
    · rename_i hx
      have := List.idxOf_lt_length_of_mem hx
      omega
    · split <;> omega
  · omega
end Go.KK
