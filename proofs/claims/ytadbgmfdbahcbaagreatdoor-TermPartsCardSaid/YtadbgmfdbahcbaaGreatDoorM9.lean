/- plain: TermShort. -/
import Derived.Test.YtadbgmfdbahcbaaGreatDoorM8
import Derived.Test.YtadbgmfdbahcbaaGreatDoorM1
namespace Go.KK
open Go.RowKit Classical
set_option linter.unusedVariables false
set_option linter.unusedSimpArgs false

/-- A text's node. -/
def txN (s : ByteArray) : ND := ⟨2, 0, s, []⟩
/-- A node that is made twice. -/
theorem mak_again (xs : List ND) (x : ND) : makI (makT xs x) x = makI xs x ∧ makE (makT xs x) x = makE xs x ∧ makT (makT xs x) x = makT xs x := by
  by_cases hm : mayB xs x = true
  · by_cases hx : x ∈ xs
    · have e : makT xs x = xs := by unfold makT; rw [if_pos hm, if_pos hx]
      rw [e]; exact ⟨rfl, rfl, e⟩
    · by_cases hl : 100000 ≤ xs.length
      · have e : makT xs x = xs := by unfold makT; rw [if_pos hm, if_neg hx, if_pos hl]
        rw [e]; exact ⟨rfl, rfl, e⟩
      · have e : makT xs x = xs ++ [x] := by unfold makT; rw [if_pos hm, if_neg hx, if_neg hl]
        have hm2 := may_app [x] hm
        have hx2 : x ∈ xs ++ [x] := by simp
        rw [e]
        refine ⟨?_, ?_, ?_⟩
        · unfold makI
          rw [if_pos hm2, if_pos hx2, if_pos hm, if_neg hx, if_neg hl, List.idxOf_append, if_neg hx]
          simp
        · unfold makE
          rw [if_pos hm2, if_pos hx2, if_pos hm, if_neg hx, if_neg hl]
        · unfold makT
          rw [if_pos hm2, if_pos hx2]
  · have e : makT xs x = xs := by unfold makT; rw [if_neg hm]
    rw [e]; exact ⟨rfl, rfl, e⟩
theorem text_may (xs : List ND) (s : ByteArray) : mayB xs (txN s) = decide (s.size ≤ 200) := by
  unfold mayB shB lenB txN
  simp [arN]
theorem text_e {xs : List ND} (h : xs.length < 100000) (s : ByteArray) : (s.size ≤ 200 ∧ makE xs (txN s) = 0) ∨ (200 < s.size ∧ makE xs (txN s) = 1) := by
  have hm := text_may xs s
  unfold makE
  by_cases hs : s.size ≤ 200
  · rw [hm, decide_eq_true hs, if_pos rfl]
    refine .inl ⟨hs, ?_⟩
    split
    · rfl
    · rw [if_neg (by omega)]
  · rw [hm, decide_eq_false hs]
    exact .inr ⟨by omega, rfl⟩
theorem mak_len (xs : List ND) (x : ND) : (makT xs x).length ≤ xs.length + 1 := by
  unfold makT
  split
  · split
    · omega
    · split
      · omega
      · simp
  · omega
theorem makI_b {xs : List ND} (h : xs.length ≤ 100000) (x : ND) : 0 ≤ makI xs x ∧ makI xs x ≤ 100000 := by
  unfold makI
  split
  · split
    · rename_i hx
      have := List.idxOf_lt_length_of_mem hx
      omega
    · split <;> omega
  · omega
theorem rchL_len (xs : List ND) (t : Int) : (rchL xs t).length ≤ xs.length := by
  unfold rchL
  rw [List.length_map]
  refine Nat.le_trans (List.length_filter_le _ _) ?_
  rw [List.length_range]; exact Nat.le_refl _
theorem atF_len (xs : List ND) (t : Int) : (atF xs t).length ≤ xs.length := by
  unfold atF atL
  rw [List.length_mergeSort, List.length_map]
  exact Nat.le_trans (List.length_filter_le _ _) (rchL_len xs t)
theorem atFl_len {xs : List ND} : ∀ (l : List Int), (l.flatMap (atF xs)).length ≤ l.length * xs.length
  | [] => by simp
  | p :: l => by
    rw [List.flatMap_cons, List.length_append, List.length_cons, Nat.succ_mul]
    have := atFl_len (xs := xs) l
    have := atF_len xs p
    omega
/-- What the law asks of a list that was made. -/
theorem short_list {xs m : List ND} {l : List Int} (ok : Okay (makT xs (ndN 3 l) ++ m)) (h0 : makE xs (ndN 3 l) = 0) :
    hasB (makT xs (ndN 3 l) ++ m) (makI xs (ndN 3 l)) = true ∧ nodeF (makT xs (ndN 3 l) ++ m) (makI xs (ndN 3 l)) = ndN 3 l := by
  have ht : 0 ≤ toldI xs (ndN 3 l) := by
    rcases told_cases xs (ndN 3 l) with h | h
    · exact h.2.2
    · exact absurd h0 h.1
  obtain ⟨_, h2, _, h4⟩ := told_some ht
  rw [← h2] at h4 ht
  have h5 := get_pre (m := m) h4
  have hlt := (List.getElem?_eq_some_iff.1 h5).1
  have hh : hasB (makT xs (ndN 3 l) ++ m) (makI xs (ndN 3 l)) = true := has_iff.2 ⟨ht, by omega⟩
  refine ⟨hh, ?_⟩
  have := nodeF_get hh
  rw [h5] at this
  exact (Option.some.inj this).symm
end Go.KK
namespace Go.Proofs.YtadbgmfdbahcbaaGreatDoor
open Go.RowKit Go.KK Go.Shelf Go.Maps
theorem short_atoms {ys : List ND} (ok : Okay ys) {l : List Int} {x : Int} (hh : hasB ys x = true) (hn : nodeF ys x = ndN 3 l) : atF ys x = risL (l.flatMap (atF ys)) := by
  obtain ⟨a, b⟩ := ris_ok (l.flatMap (atF ys)) [] .nil
  refine sorted_ext _ _ (atF_lt ok x) a fun y => ?_
  have hb : y ∈ risL (l.flatMap (atF ys)) ↔ y ∈ l.flatMap (atF ys) := by have := b y; simpa [risL] using this
  rw [hb, List.mem_flatMap, atF_mem ok]
  constructor
  · rintro ⟨k, hr, h1, h2⟩
    rcases (rch_parts ok hh).1 hr with rfl | ⟨p, hp, hk⟩
    · rw [hn] at h1
      exact absurd h1 (by simp [ndN])
    · rw [hn] at hp
      exact ⟨p, hp, (atF_mem ok).2 ⟨k, hk, h1, h2⟩⟩
  · rintro ⟨p, hp, hy⟩
    obtain ⟨k, hk, h1, h2⟩ := (atF_mem ok).1 hy
    exact ⟨k, (rch_parts ok hh).2 (.inr ⟨p, by rw [hn]; exact hp, hk⟩), h1, h2⟩
end Go.Proofs.YtadbgmfdbahcbaaGreatDoor
