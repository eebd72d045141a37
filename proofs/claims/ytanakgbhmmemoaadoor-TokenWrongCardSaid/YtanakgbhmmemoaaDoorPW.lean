/- plain: TokenWrong. -/
import Derived.Test.YtanakgbhmmemoaaDoorB1
import Derived.KernelRfl
namespace Go.KK
set_option linter.unusedVariables false
set_option linter.unusedSimpArgs false

theorem one5 {x : Int} (h1 : 1 ≤ x) (h2 : x ≤ 5) : x = 1 ∨ x = 2 ∨ x = 3 ∨ x = 4 ∨ x = 5 := by omega
theorem at_not {x : Int} (h : 12 ≤ x) : atN x ∉ atoms 12 := fun hm => by have := (atN_mem.1 hm).2; omega
theorem at_old {d : Int} (hd : 12 ≤ d) (L : List ND) : makT (atoms 12 ++ atN d :: L) (atN d) = atoms 12 ++ atN d :: L ∧ makI (atoms 12 ++ atN d :: L) (atN d) = 12 ∧ makE (atoms 12 ++ atN d :: L) (atN d) = 0 := by
  obtain ⟨h1, h2, h3⟩ := mak_old (xs := atoms 12 ++ atN d :: L) (x := atN d) (may_atom _ (by omega)) (by simp)
  refine ⟨h1, ?_, h3⟩
  rw [h2, List.idxOf_append, if_neg (at_not hd), List.idxOf_cons_self, atoms_len]
  rfl
def wA (d N : Int) : List ND := atoms 12 ++ [atN d, ndN 12 [N, 12]]
def wB (d N : Int) : List ND := atoms 12 ++ [atN d, ndN 12 [N, 12], ndN 10 [0, 13]]
def wC (d N : Int) : List ND := atoms 12 ++ [atN d, ndN 12 [N, 12], ndN 10 [0, 13], ndN 10 [9, 13]]
def wD (d N : Int) : List ND := atoms 12 ++ [atN d, ndN 12 [N, 12], ndN 10 [0, 13], ndN 10 [9, 13], ndN 10 [0, N]]
def wE (d N : Int) : List ND := atoms 12 ++ [atN d, ndN 12 [N, 12], ndN 10 [0, 13], ndN 10 [9, 13], ndN 10 [0, N], ndN 10 [9, N]]
def wF (d N : Int) : List ND := atoms 12 ++ [atN d, ndN 12 [N, 12], ndN 10 [0, 13], ndN 10 [9, 13], ndN 10 [0, N], ndN 10 [9, N], atN (d + 1)]
section
variable {d N who : Int}
theorem w_new0 : newF (atoms 12) 0 3 = (⟨0, 3, [], []⟩, 0) := by decide +kernel
theorem w_new9 : newF (atoms 12) 9 3 = (⟨9, 3, [], []⟩, 0) := by decide +kernel
theorem w_ask (hd : 12 ≤ d) (h1 : 1 ≤ N) (h2 : N ≤ 5) : askF (atoms 12) N d = (wA d N, 13, 0) := by
  obtain ⟨e1, e2, e3⟩ := mak_new (may_atom (atoms 12) (x := d) (by omega)) (at_not hd) (by rw [atoms_len]; decide)
  unfold askF
  rw [e1, e2, e3, atoms_len, decide_eq_true (show 0 ≤ d by omega)]
  rcases one5 h1 h2 with rfl | rfl | rfl | rfl | rfl <;> kernel_rfl
theorem w_iss (h1 : 1 ≤ N) (h2 : N ≤ 5) (h3 : 1 ≤ who) (h4 : who ≤ 5) : issF (wA d N) ⟨0, 3, [], []⟩ who 13 = (wB d N, 14, ⟨0, 3, [(who, 1)], []⟩, 0) := by
  rcases one5 h1 h2 with rfl | rfl | rfl | rfl | rfl <;> rcases one5 h3 h4 with rfl | rfl | rfl | rfl | rfl <;> kernel_rfl
theorem w_iss9 (h1 : 1 ≤ N) (h2 : N ≤ 5) (h3 : 1 ≤ who) (h4 : who ≤ 5) : issF (wB d N) ⟨9, 3, [], []⟩ who 13 = (wC d N, 15, ⟨9, 3, [(who, 1)], []⟩, 0) := by
  rcases one5 h1 h2 with rfl | rfl | rfl | rfl | rfl <;> rcases one5 h3 h4 with rfl | rfl | rfl | rfl | rfl <;> kernel_rfl
theorem w_fin (hd : 12 ≤ d) (h1 : 1 ≤ N) (h2 : N ≤ 5) : finF (wC d N) 14 d = (wD d N, 16, 0) := by
  obtain ⟨e1, e2, e3⟩ := at_old hd [ndN 12 [N, 12], ndN 10 [0, 13], ndN 10 [9, 13]]
  unfold finF wC
  rw [e1, e2, e3]
  rcases one5 h1 h2 with rfl | rfl | rfl | rfl | rfl <;> kernel_rfl
theorem w_fin9 (hd : 12 ≤ d) (h1 : 1 ≤ N) (h2 : N ≤ 5) : finF (wD d N) 15 d = (wE d N, 17, 0) := by
  obtain ⟨e1, e2, e3⟩ := at_old hd [ndN 12 [N, 12], ndN 10 [0, 13], ndN 10 [9, 13], ndN 10 [0, N]]
  unfold finF wD
  rw [e1, e2, e3]
  rcases one5 h1 h2 with rfl | rfl | rfl | rfl | rfl <;> kernel_rfl
theorem w_sp1 (h1 : 1 ≤ N) (h2 : N ≤ 5) : spF (wE d N) ⟨0, 3, [(who, 1)], []⟩ N 17 = (⟨0, 0, [], []⟩, 40) := by
  rcases one5 h1 h2 with rfl | rfl | rfl | rfl | rfl <;> kernel_rfl
theorem w_sp2 (h1 : 1 ≤ N) (h2 : N ≤ 5) : spF (wE d N) ⟨0, 3, [(who, 1)], []⟩ N 14 = (⟨0, 0, [], []⟩, 40) := by
  rcases one5 h1 h2 with rfl | rfl | rfl | rfl | rfl <;> kernel_rfl
theorem w_sp3 (h1 : 1 ≤ N) (h2 : N ≤ 5) : spF (wE d N) ⟨0, 3, [(who, 1)], []⟩ (N + 1) 16 = (⟨0, 0, [], []⟩, 40) := by
  rcases one5 h1 h2 with rfl | rfl | rfl | rfl | rfl <;> kernel_rfl
theorem w_un (h1 : 1 ≤ N) (h2 : N ≤ 5) : unblF (wF d N) 14 18 = (wF d N, 0, 40) := by
  rcases one5 h1 h2 with rfl | rfl | rfl | rfl | rfl <;> kernel_rfl
theorem w_fin1 (hd : 12 ≤ d) (h1 : 1 ≤ N) (h2 : N ≤ 5) : finF (wE d N) 14 (d + 1) = (wF d N, 0, 40) := by
  have hn : atN (d + 1) ∉ wE d N := by
    unfold wE
    rw [List.mem_append]
    rintro (h | h)
    · exact at_not (by omega) h
    · simp [atN, ndN] at h
      omega
  obtain ⟨e1, e2, e3⟩ := mak_new (may_atom (wE d N) (x := d + 1) (by omega)) hn (by simp [wE, atoms_len])
  have hf : finF (wE d N) 14 (d + 1) = unblF (wF d N) 14 18 := by
    unfold finF
    rw [e1, e2, e3]
    rfl
  exact hf.trans (w_un h1 h2)
theorem w_fin1' {d1 : Int} (e : d1 = d + 1) (hd : 12 ≤ d) (h1 : 1 ≤ N) (h2 : N ≤ 5) : finF (wE d N) 14 d1 = (wF d N, 0, 40) := by rw [e]; exact w_fin1 hd h1 h2
theorem w_sp4 (h1 : 1 ≤ N) (h2 : N ≤ 5) : spF (wF d N) ⟨0, 3, [(who, 1)], []⟩ N 16 = (⟨0, 3, [(who, 1)], [N]⟩, 0) := by
  rcases one5 h1 h2 with rfl | rfl | rfl | rfl | rfl <;> kernel_rfl
theorem w_had1 : hadF [(who, 1)] [who] = 1 := by simp [hadF, cntF]
theorem w_had0 : hadF [] [who] = 0 := by simp [hadF, cntF]
end
end Go.KK
