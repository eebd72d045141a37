/- plain: what a term is made of, and how many terms (TermBelow). -/
import Derived.Test.YtadbgmfdbahcbaaGreatDoorM1
namespace Go.KK
open Go.RowKit
set_option linter.unusedVariables false
set_option linter.unusedSimpArgs false

theorem nodup_le : ∀ (N : Nat) (M : List Int), M.Nodup → (∀ x ∈ M, 0 ≤ x ∧ x < N) → M.length ≤ N
  | 0, M, _, h => by
    cases M with
    | nil => simp
    | cons x M => have := h x (by simp); omega
  | N + 1, M, hn, h => by
    by_cases hm : (N : Int) ∈ M
    · have := nodup_le N (M.erase (N : Int)) (hn.erase _) fun x hx => by
        have h1 := h x (List.mem_of_mem_erase hx)
        have h2 : x ≠ (N : Int) := ((hn.mem_erase_iff).1 hx).1
        omega
      rw [List.length_erase_of_mem hm] at this
      omega
    · have := nodup_le N M hn fun x hx => by
        have h1 := h x hx
        have h2 : x ≠ (N : Int) := fun e => hm (e ▸ hx)
        omega
      omega
theorem sub_le {α : Type} [DecidableEq α] : ∀ (M M' : List α), M.Nodup → (∀ x ∈ M, x ∈ M') → M.length ≤ M'.length
  | [], _, _, _ => by simp
  | x :: M, M', hn, h => by
    have hx := h x (by simp)
    have h2 := List.nodup_cons.1 hn
    have := sub_le M (M'.erase x) h2.2 fun y hy => (List.mem_erase_of_ne (fun e => h2.1 (by rw [← e]; exact hy))).2 (h y (by simp [hy]))
    rw [List.length_erase_of_mem hx] at this
    have := List.length_pos_of_mem hx
    rw [List.length_cons]; omega
/-- A term is made of another one. -/
inductive Rch (xs : List ND) : Int → Int → Prop
  | self {t : Int} (h : hasB xs t = true) : Rch xs t t
  | step {t x y : Int} (h : Rch xs t x) (hy : y ∈ (nodeF xs x).l) : Rch xs t y
/-- So many terms is a term made of. -/
def SizeIs (xs : List ND) (t : Int) (n : Nat) : Prop := ∃ M : List Int, M.Nodup ∧ (∀ y, y ∈ M ↔ Rch xs t y) ∧ n = M.length
theorem nodeF_get {xs : List ND} {t : Int} (h : hasB xs t = true) : xs[t.toNat]? = some (nodeF xs t) := by
  have h2 := has_iff.1 h
  unfold nodeF
  rw [h, if_pos rfl, List.getD, List.getElem?_eq_getElem (by omega)]
  rfl
theorem part_lt {xs : List ND} (ok : Okay xs) {t x : Int} (h : hasB xs t = true) (hx : x ∈ (nodeF xs t).l) : 0 ≤ x ∧ x < t ∧ hasB xs x = true := by
  have h2 := has_iff.1 h
  have hm := ok.may _ _ (nodeF_get h)
  unfold mayB at hm
  simp only [Bool.and_eq_true, List.all_eq_true] at hm
  have h3 := has_iff.1 (hm.1.2 x hx)
  rw [List.length_take] at h3
  refine ⟨h3.1, by omega, has_iff.2 ⟨h3.1, by omega⟩⟩
theorem Rch.has {xs : List ND} (ok : Okay xs) {t x : Int} (h : Rch xs t x) : hasB xs t = true ∧ hasB xs x = true ∧ 0 ≤ x ∧ x ≤ t := by
  induction h with
  | self h => exact ⟨h, h, (has_iff.1 h).1, Int.le_refl _⟩
  | step h hy ih =>
    obtain ⟨a, b, c⟩ := part_lt ok ih.2.1 hy
    exact ⟨ih.1, c, a, by omega⟩
theorem Rch.trans {xs : List ND} {t x y : Int} (h : Rch xs t x) (k : Rch xs x y) : Rch xs t y := by
  induction k with
  | self _ => exact h
  | step _ hy ih => exact .step ih hy
theorem size_uniq {xs : List ND} {t : Int} {n m : Nat} (h : SizeIs xs t n) (k : SizeIs xs t m) : n = m := by
  obtain ⟨M, a, b, rfl⟩ := h
  obtain ⟨M', a', b', rfl⟩ := k
  exact Nat.le_antisymm (sub_le _ _ a fun x hx => (b' x).2 ((b x).1 hx)) (sub_le _ _ a' fun x hx => (b x).2 ((b' x).1 hx))
theorem size_le {xs : List ND} (ok : Okay xs) {t : Int} {n : Nat} (h : SizeIs xs t n) (ht : hasB xs t = true) : (n : Int) ≤ t + 1 ∧ 1 ≤ n := by
  obtain ⟨M, a, b, rfl⟩ := h
  have h0 := has_iff.1 ht
  refine ⟨?_, List.length_pos_of_mem ((b t).2 (.self ht))⟩
  have := nodup_le (t.toNat + 1) M a fun x hx => by
    have := ((b x).1 hx).has ok
    omega
  omega
theorem size_lt {xs : List ND} (ok : Okay xs) {t x : Int} {n m : Nat} (h : SizeIs xs t n) (k : SizeIs xs x m) (ht : hasB xs t = true) (hx : x ∈ (nodeF xs t).l) : m < n := by
  obtain ⟨M, a, b, rfl⟩ := h
  obtain ⟨M', a', b', rfl⟩ := k
  have hp := part_lt ok ht hx
  have := sub_le (t :: M') M (List.nodup_cons.2 ⟨fun hm => by have := ((b' t).1 hm).has ok; omega, a'⟩) fun y hy => by
    rcases List.mem_cons.1 hy with rfl | hy
    · exact (b _).2 (.self ht)
    · exact (b y).2 ((Rch.step (.self ht) hx).trans ((b' y).1 hy))
  rw [List.length_cons] at this
  omega
theorem nodeF_app {xs : List ND} (m : List ND) {t : Int} (h : hasB xs t = true) : nodeF (xs ++ m) t = nodeF xs t ∧ hasB (xs ++ m) t = true := by
  have h2 := has_iff.1 h
  have h3 : hasB (xs ++ m) t = true := has_iff.2 ⟨h2.1, by rw [List.length_append]; omega⟩
  refine ⟨?_, h3⟩
  have e1 := nodeF_get h
  have e2 := nodeF_get h3
  rw [List.getElem?_append_left (by omega), e1] at e2
  exact (Option.some.inj e2).symm
theorem rch_app {xs : List ND} (ok : Okay xs) (m : List ND) {t : Int} (h : hasB xs t = true) (y : Int) : Rch (xs ++ m) t y ↔ Rch xs t y := by
  constructor
  · intro k
    induction k with
    | self _ => exact .self h
    | step k hy ih =>
      rw [(nodeF_app m (ih.has ok).2.1).1] at hy
      exact .step ih hy
  · intro k
    induction k with
    | self _ => exact .self (nodeF_app m h).2
    | step k hy ih =>
      rw [← (nodeF_app m ((k.has ok).2.1)).1] at hy
      exact .step ih hy
theorem size_app {xs : List ND} (ok : Okay xs) (m : List ND) {t : Int} {n : Nat} (h : hasB xs t = true) : SizeIs (xs ++ m) t n ↔ SizeIs xs t n := by
  unfold SizeIs
  constructor
  · rintro ⟨M, a, b, e⟩
    exact ⟨M, a, fun y => (b y).trans (rch_app ok m h y), e⟩
  · rintro ⟨M, a, b, e⟩
    exact ⟨M, a, fun y => (b y).trans (rch_app ok m h y).symm, e⟩
/-- On the way: M is met, O is open, and of x (if any is being looked at) so many parts have been looked at. -/
structure Pt (xs : List ND) (t : Int) (M O : List Int) (x : Option Int) (k : Nat) : Prop where
  nd : M.Nodup
  tm : t ∈ M
  r : ∀ y ∈ M, Rch xs t y
  o : ∀ y ∈ O, y ∈ M
  c : ∀ z ∈ M, z ∉ O → x ≠ some z → ∀ y ∈ (nodeF xs z).l, y ∈ M
  x : ∀ z, x = some z → z ∈ M ∧ ∀ y ∈ (nodeF xs z).l.take k, y ∈ M
theorem pt_start {xs : List ND} {t : Int} (h : hasB xs t = true) : Pt xs t [t] [t] none 0 :=
  ⟨by simp, by simp, fun y hy => by rw [List.mem_singleton] at hy; subst hy; exact .self h, fun y hy => hy, fun z hz hn => absurd hz hn, fun z e => by cases e⟩
theorem Pt.pop {xs : List ND} {t x : Int} {M O : List Int} {k : Nat} (h : Pt xs t M (O ++ [x]) none k) : Pt xs t M O (some x) 0 := by
  refine ⟨h.nd, h.tm, h.r, fun y hy => h.o y (by simp [hy]), fun z hz hn hx => h.c z hz ?_ (by simp), fun z e => ?_⟩
  · rw [List.mem_append, List.mem_singleton]
    rintro (h1 | h1)
    · exact hn h1
    · exact hx (by rw [h1])
  · injection e with e
    subst e
    exact ⟨h.o _ (by simp), by simp⟩
theorem Pt.old {xs : List ND} {t x y : Int} {M O : List Int} {k : Nat} (h : Pt xs t M O (some x) k) (hy : (nodeF xs x).l[k]? = some y) (hm : y ∈ M) : Pt xs t M O (some x) (k + 1) := by
  refine ⟨h.nd, h.tm, h.r, h.o, h.c, fun z e => ⟨(h.x z e).1, fun u hu => ?_⟩⟩
  injection e with e
  subst e
  rw [take_one hy, List.mem_append, List.mem_singleton] at hu
  rcases hu with hu | rfl
  · exact (h.x _ rfl).2 u hu
  · exact hm
theorem Pt.new {xs : List ND} {t x y : Int} {M O : List Int} {k : Nat} (h : Pt xs t M O (some x) k) (hy : (nodeF xs x).l[k]? = some y) (hm : y ∉ M) : Pt xs t (M ++ [y]) (O ++ [y]) (some x) (k + 1) := by
  refine ⟨?_, by simp [h.tm], fun u hu => ?_, fun u hu => ?_, fun z hz hn hx u hu => ?_, fun z e => ?_⟩
  · rw [List.nodup_append]
    exact ⟨h.nd, by simp, fun a ha b hb e => by rw [List.mem_singleton] at hb; subst hb; subst e; exact hm ha⟩
  · rw [List.mem_append, List.mem_singleton] at hu
    rcases hu with hu | rfl
    · exact h.r u hu
    · exact .step (h.r x (h.x x rfl).1) (List.mem_of_getElem? hy)
  · rw [List.mem_append, List.mem_singleton] at hu ⊢
    exact hu.imp (h.o u) id
  · rw [List.mem_append, List.mem_singleton] at hn
    rw [List.mem_append, List.mem_singleton] at hz
    rcases hz with hz | rfl
    · exact List.mem_append_left _ (h.c z hz (fun h' => hn (.inl h')) hx u hu)
    · exact absurd (.inr rfl) hn
  · refine ⟨List.mem_append_left _ (h.x z e).1, fun u hu => ?_⟩
    injection e with e
    subst e
    rw [take_one hy, List.mem_append, List.mem_singleton] at hu
    rw [List.mem_append, List.mem_singleton]
    rcases hu with hu | rfl
    · exact .inl ((h.x _ rfl).2 u hu)
    · exact .inr rfl
theorem Pt.done {xs : List ND} {t x : Int} {M O : List Int} {k : Nat} (h : Pt xs t M O (some x) k) (hk : (nodeF xs x).l.length ≤ k) : Pt xs t M O none 0 := by
  refine ⟨h.nd, h.tm, h.r, h.o, fun z hz hn _ u hu => ?_, fun z e => by cases e⟩
  by_cases hx : x = z
  · subst hx
    have := (h.x _ rfl).2
    rw [List.take_of_length_le hk] at this
    exact this u hu
  · exact h.c z hz hn (fun e => hx (by injection e)) u hu
theorem Pt.size {xs : List ND} {t : Int} {M : List Int} {k : Nat} (h : Pt xs t M [] none k) : ∀ y, y ∈ M ↔ Rch xs t y := fun y =>
  ⟨h.r y, fun hr => by
    have ht := h.tm
    induction hr with
    | self _ => exact ht
    | step _ hy ih => exact h.c _ ih (by simp) (by simp) _ hy⟩
theorem Pt.len {xs : List ND} (ok : Okay xs) {t : Int} {M O : List Int} {x : Option Int} {k : Nat} (h : Pt xs t M O x k) : M.length ≤ xs.length :=
  nodup_le _ M h.nd fun y hy => by
    have := (h.r y hy).has ok
    have := has_iff.1 this.2.1
    omega
end Go.KK
