/- plain: the atoms of a term (TermShort). -/
import Derived.Test.YtadbgmfdbahcbaaGreatDoorM4
import Derived.Test.YtadbgmfdbahcbaaGreatDoorRA
namespace Go.KK
open Go.RowKit Classical
set_option linter.unusedVariables false
set_option linter.unusedSimpArgs false

/-- The numbers of what is an atom of these terms. -/
def atL (xs : List ND) (ks : List Int) : List Int := (ks.filter fun k => (nodeF xs k).o == 1).map fun k => (nodeF xs k).n
noncomputable def rchL (xs : List ND) (t : Int) : List Int := ((List.range xs.length).filter fun j => decide (Rch xs t ((j : Nat) : Int))).map fun j => ((j : Nat) : Int)
noncomputable def atF (xs : List ND) (t : Int) : List Int := (atL xs (rchL xs t)).mergeSort fun x y => decide (x ≤ y)
theorem rchL_nd (xs : List ND) (t : Int) : (rchL xs t).Nodup := by
  unfold rchL
  exact List.Pairwise.map _ (fun a b h e => h (by have e' : (a : Int) = (b : Int) := e; omega)) (List.Pairwise.filter _ List.nodup_range)
theorem rchL_mem {xs : List ND} (ok : Okay xs) {t y : Int} : y ∈ rchL xs t ↔ Rch xs t y := by
  unfold rchL
  simp only [List.mem_map, List.mem_filter, List.mem_range, decide_eq_true_eq]
  constructor
  · rintro ⟨j, ⟨_, h⟩, rfl⟩; exact h
  · intro h
    have h1 := (h.has ok).2.1
    have h2 := has_iff.1 h1
    have e : ((y.toNat : Nat) : Int) = y := by omega
    exact ⟨y.toNat, ⟨by omega, by rw [e]; exact h⟩, e⟩
theorem atL_snoc (xs : List ND) (ks : List Int) (k : Int) : atL xs (ks ++ [k]) = if (nodeF xs k).o = 1 then atL xs ks ++ [(nodeF xs k).n] else atL xs ks := by
  unfold atL
  rw [List.filter_append, List.map_append]
  by_cases h : (nodeF xs k).o = 1
  · rw [if_pos h, List.filter_cons, if_pos (by simp [h])]; rfl
  · rw [if_neg h, List.filter_cons, if_neg (by simp [h])]; simp
theorem sort_perm {l m : List Int} (h : l.Perm m) : (l.mergeSort fun x y => decide (x ≤ y)) = m.mergeSort fun x y => decide (x ≤ y) := by
  have tr : ∀ a b c : Int, decide (a ≤ b) = true → decide (b ≤ c) = true → decide (a ≤ c) = true := fun a b c h1 h2 => by
    rw [decide_eq_true_eq] at *; omega
  have to : ∀ a b : Int, (decide (a ≤ b) || decide (b ≤ a)) = true := fun a b => by
    rw [Bool.or_eq_true, decide_eq_true_eq, decide_eq_true_eq]; omega
  refine List.Perm.eq_of_pairwise (le := fun x y => decide (x ≤ y) = true) (fun a b _ _ h1 h2 => by rw [decide_eq_true_eq] at *; omega) (List.pairwise_mergeSort tr to l) (List.pairwise_mergeSort tr to m) ?_
  exact ((List.mergeSort_perm l _).trans h).trans (List.mergeSort_perm m _).symm
/-- All were met, each once: their atoms in order. -/
theorem at_sorted {xs : List ND} (ok : Okay xs) {t : Int} {ks : List Int} (hn : ks.Nodup) (hm : ∀ y, y ∈ ks ↔ Rch xs t y) : ((atL xs ks).mergeSort fun x y => decide (x ≤ y)) = atF xs t := by
  refine sort_perm ?_
  unfold atL
  exact ((((List.perm_ext_iff_of_nodup hn (rchL_nd xs t)).2 fun y => (hm y).trans (rchL_mem ok).symm)).filter _).map _
/-- Two atoms of one number are one. -/
theorem atom_inj {xs : List ND} (ok : Okay xs) {a b : Int} (ha : hasB xs a = true) (hb : hasB xs b = true) (h1 : (nodeF xs a).o = 1) (h2 : (nodeF xs b).o = 1) (hn : (nodeF xs a).n = (nodeF xs b).n) : a = b := by
  have ga := nodeF_get ha
  have gb := nodeF_get hb
  have sh : ∀ {x : ND} {j : Nat}, xs[j]? = some x → x.o = 1 → x.l = [] ∧ x.s.data.toList = [] := fun {x j} hx h => by
    have hm := ok.may _ _ hx
    unfold mayB shB lenB at hm
    rw [h] at hm
    simp only [Bool.and_eq_true, List.all_eq_true, decide_eq_true_eq, Bool.or_eq_true, beq_iff_eq] at hm
    have h3 := hm.1.1.1.1.1.1.1
    simp only [arN] at h3
    have h4 := hm.1.1.2
    refine ⟨List.eq_nil_of_length_eq_zero (by simpa using h3), ?_⟩
    have h5 : x.s.size = 0 := by rcases h4 with h4 | h4 <;> simp_all
    exact List.eq_nil_of_length_eq_zero (by simpa using h5)
  obtain ⟨la, sa⟩ := sh ga h1
  obtain ⟨lb, sb⟩ := sh gb h2
  have e : nodeF xs a = nodeF xs b := by
    cases hA : nodeF xs a
    cases hB : nodeF xs b
    rw [hA] at h1 hn la sa
    rw [hB] at h2 hn lb sb
    simp only at h1 h2 hn la lb sa sb
    rw [h1, h2, hn, la, lb, str_ext (sa.trans sb.symm)]
  rw [e] at ga
  have h3 := has_iff.1 ha
  have h4 := has_iff.1 hb
  have e2 : a.toNat = b.toNat := by
    obtain ⟨q1, e1⟩ := List.getElem?_eq_some_iff.1 ga
    obtain ⟨q2, e2⟩ := List.getElem?_eq_some_iff.1 gb
    have hp := List.pairwise_iff_getElem.1 ok.nd
    rcases Nat.lt_trichotomy a.toNat b.toNat with h | h | h
    · exact absurd (e1.trans e2.symm) (hp _ _ q1 q2 h)
    · exact h
    · exact absurd (e2.trans e1.symm) (hp _ _ q2 q1 h)
  omega
theorem atF_mem {xs : List ND} (ok : Okay xs) {t x : Int} : x ∈ atF xs t ↔ ∃ k, Rch xs t k ∧ (nodeF xs k).o = 1 ∧ (nodeF xs k).n = x := by
  unfold atF atL
  rw [List.mem_mergeSort]
  simp only [List.mem_map, List.mem_filter, beq_iff_eq, rchL_mem ok]
  exact ⟨fun ⟨k, ⟨a, b⟩, c⟩ => ⟨k, a, b, c⟩, fun ⟨k, a, b, c⟩ => ⟨k, ⟨a, b⟩, c⟩⟩
theorem atF_lt {xs : List ND} (ok : Okay xs) (t : Int) : (atF xs t).Pairwise (· < ·) := by
  have tr : ∀ a b c : Int, decide (a ≤ b) = true → decide (b ≤ c) = true → decide (a ≤ c) = true := fun a b c h1 h2 => by
    rw [decide_eq_true_eq] at *; omega
  have to : ∀ a b : Int, (decide (a ≤ b) || decide (b ≤ a)) = true := fun a b => by
    rw [Bool.or_eq_true, decide_eq_true_eq, decide_eq_true_eq]; omega
  have h1 := List.pairwise_mergeSort tr to (atL xs (rchL xs t))
  have hnd : (atL xs (rchL xs t)).Nodup := by
    unfold atL
    refine List.pairwise_map.2 ?_
    refine List.Pairwise.imp_of_mem ?_ (List.Pairwise.filter _ (rchL_nd xs t))
    intro a b ha hb hab e
    rw [List.mem_filter, rchL_mem ok, beq_iff_eq] at ha hb
    exact hab (atom_inj ok (ha.1.has ok).2.1 (hb.1.has ok).2.1 ha.2 hb.2 e)
  have h2 : ((atL xs (rchL xs t)).mergeSort fun x y => decide (x ≤ y)).Nodup := (List.mergeSort_perm _ _).nodup_iff.2 hnd
  unfold atF
  exact (h1.and h2).imp fun {a b} h => by have := h.1; rw [decide_eq_true_eq] at this; have := h.2; omega
/-- What a node is made of: itself, and what its parts are made of. -/
theorem rch_parts {xs : List ND} (ok : Okay xs) {t y : Int} (h : hasB xs t = true) : Rch xs t y ↔ y = t ∨ ∃ p ∈ (nodeF xs t).l, Rch xs p y := by
  constructor
  · intro hr
    induction hr with
    | self h => exact .inl rfl
    | step hr hy ih =>
      rcases ih with rfl | ⟨p, hp, hx⟩
      · exact .inr ⟨_, hy, .self (part_lt ok h hy).2.2⟩
      · exact .inr ⟨p, hp, .step hx hy⟩
  · rintro (rfl | ⟨p, hp, hx⟩)
    · exact .self h
    · exact (Rch.step (.self h) hp).trans hx
theorem getD_mem {l : List Int} {k : Nat} (h : k < l.length) : l.getD k 0 ∈ l := by
  rw [List.getD, List.getElem?_eq_getElem h]
  exact List.getElem_mem h
theorem sorted_ext : ∀ (l m : List Int), l.Pairwise (· < ·) → m.Pairwise (· < ·) → (∀ x, x ∈ l ↔ x ∈ m) → l = m
  | [], [], _, _, _ => rfl
  | [], y :: m, _, _, h => by have := (h y).2 (by simp); simp at this
  | x :: l, [], _, _, h => by have := (h x).1 (by simp); simp at this
  | x :: l, y :: m, hl, hm, h => by
    have h1 := List.pairwise_cons.1 hl
    have h2 := List.pairwise_cons.1 hm
    have hxy : x = y := by
      have a := (h x).1 (by simp)
      have b := (h y).2 (by simp)
      rcases List.mem_cons.1 a with e | e
      · exact e
      · rcases List.mem_cons.1 b with e' | e'
        · exact e'.symm
        · have := h2.1 x e
          have := h1.1 y e'
          omega
    subst hxy
    rw [sorted_ext l m h1.2 h2.2 fun z => ?_]
    constructor
    · intro hz
      have := h1.1 z hz
      rcases List.mem_cons.1 ((h z).1 (by simp [hz])) with e | e
      · omega
      · exact e
    · intro hz
      have := h2.1 z hz
      rcases List.mem_cons.1 ((h z).2 (by simp [hz])) with e | e
      · omega
      · exact e
end Go.KK
namespace Go.Proofs.YtadbgmfdbahcbaaGreatDoor
open Go.RowKit Go.KK Go.Shelf Go.Maps

theorem pos_spec (acc : List Int) (n : Int) : ∀ k, (∀ i, posF acc n k ≤ i → i < k → n < acc.getD i 0) ∧ (0 < posF acc n k → acc.getD (posF acc n k - 1) 0 ≤ n)
  | 0 => ⟨fun i h1 h2 => by omega, fun h => by simp [posF] at h⟩
  | k + 1 => by
    rw [posF]
    split
    · rename_i h
      obtain ⟨h1, h2⟩ := pos_spec acc n k
      refine ⟨fun i hi hk => ?_, h2⟩
      by_cases e : i = k
      · subst e; exact h
      · exact h1 i hi (by omega)
    · rename_i h
      exact ⟨fun i h1 h2 => by omega, fun _ => by rw [Nat.add_sub_cancel]; omega⟩
theorem insR_ok {acc : List Int} {n : Int} (h : acc.Pairwise (· < ·)) : (insR acc n).Pairwise (· < ·) ∧ ∀ x, x ∈ insR acc n ↔ x = n ∨ x ∈ acc := by
  obtain ⟨s1, s2⟩ := pos_spec acc n acc.length
  have hp := posF_le acc n acc.length
  unfold insR
  generalize posF acc n acc.length = p at *
  by_cases hc : 0 < p ∧ acc.getD (p - 1) 0 = n
  · rw [if_pos hc]
    refine ⟨h, fun x => ⟨.inr, fun e => e.elim (fun e => ?_) id⟩⟩
    rw [e, ← hc.2]
    exact getD_mem (by omega)
  · rw [if_neg hc]
    have hix := List.pairwise_iff_getElem.1 h
    have hlt : ∀ y ∈ acc.take p, y < n := fun y hy => by
      obtain ⟨i, hi, rfl⟩ := List.mem_iff_getElem.1 hy
      rw [List.length_take] at hi
      rw [List.getElem_take]
      have h2 := s2 (by omega)
      have h3 : acc.getD (p - 1) 0 ≠ n := fun e => hc ⟨by omega, e⟩
      have e1 : acc.getD (p - 1) 0 = acc[p - 1]'(by omega) := by rw [List.getD, List.getElem?_eq_getElem (by omega)]; rfl
      rw [e1] at h2 h3
      by_cases e : i = p - 1
      · subst e; omega
      · have := hix i (p - 1) (by omega) (by omega) (by omega)
        omega
    have hgt : ∀ y ∈ acc.drop p, n < y := fun y hy => by
      obtain ⟨i, hi, rfl⟩ := List.mem_iff_getElem.1 hy
      rw [List.length_drop] at hi
      rw [List.getElem_drop]
      have := s1 (p + i) (by omega) (by omega)
      rwa [List.getD, List.getElem?_eq_getElem (by omega)] at this
    refine ⟨?_, fun x => ?_⟩
    · rw [List.pairwise_append]
      refine ⟨h.sublist (List.take_sublist _ _), List.pairwise_cons.2 ⟨hgt, h.sublist (List.drop_sublist _ _)⟩, fun a ha b hb => ?_⟩
      rcases List.mem_cons.1 hb with e | e
      · rw [e]; exact hlt a ha
      · have := hlt a ha; have := hgt b e; omega
    · rw [List.mem_append, List.mem_cons]
      have e : x ∈ acc ↔ x ∈ acc.take p ∨ x ∈ acc.drop p := by rw [← List.mem_append, List.take_append_drop]
      rw [e]
      constructor
      · rintro (h | h | h)
        · exact .inr (.inl h)
        · exact .inl h
        · exact .inr (.inr h)
      · rintro (h | h | h)
        · exact .inr (.inl h)
        · exact .inl h
        · exact .inr (.inr h)
theorem ris_ok : ∀ (l acc : List Int), acc.Pairwise (· < ·) → (l.foldl insR acc).Pairwise (· < ·) ∧ ∀ x, x ∈ l.foldl insR acc ↔ x ∈ acc ∨ x ∈ l
  | [], acc, h => ⟨h, fun x => by simp⟩
  | y :: l, acc, h => by
    obtain ⟨a, b⟩ := insR_ok (n := y) h
    obtain ⟨c, d⟩ := ris_ok l (insR acc y) a
    refine ⟨c, fun x => ?_⟩
    rw [List.foldl_cons, d, b, List.mem_cons]
    constructor
    · rintro ((h | h) | h)
      · exact .inr (.inl h)
      · exact .inl h
      · exact .inr (.inr h)
    · rintro (h | h | h)
      · exact .inl (.inr h)
      · exact .inl (.inl h)
      · exact .inr h
end Go.Proofs.YtadbgmfdbahcbaaGreatDoor
