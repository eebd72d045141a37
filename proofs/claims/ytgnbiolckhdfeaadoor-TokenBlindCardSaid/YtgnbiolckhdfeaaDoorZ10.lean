import Derived.Test.YtgnbiolckhdfeaaDoorZ09
import Derived.Lib.ItoaLen
/- plain: what a term is made of, and how many terms (TermBelow). -/
namespace Go.KK
open Go.RowKit
set_option linter.unusedVariables false
set_option linter.unusedSimpArgs false

theorem nodup_le : ∀ (N : Nat) (M : List Int), M.Nodup → (∀ x ∈ M, 0 ≤ x ∧ x < N) → M.length ≤ N
  | 0, M, _, h => by
    cases M with
    | nil => simp
    | cons x M => have := h x (by simp); omega
  | N + 1, M, hn, h => by
    by_cases hm : (N : Int) ∈ M
    · have := nodup_le N (M.erase (N : Int)) (hn.erase _) fun x hx => by
        have h1 := h x (List.mem_of_mem_erase hx)
        have h2 : x ≠ (N : Int) := ((hn.mem_erase_iff).1 hx).1
        omega
      rw [List.length_erase_of_mem hm] at this
      omega
    · have := nodup_le N M hn fun x hx => by
        have h1 := h x hx
        have h2 : x ≠ (N : Int) := fun e => hm (e ▸ hx)
        omega
      omega
theorem sub_le {α : Type} [DecidableEq α] : ∀ (M M' : List α), M.Nodup → (∀ x ∈ M, x ∈ M') → M.length ≤ M'.length
  | [], _, _, _ => by simp
  | x :: M, M', hn, h => by
    have hx := h x (by simp)
    have h2 := List.nodup_cons.1 hn
    have := sub_le M (M'.erase x) h2.2 fun y hy => (List.mem_erase_of_ne (fun e => h2.1 (by rw [← e]; exact hy))).2 (h y (by simp [hy]))
    rw [List.length_erase_of_mem hx] at this
    have := List.length_pos_of_mem hx
    rw [List.length_cons]; omega
/-- A term is made of another one. -/
inductive Rch (xs : List ND) : Int → Int → Prop
  | self {t : Int} (h : hasB xs t = true) : Rch xs t t
  | step {t x y : Int} (h : Rch xs t x) (hy : y ∈ (nodeF xs x).l) : Rch xs t y
/-- So many terms is a term made of. -/
def SizeIs (xs : List ND) (t : Int) (n : Nat) : Prop := ∃ M : List Int, M.Nodup ∧ (∀ y, y ∈ M ↔ Rch xs t y) ∧ n = M.length
theorem nodeF_get {xs : List ND} {t : Int} (h : hasB xs t = true) : xs[t.toNat]? = some (nodeF xs t) := by
  have h2 := has_iff.1 h
  unfold nodeF
  rw [h, if_pos rfl, List.getD, List.getElem?_eq_getElem (by omega)]
  rfl
theorem part_lt {xs : List ND} (ok : Okay xs) {t x : Int} (h : hasB xs t = true) (hx : x ∈ (nodeF xs t).l) : 0 ≤ x ∧ x < t ∧ hasB xs x = true := by
  have h2 := has_iff.1 h
  have hm := ok.may _ _ (nodeF_get h)
  unfold mayB at hm
  simp only [Bool.and_eq_true, List.all_eq_true] at hm
  have h3 := has_iff.1 (hm.1.2 x hx)
  rw [List.length_take] at h3
  refine ⟨h3.1, by omega, has_iff.2 ⟨h3.1, by omega⟩⟩
theorem Rch.has {xs : List ND} (ok : Okay xs) {t x : Int} (h : Rch xs t x) : hasB xs t = true ∧ hasB xs x = true ∧ 0 ≤ x ∧ x ≤ t := by
  induction h with
  | self h => exact ⟨h, h, (has_iff.1 h).1, Int.le_refl _⟩
  | step h hy ih =>
    obtain ⟨a, b, c⟩ := part_lt ok ih.2.1 hy
    exact ⟨ih.1, c, a, by omega⟩
theorem Rch.trans {xs : List ND} {t x y : Int} (h : Rch xs t x) (k : Rch xs x y) : Rch xs t y := by
  induction k with
  | self _ => exact h
  | step _ hy ih => exact .step ih hy
theorem size_uniq {xs : List ND} {t : Int} {n m : Nat} (h : SizeIs xs t n) (k : SizeIs xs t m) : n = m := by
  obtain ⟨M, a, b, rfl⟩ := h
  obtain ⟨M', a', b', rfl⟩ := k
  exact Nat.le_antisymm (sub_le _ _ a fun x hx => (b' x).2 ((b x).1 hx)) (sub_le _ _ a' fun x hx => (b x).2 ((b' x).1 hx))
theorem size_le {xs : List ND} (ok : Okay xs) {t : Int} {n : Nat} (h : SizeIs xs t n) (ht : hasB xs t = true) : (n : Int) ≤ t + 1 ∧ 1 ≤ n := by
  obtain ⟨M, a, b, rfl⟩ := h
  have h0 := has_iff.1 ht
  refine ⟨?_, List.length_pos_of_mem ((b t).2 (.self ht))⟩
  have := nodup_le (t.toNat + 1) M a fun x hx => by
    have := ((b x).1 hx).has ok
    omega
  omega
theorem size_lt {xs : List ND} (ok : Okay xs) {t x : Int} {n m : Nat} (h : SizeIs xs t n) (k : SizeIs xs x m) (ht : hasB xs t = true) (hx : x ∈ (nodeF xs t).l) : m < n := by
  obtain ⟨M, a, b, rfl⟩ := h
  obtain ⟨M', a', b', rfl⟩ := k
  have hp := part_lt ok ht hx
  have := sub_le (t :: M') M (List.nodup_cons.2 ⟨fun hm => by have := ((b' t).1 hm).has ok; omega, a'⟩) fun y hy => by
    rcases List.mem_cons.1 hy with rfl | hy
    · exact (b _).2 (.self ht)
    · exact (b y).2 ((Rch.step (.self ht) hx).trans ((b' y).1 hy))
  rw [List.length_cons] at this
  omega
theorem nodeF_app {xs : List ND} (m : List ND) {t : Int} (h : hasB xs t = true) : nodeF (xs ++ m) t = nodeF xs t ∧ hasB (xs ++ m) t = true := by
  have h2 := has_iff.1 h
  have h3 : hasB (xs ++ m) t = true := has_iff.2 ⟨h2.1, by rw [List.length_append]; omega⟩
  refine ⟨?_, h3⟩
  have e1 := nodeF_get h
  have e2 := nodeF_get h3
  rw [List.getElem?_append_left (by omega), e1] at e2
  exact (Option.some.inj e2).symm
theorem rch_app {xs : List ND} (ok : Okay xs) (m : List ND) {t : Int} (h : hasB xs t = true) (y : Int) : Rch (xs ++ m) t y ↔ Rch xs t y := by
  constructor
  · intro k
    induction k with
    | self _ => exact .self h
    | step k hy ih =>
      rw [(nodeF_app m (ih.has ok).2.1).1] at hy
      exact .step ih hy
  · intro k
    induction k with
    | self _ => exact .self (nodeF_app m h).2
    | step k hy ih =>
      rw [← (nodeF_app m ((k.has ok).2.1)).1] at hy
      exact .step ih hy
theorem size_app {xs : List ND} (ok : Okay xs) (m : List ND) {t : Int} {n : Nat} (h : hasB xs t = true) : SizeIs (xs ++ m) t n ↔ SizeIs xs t n := by
  unfold SizeIs
  constructor
  · rintro ⟨M, a, b, e⟩
    exact ⟨M, a, fun y => (b y).trans (rch_app ok m h y), e⟩
  · rintro ⟨M, a, b, e⟩
    exact ⟨M, a, fun y => (b y).trans (rch_app ok m h y).symm, e⟩
/-- On the way: M is met, O is open, and of x (if any is being looked at) so many parts have been looked at. -/
structure Pt (xs : List ND) (t : Int) (M O : List Int) (x : Option Int) (k : Nat) : Prop where
  nd : M.Nodup
  tm : t ∈ M
  r : ∀ y ∈ M, Rch xs t y
  o : ∀ y ∈ O, y ∈ M
  c : ∀ z ∈ M, z ∉ O → x ≠ some z → ∀ y ∈ (nodeF xs z).l, y ∈ M
  x : ∀ z, x = some z → z ∈ M ∧ ∀ y ∈ (nodeF xs z).l.take k, y ∈ M
theorem pt_start {xs : List ND} {t : Int} (h : hasB xs t = true) : Pt xs t [t] [t] none 0 :=
  ⟨by simp, by simp, fun y hy => by rw [List.mem_singleton] at hy; subst hy; exact .self h, fun y hy => hy, fun z hz hn => absurd hz hn, fun z e => by cases e⟩
theorem Pt.pop {xs : List ND} {t x : Int} {M O : List Int} {k : Nat} (h : Pt xs t M (O ++ [x]) none k) : Pt xs t M O (some x) 0 := by
  refine ⟨h.nd, h.tm, h.r, fun y hy => h.o y (by simp [hy]), fun z hz hn hx => h.c z hz ?_ (by simp), fun z e => ?_⟩
  · rw [List.mem_append, List.mem_singleton]
    rintro (h1 | h1)
    · exact hn h1
    · exact hx (by rw [h1])
  · injection e with e
    subst e
    exact ⟨h.o _ (by simp), by simp⟩
theorem Pt.old {xs : List ND} {t x y : Int} {M O : List Int} {k : Nat} (h : Pt xs t M O (some x) k) (hy : (nodeF xs x).l[k]? = some y) (hm : y ∈ M) : Pt xs t M O (some x) (k + 1) := by
  refine ⟨h.nd, h.tm, h.r, h.o, h.c, fun z e => ⟨(h.x z e).1, fun u hu => ?_⟩⟩
  injection e with e
  subst e
  rw [take_one hy, List.mem_append, List.mem_singleton] at hu
  rcases hu with hu | rfl
  · exact (h.x _ rfl).2 u hu
  · exact hm
theorem Pt.new {xs : List ND} {t x y : Int} {M O : List Int} {k : Nat} (h : Pt xs t M O (some x) k) (hy : (nodeF xs x).l[k]? = some y) (hm : y ∉ M) : Pt xs t (M ++ [y]) (O ++ [y]) (some x) (k + 1) := by
  refine ⟨?_, by simp [h.tm], fun u hu => ?_, fun u hu => ?_, fun z hz hn hx u hu => ?_, fun z e => ?_⟩
  · rw [List.nodup_append]
    exact ⟨h.nd, by simp, fun a ha b hb e => by rw [List.mem_singleton] at hb; subst hb; subst e; exact hm ha⟩
  · rw [List.mem_append, List.mem_singleton] at hu
    rcases hu with hu | rfl
    · exact h.r u hu
    · exact .step (h.r x (h.x x rfl).1) (List.mem_of_getElem? hy)
  · rw [List.mem_append, List.mem_singleton] at hu ⊢
    exact hu.imp (h.o u) id
  · rw [List.mem_append, List.mem_singleton] at hn
    rw [List.mem_append, List.mem_singleton] at hz
    rcases hz with hz | rfl
    · exact List.mem_append_left _ (h.c z hz (fun h' => hn (.inl h')) hx u hu)
    · exact absurd (.inr rfl) hn
  · refine ⟨List.mem_append_left _ (h.x z e).1, fun u hu => ?_⟩
    injection e with e
    subst e
    rw [take_one hy, List.mem_append, List.mem_singleton] at hu
    rw [List.mem_append, List.mem_singleton]
    rcases hu with hu | rfl
    · exact .inl ((h.x _ rfl).2 u hu)
    · exact .inr rfl
theorem Pt.done {xs : List ND} {t x : Int} {M O : List Int} {k : Nat} (h : Pt xs t M O (some x) k) (hk : (nodeF xs x).l.length ≤ k) : Pt xs t M O none 0 := by
  refine ⟨h.nd, h.tm, h.r, h.o, fun z hz hn _ u hu => ?_, fun z e => by cases e⟩
  by_cases hx : x = z
  · subst hx
    have := (h.x _ rfl).2
    rw [List.take_of_length_le hk] at this
    exact this u hu
  · exact h.c z hz hn (fun e => hx (by injection e)) u hu
theorem Pt.size {xs : List ND} {t : Int} {M : List Int} {k : Nat} (h : Pt xs t M [] none k) : ∀ y, y ∈ M ↔ Rch xs t y := fun y =>
  ⟨h.r y, fun hr => by
    have ht := h.tm
    induction hr with
    | self _ => exact ht
    | step _ hy ih => exact h.c _ ih (by simp) (by simp) _ hy⟩
theorem Pt.len {xs : List ND} (ok : Okay xs) {t : Int} {M O : List Int} {x : Option Int} {k : Nat} (h : Pt xs t M O x k) : M.length ≤ xs.length :=
  nodup_le _ M h.nd fun y hy => by
    have := (h.r y hy).has ok
    have := has_iff.1 this.2.1
    omega
end Go.KK

/- plain: what can be derived of some terms (layer 5): the rules, the least set, the worklist. -/
namespace Go.KK
open Go.RowKit
set_option linter.unusedVariables false
set_option linter.unusedSimpArgs false

theorem getD_mem {l : List Int} {k : Nat} (h : k < l.length) : l.getD k 0 ∈ l := by
  rw [List.getD, List.getElem?_eq_getElem h]; exact List.getElem_mem h
theorem nd_len {xs : List ND} (ok : Okay xs) {t : Int} (h : hasB xs t = true) : lenB (nodeF xs t).o (nodeF xs t).l.length = true := by
  have hm := ok.may _ _ (nodeF_get h)
  unfold mayB shB at hm
  simp only [Bool.and_eq_true] at hm
  exact hm.1.1.1.1.1.1.1
theorem len_of {xs : List ND} (ok : Okay xs) {t : Int} (h : hasB xs t = true) {o : Int} {k : Nat} (ho : (nodeF xs t).o = o) (hk : arN o = some k) : (nodeF xs t).l.length = k := by
  have := nd_len ok h
  rw [ho] at this
  unfold lenB at this
  rw [hk] at this
  exact eq_of_beq this
/-- One step of deriving: of these the other one. -/
inductive Rule (xs : List ND) : List Int → Int → Prop
  | comp (t : Int) (h : hasB xs t = true) (ho : (nodeF xs t).o ≠ 1) : Rule xs (nodeF xs t).l t
  | list (t x : Int) (h : hasB xs t = true) (ho : (nodeF xs t).o = 3) (hx : x ∈ (nodeF xs t).l) : Rule xs [t] x
  | opn (t x : Int) (h : hasB xs t = true) (ho : (nodeF xs t).o = 8) (hk : (nodeF xs ((nodeF xs t).l.getD 0 0)).o = 7) (hx : x ∈ ((nodeF xs t).l.drop 1).take 2) : Rule xs [t, (nodeF xs ((nodeF xs t).l.getD 0 0)).l.getD 0 0] x
  | enc (t x : Int) (h : hasB xs t = true) (ho : (nodeF xs t).o = 9) (hx : x ∈ (nodeF xs t).l.drop 1) : Rule xs [t, (nodeF xs t).l.getD 0 0] x
  | sig (t : Int) (h : hasB xs t = true) (ho : (nodeF xs t).o = 10) : Rule xs [t] ((nodeF xs t).l.getD 1 0)
  | unbl (t u : Int) (h : hasB xs t = true) (hu : hasB xs u = true) (ho : (nodeF xs t).o = 10) (hb : (nodeF xs ((nodeF xs t).l.getD 1 0)).o = 12) (uo : (nodeF xs u).o = 10) (u0 : (nodeF xs u).l.getD 0 0 = (nodeF xs t).l.getD 0 0) (u1 : (nodeF xs u).l.getD 1 0 = (nodeF xs ((nodeF xs t).l.getD 1 0)).l.getD 0 0) : Rule xs [t, (nodeF xs ((nodeF xs t).l.getD 1 0)).l.getD 1 0] u
  | blind (t : Int) (h : hasB xs t = true) (ho : (nodeF xs t).o = 12) : Rule xs [t, (nodeF xs t).l.getD 1 0] ((nodeF xs t).l.getD 0 0)
/-- A set that no step leaves. -/
def Cl (xs : List ND) (S : Int → Prop) : Prop := ∀ P c, Rule xs P c → (∀ p ∈ P, S p) → S c
/-- What can be derived of some. -/
def Der (xs : List ND) (l : List Int) (t : Int) : Prop := ∀ S, Cl xs S → (∀ x ∈ l, S x) → S t
theorem der_known {xs : List ND} {l : List Int} {t : Int} (h : t ∈ l) : Der xs l t := fun _ _ k => k t h
theorem der_cl (xs : List ND) (l : List Int) : Cl xs (Der xs l) := fun P c hr hp S hS hl => hS P c hr fun p h => hp p h S hS hl
theorem der_least {xs : List ND} {l : List Int} {S : Int → Prop} (hS : Cl xs S) (hl : ∀ x ∈ l, S x) {t : Int} (h : Der xs l t) : S t := h S hS hl
theorem der_mono {xs : List ND} {l m : List Int} (h : ∀ x ∈ l, Der xs m x) {t : Int} (ht : Der xs l t) : Der xs m t := der_least (der_cl xs m) h ht
theorem rule_has {xs : List ND} (ok : Okay xs) {P : List Int} {c : Int} (h : Rule xs P c) : (∀ p ∈ P, hasB xs p = true) ∧ hasB xs c = true := by
  have pt : ∀ {t x : Int}, hasB xs t = true → x ∈ (nodeF xs t).l → hasB xs x = true := fun ht hx => (part_lt ok ht hx).2.2
  cases h with
  | comp _ h ho => exact ⟨fun p hp => pt h hp, h⟩
  | list t x h ho hx => exact ⟨fun p hp => by rw [List.mem_singleton] at hp; subst hp; exact h, pt h hx⟩
  | opn t x h ho hk hx =>
    have hl := len_of ok h ho rfl
    have h0 := pt h (getD_mem (l := (nodeF xs t).l) (k := 0) (by omega))
    have hl0 := len_of ok h0 hk rfl
    refine ⟨fun p hp => ?_, pt h (List.mem_of_mem_drop (List.mem_of_mem_take hx))⟩
    simp only [List.mem_cons, List.not_mem_nil, or_false] at hp
    rcases hp with rfl | rfl
    · exact h
    · exact pt h0 (getD_mem (by omega))
  | enc t x h ho hx =>
    have hl := len_of ok h ho rfl
    refine ⟨fun p hp => ?_, pt h (List.mem_of_mem_drop hx)⟩
    simp only [List.mem_cons, List.not_mem_nil, or_false] at hp
    rcases hp with rfl | rfl
    · exact h
    · exact pt h (getD_mem (by omega))
  | sig t h ho =>
    have hl := len_of ok h ho rfl
    exact ⟨fun p hp => by rw [List.mem_singleton] at hp; subst hp; exact h, pt h (getD_mem (by omega))⟩
  | unbl t u h hu ho hb uo u0 u1 =>
    have hl := len_of ok h ho rfl
    have h1 := pt h (getD_mem (l := (nodeF xs t).l) (k := 1) (by omega))
    have hl1 := len_of ok h1 hb rfl
    refine ⟨fun p hp => ?_, hu⟩
    simp only [List.mem_cons, List.not_mem_nil, or_false] at hp
    rcases hp with rfl | rfl
    · exact h
    · exact pt h1 (getD_mem (by omega))
  | blind t h ho =>
    have hl := len_of ok h ho rfl
    refine ⟨fun p hp => ?_, pt h (getD_mem (by omega))⟩
    simp only [List.mem_cons, List.not_mem_nil, or_false] at hp
    rcases hp with rfl | rfl
    · exact h
    · exact pt h (getD_mem (by omega))
theorem der_has {xs : List ND} (ok : Okay xs) {l : List Int} (hl : ∀ x ∈ l, hasB xs x = true) {t : Int} (h : Der xs l t) : hasB xs t = true :=
  der_least (S := fun t => hasB xs t = true) (fun _ _ hr _ => (rule_has ok hr).2) hl h

/-! the worklist -/
def inB (I : List Bool) (t : Int) : Bool := I.getD t.toNat false
/-- Which are in, and which are still to be gone through. -/
structure SD where
  i : List Bool
  o : List Int
def add1 (s : SD) (t : Int) : SD := if inB s.i t then s else ⟨s.i.set t.toNat true, s.o ++ [t]⟩
def addL (s : SD) (l : List Int) : SD := l.foldl add1 s
/-- What a term is looked at again for: its parts, and a key that opens it. -/
def links (xs : List ND) (n : ND) : List Int :=
  n.l ++ (if n.o = 8 ∧ (nodeF xs (n.l.getD 0 0)).o = 7 then [(nodeF xs (n.l.getD 0 0)).l.getD 0 0] else if n.o = 10 ∧ (nodeF xs (n.l.getD 1 0)).o = 12 then [(nodeF xs (n.l.getD 1 0)).l.getD 1 0] else [])
def pairsT (xs : List ND) (t : Nat) : List (Int × Int) := (links xs (nodeF xs t)).map fun x => ((t : Int), x)
def pairs (xs : List ND) (k : Nat) : List (Int × Int) := (List.range k).flatMap (pairsT xs)
def useOf (ps : List (Int × Int)) (x : Int) : List Int := (ps.filter fun p => p.2 == x).map (·.1)
def uses (xs : List ND) (x : Int) : List Int := useOf (pairs xs xs.length) x
theorem useOf_mem {ps : List (Int × Int)} {x u : Int} : u ∈ useOf ps x ↔ (u, x) ∈ ps := by
  unfold useOf
  simp only [List.mem_map, List.mem_filter, beq_iff_eq]
  constructor
  · rintro ⟨⟨a, b⟩, ⟨h1, rfl⟩, rfl⟩; exact h1
  · intro h; exact ⟨(u, x), ⟨h, rfl⟩, rfl⟩
theorem pairs_mem {xs : List ND} {k : Nat} {u x : Int} : (u, x) ∈ pairs xs k ↔ 0 ≤ u ∧ u < k ∧ x ∈ links xs (nodeF xs u) := by
  unfold pairs pairsT
  simp only [List.mem_flatMap, List.mem_range, List.mem_map, Prod.mk.injEq]
  constructor
  · rintro ⟨t, ht, y, hy, rfl, rfl⟩
    exact ⟨by omega, by omega, hy⟩
  · rintro ⟨h0, h1, h2⟩
    exact ⟨u.toNat, by omega, x, by rw [show ((u.toNat : Nat) : Int) = u by omega]; exact h2, by omega, rfl⟩
theorem uses_mem {xs : List ND} {u x : Int} : u ∈ uses xs x ↔ hasB xs u = true ∧ x ∈ links xs (nodeF xs u) := by
  unfold uses
  rw [useOf_mem, pairs_mem, has_iff]
  exact ⟨fun h => ⟨⟨h.1, h.2.1⟩, h.2.2⟩, fun h => ⟨h.1.1, h.1.2, h.2⟩⟩
theorem useOf_snoc (ps : List (Int × Int)) (t y x : Int) : useOf (ps ++ [(t, y)]) x = if y = x then useOf ps x ++ [t] else useOf ps x := by
  unfold useOf
  rw [List.filter_append, List.map_append]
  by_cases h : y = x
  · subst h; simp
  · rw [if_neg h]; simp [h]
theorem pairs_succ (xs : List ND) (k : Nat) : pairs xs (k + 1) = pairs xs k ++ pairsT xs k := by
  unfold pairs; rw [List.range_succ, List.flatMap_append]; simp
def unbF (xs : List ND) (s : SD) (sk m : Int) : SD := addL s ((uses xs m).filter fun t => (nodeF xs t).o == 10 && (nodeF xs t).l.getD 0 0 == sk && (nodeF xs t).l.getD 1 0 == m)
/-- What a term is made of, as far as it comes apart. -/
def apF (xs : List ND) (s : SD) (t : Int) : SD :=
  if (nodeF xs t).o = 3 then addL s (nodeF xs t).l
  else if (nodeF xs t).o = 8 then (if (nodeF xs ((nodeF xs t).l.getD 0 0)).o = 7 ∧ inB s.i ((nodeF xs ((nodeF xs t).l.getD 0 0)).l.getD 0 0) = true then addL s (((nodeF xs t).l.drop 1).take 2) else s)
  else if (nodeF xs t).o = 9 then (if inB s.i ((nodeF xs t).l.getD 0 0) = true then addL s ((nodeF xs t).l.drop 1) else s)
  else if (nodeF xs t).o = 10 then
    (if (nodeF xs ((nodeF xs t).l.getD 1 0)).o = 12 ∧ inB (add1 s ((nodeF xs t).l.getD 1 0)).i ((nodeF xs ((nodeF xs t).l.getD 1 0)).l.getD 1 0) = true then
      unbF xs (add1 s ((nodeF xs t).l.getD 1 0)) ((nodeF xs t).l.getD 0 0) ((nodeF xs ((nodeF xs t).l.getD 1 0)).l.getD 0 0) else add1 s ((nodeF xs t).l.getD 1 0))
  else if (nodeF xs t).o = 12 then (if inB s.i ((nodeF xs t).l.getD 1 0) = true then add1 s ((nodeF xs t).l.getD 0 0) else s)
  else s
def visF (xs : List ND) (s : SD) (u : Int) : SD := if inB s.i u then apF xs s u else if (nodeF xs u).l.all (inB s.i) then add1 s u else s

/-- s' goes on from s: more is in (each of it can be derived), and all of that is still to be gone through. -/
structure Go1 (xs : List ND) (D : Int → Prop) (s s' : SD) : Prop where
  len : s'.i.length = s.i.length
  mono : ∀ t, inB s.i t = true → inB s'.i t = true
  sub : ∀ t ∈ s.o, t ∈ s'.o
  opn : ∀ t ∈ s'.o, t ∈ s.o ∨ (hasB xs t = true ∧ inB s'.i t = true)
  new : ∀ t, 0 ≤ t → inB s'.i t = true → inB s.i t = true ∨ t ∈ s'.o
  snd : ∀ t, 0 ≤ t → inB s'.i t = true → inB s.i t = true ∨ D t
section
variable {xs : List ND} {D : Int → Prop} {s s' s'' : SD}
theorem Go1.refl (xs : List ND) (D : Int → Prop) (s : SD) : Go1 xs D s s := ⟨rfl, fun _ h => h, fun _ h => h, fun _ h => .inl h, fun _ _ h => .inl h, fun _ _ h => .inl h⟩
theorem Go1.trans (h : Go1 xs D s s') (k : Go1 xs D s' s'') : Go1 xs D s s'' :=
  ⟨k.len.trans h.len, fun t ht => k.mono t (h.mono t ht), fun t ht => k.sub t (h.sub t ht),
   fun t ht => (k.opn t ht).elim (fun h1 => (h.opn t h1).imp id fun h2 => ⟨h2.1, k.mono t h2.2⟩) .inr,
   fun t h0 ht => (k.new t h0 ht).elim (fun h1 => (h.new t h0 h1).imp id (k.sub t)) .inr,
   fun t h0 ht => (k.snd t h0 ht).elim (h.snd t h0) .inr⟩
theorem inB_set {I : List Bool} {t u : Int} (ht : 0 ≤ t) (hu : 0 ≤ u) (hl : t.toNat < I.length) : inB (I.set t.toNat true) u = (decide (u = t) || inB I u) := by
  unfold inB
  rw [List.getD, List.getD, List.getElem?_set]
  by_cases h : u = t
  · subst h
    rw [if_pos rfl, if_pos hl, decide_eq_true rfl]; rfl
  · rw [if_neg (by omega), decide_eq_false h]; rfl
theorem add1_go {t : Int} (hl : s.i.length = xs.length) (h : hasB xs t = true) (hd : D t) : Go1 xs D s (add1 s t) ∧ inB (add1 s t).i t = true := by
  have h2 := has_iff.1 h
  unfold add1
  by_cases hb : inB s.i t = true
  · rw [if_pos hb]; exact ⟨.refl _ _ _, hb⟩
  · rw [if_neg hb]
    have hset : ∀ u : Int, 0 ≤ u → inB (s.i.set t.toNat true) u = (decide (u = t) || inB s.i u) := fun u hu => inB_set h2.1 hu (by omega)
    have hneg : ∀ u : Int, inB s.i u = true → inB (s.i.set t.toNat true) u = true := fun u hu => by
      by_cases h0 : 0 ≤ u
      · rw [hset u h0, hu]; simp
      · unfold inB at hu ⊢
        rw [List.getD] at hu ⊢
        rw [List.getElem?_set]
        split
        · split
          · rfl
          · omega
        · exact hu
    refine ⟨⟨by simp, hneg, fun u hu => by simp [hu], fun u hu => ?_, fun u h0 hu => ?_, fun u h0 hu => ?_⟩, by rw [hset t h2.1]; simp⟩
    · rcases List.mem_append.1 hu with hu | hu
      · exact .inl hu
      · rw [List.mem_singleton] at hu
        subst hu
        exact .inr ⟨h, by rw [hset _ h2.1]; simp⟩
    · rw [hset u h0] at hu
      by_cases e : u = t
      · exact .inr (by simp [e])
      · rw [decide_eq_false e] at hu; exact .inl hu
    · rw [hset u h0] at hu
      by_cases e : u = t
      · exact .inr (e ▸ hd)
      · rw [decide_eq_false e] at hu; exact .inl hu
theorem addL_go : ∀ {l : List Int} {s : SD}, s.i.length = xs.length → (∀ t ∈ l, hasB xs t = true ∧ D t) → Go1 xs D s (addL s l) ∧ ∀ t ∈ l, inB (addL s l).i t = true
  | [], s, _, _ => ⟨.refl _ _ _, fun t h => by simp at h⟩
  | x :: l, s, hl, h => by
    obtain ⟨a1, a2⟩ := add1_go (xs := xs) (D := D) hl (h x (by simp)).1 (h x (by simp)).2
    obtain ⟨b1, b2⟩ := addL_go (l := l) (s := add1 s x) (a1.len.trans hl) fun t ht => h t (by simp [ht])
    refine ⟨a1.trans b1, fun t ht => ?_⟩
    rcases List.mem_cons.1 ht with rfl | ht
    · exact b1.mono _ a2
    · exact b2 t ht
/-- All that s has can be derived. -/
def Snd (D : Int → Prop) (s : SD) : Prop := ∀ t, 0 ≤ t → inB s.i t = true → D t
theorem Go1.sound (h : Go1 xs D s s') (k : Snd D s) : Snd D s' := fun t h0 ht => (h.snd t h0 ht).elim (k t h0) id
theorem has_part (ok : Okay xs) {t x : Int} (h : hasB xs t = true) (hx : x ∈ (nodeF xs t).l) : hasB xs x = true := (part_lt ok h hx).2.2
theorem has0 {t : Int} (h : hasB xs t = true) : 0 ≤ t := (has_iff.1 h).1
theorem ap_go (ok : Okay xs) (hD : Cl xs D) {t : Int} (hl : s.i.length = xs.length) (hs : Snd D s) (h : hasB xs t = true) (hd : D t) : Go1 xs D s (apF xs s t) := by
  unfold apF
  split
  · rename_i ho
    exact (addL_go hl fun x hx => ⟨has_part ok h hx, hD _ _ (.list t x h ho hx) fun p hp => by rw [List.mem_singleton] at hp; subst hp; exact hd⟩).1
  split
  · rename_i ho
    split
    · rename_i hk
      have hl4 := len_of ok h ho rfl
      have h0 := has_part ok h (getD_mem (l := (nodeF xs t).l) (k := 0) (by omega))
      have hl1 := len_of ok h0 hk.1 rfl
      have hk0 := hs _ (has0 (has_part ok h0 (getD_mem (by omega)))) hk.2
      exact (addL_go hl fun x hx => ⟨has_part ok h (List.mem_of_mem_drop (List.mem_of_mem_take hx)), hD _ _ (.opn t x h ho hk.1 hx) fun p hp => by
        simp only [List.mem_cons, List.not_mem_nil, or_false] at hp
        rcases hp with rfl | rfl
        · exact hd
        · exact hk0⟩).1
    · exact .refl _ _ _
  split
  · rename_i ho
    split
    · rename_i hk
      have hl4 := len_of ok h ho rfl
      have hk0 := hs _ (has0 (has_part ok h (getD_mem (l := (nodeF xs t).l) (k := 0) (by omega)))) hk
      exact (addL_go hl fun x hx => ⟨has_part ok h (List.mem_of_mem_drop hx), hD _ _ (.enc t x h ho hx) fun p hp => by
        simp only [List.mem_cons, List.not_mem_nil, or_false] at hp
        rcases hp with rfl | rfl
        · exact hd
        · exact hk0⟩).1
    · exact .refl _ _ _
  split
  · rename_i ho
    have hl2 := len_of ok h ho rfl
    have h1 := has_part ok h (getD_mem (l := (nodeF xs t).l) (k := 1) (by omega))
    have g1 := add1_go (D := D) hl h1 (hD _ _ (.sig t h ho) fun p hp => by rw [List.mem_singleton] at hp; subst hp; exact hd)
    split
    · rename_i hk
      have hlb := len_of ok h1 hk.1 rfl
      have hk0 := g1.1.sound hs _ (has0 (has_part ok h1 (getD_mem (by omega)))) hk.2
      refine g1.1.trans (addL_go (g1.1.len.trans hl) fun u hu => ?_).1
      simp only [List.mem_filter, Bool.and_eq_true, beq_iff_eq] at hu
      obtain ⟨hu, ⟨uo, u0⟩, u1⟩ := hu
      have hu' := (uses_mem.1 hu).1
      exact ⟨hu', hD _ _ (.unbl t u h hu' ho hk.1 uo u0 u1) fun p hp => by
        simp only [List.mem_cons, List.not_mem_nil, or_false] at hp
        rcases hp with rfl | rfl
        · exact hd
        · exact hk0⟩
    · exact g1.1
  split
  · rename_i ho
    split
    · rename_i hk
      have hl2 := len_of ok h ho rfl
      have hk0 := hs _ (has0 (has_part ok h (getD_mem (l := (nodeF xs t).l) (k := 1) (by omega)))) hk
      exact (add1_go hl (has_part ok h (getD_mem (by omega))) (hD _ _ (.blind t h ho) fun p hp => by
        simp only [List.mem_cons, List.not_mem_nil, or_false] at hp
        rcases hp with rfl | rfl
        · exact hd
        · exact hk0)).1
    · exact .refl _ _ _
  · exact .refl _ _ _
theorem vis_go (ok : Okay xs) (hD : Cl xs D) {u : Int} (hl : s.i.length = xs.length) (hs : Snd D s) (h : hasB xs u = true) (ho : (nodeF xs u).o ≠ 1) : Go1 xs D s (visF xs s u) := by
  unfold visF
  split
  · rename_i hb
    exact ap_go ok hD hl hs h (hs u (has0 h) hb)
  · split
    · rename_i ha
      exact (add1_go hl h (hD _ _ (.comp u h ho) fun p hp => hs p (has0 (has_part ok h hp)) (List.all_eq_true.1 ha p hp))).1
    · exact .refl _ _ _
theorem uses_ne (ok : Okay xs) {u x : Int} (h : u ∈ uses xs x) : hasB xs u = true ∧ (nodeF xs u).o ≠ 1 := by
  obtain ⟨h1, h2⟩ := uses_mem.1 h
  refine ⟨h1, fun ho => ?_⟩
  have hl := len_of ok h1 ho rfl
  unfold links at h2
  rw [List.eq_nil_of_length_eq_zero hl, if_neg (fun e => by rw [ho] at e; exact absurd e.1 (by decide)), if_neg (fun e => by rw [ho] at e; exact absurd e.1 (by decide))] at h2
  simp at h2
theorem vis_all (ok : Okay xs) (hD : Cl xs D) : ∀ {l : List Int} {s : SD}, s.i.length = xs.length → Snd D s → (∀ u ∈ l, hasB xs u = true ∧ (nodeF xs u).o ≠ 1) → Go1 xs D s (l.foldl (visF xs) s)
  | [], s, _, _, _ => .refl _ _ _
  | u :: l, s, hl, hs, h => by
    have a := vis_go ok hD hl hs (h u (by simp)).1 (h u (by simp)).2
    exact a.trans (vis_all ok hD (a.len.trans hl) (a.sound hs) fun v hv => h v (by simp [hv]))
end
/-- A step that takes apart: it is done when its term is gone through, or looked at again. -/
theorem rule_ap {xs : List ND} (ok : Okay xs) {P : List Int} {c : Int} (h : Rule xs P c) :
    (P = (nodeF xs c).l ∧ hasB xs c = true ∧ (nodeF xs c).o ≠ 1) ∨
    ∃ t, t ∈ P ∧ (∀ p ∈ P, p = t ∨ t ∈ uses xs p) ∧ ∀ s : SD, s.i.length = xs.length → (∀ p ∈ P, inB s.i p = true) → inB (apF xs s t).i c = true := by
  have hh := rule_has ok h
  have al : ∀ {l : List Int} {s : SD}, s.i.length = xs.length → (∀ t ∈ l, hasB xs t = true) → Go1 xs (fun _ => True) s (addL s l) ∧ ∀ t ∈ l, inB (addL s l).i t = true := fun hl h => addL_go hl fun t ht => ⟨h t ht, trivial⟩
  cases h with
  | comp _ h ho => exact .inl ⟨rfl, h, ho⟩
  | list t x h ho hx =>
    refine .inr ⟨t, by simp, fun p hp => .inl (by simpa using hp), fun s hl hs => ?_⟩
    unfold apF
    rw [if_pos ho]
    exact (al hl fun y hy => has_part ok h hy).2 c hx
  | opn t x h ho hk hx =>
    have hl4 := len_of ok h ho rfl
    refine .inr ⟨t, by simp, fun p hp => ?_, fun s hl hs => ?_⟩
    · simp only [List.mem_cons, List.not_mem_nil, or_false] at hp
      refine hp.imp id fun e => uses_mem.2 ⟨h, ?_⟩
      unfold links
      rw [if_pos ⟨ho, hk⟩, e]; simp
    · unfold apF
      rw [if_neg (by rw [ho]; decide), if_pos ho, if_pos ⟨hk, hs _ (by simp)⟩]
      exact (al hl fun y hy => has_part ok h (List.mem_of_mem_drop (List.mem_of_mem_take hy))).2 c hx
  | enc t x h ho hx =>
    have hl4 := len_of ok h ho rfl
    refine .inr ⟨t, by simp, fun p hp => ?_, fun s hl hs => ?_⟩
    · simp only [List.mem_cons, List.not_mem_nil, or_false] at hp
      refine hp.imp id fun e => uses_mem.2 ⟨h, ?_⟩
      unfold links
      rw [e]
      exact List.mem_append_left _ (getD_mem (by omega))
    · unfold apF
      rw [if_neg (by rw [ho]; decide), if_neg (by rw [ho]; decide), if_pos ho, if_pos (hs _ (by simp))]
      exact (al hl fun y hy => has_part ok h (List.mem_of_mem_drop hy)).2 c hx
  | sig t h ho =>
    have hl2 := len_of ok h ho rfl
    have h1 := has_part ok h (getD_mem (l := (nodeF xs t).l) (k := 1) (by omega))
    refine .inr ⟨t, by simp, fun p hp => .inl (by simpa using hp), fun s hl hs => ?_⟩
    obtain ⟨g1, g2⟩ := add1_go (s := s) (D := fun _ => True) hl h1 trivial
    unfold apF
    rw [if_neg (by rw [ho]; decide), if_neg (by rw [ho]; decide), if_neg (by rw [ho]; decide), if_pos ho]
    split
    · exact (al (g1.len.trans hl) fun u hu => (uses_mem.1 (List.mem_filter.1 hu).1).1).1.mono _ g2
    · exact g2
  | unbl t u h hu ho hb uo u0 u1 =>
    have hl2 := len_of ok h ho rfl
    have hlu := len_of ok hu uo rfl
    have h1 := has_part ok h (getD_mem (l := (nodeF xs t).l) (k := 1) (by omega))
    refine .inr ⟨t, by simp, fun p hp => ?_, fun s hl hs => ?_⟩
    · simp only [List.mem_cons, List.not_mem_nil, or_false] at hp
      refine hp.imp id fun e => uses_mem.2 ⟨h, ?_⟩
      unfold links
      rw [if_neg (fun e => by rw [ho] at e; exact absurd e.1 (by decide)), if_pos ⟨ho, hb⟩, e]; simp
    · obtain ⟨g1, g2⟩ := add1_go (s := s) (D := fun _ => True) hl h1 trivial
      unfold apF
      rw [if_neg (by rw [ho]; decide), if_neg (by rw [ho]; decide), if_neg (by rw [ho]; decide), if_pos ho, if_pos ⟨hb, g1.mono _ (hs _ (by simp))⟩]
      refine (al (g1.len.trans hl) fun v hv => (uses_mem.1 (List.mem_filter.1 hv).1).1).2 c (List.mem_filter.2 ⟨uses_mem.2 ⟨hu, ?_⟩, ?_⟩)
      · unfold links
        rw [← u1]
        exact List.mem_append_left _ (getD_mem (by omega))
      · rw [uo, u0, u1]; simp
  | blind t h ho =>
    have hl2 := len_of ok h ho rfl
    refine .inr ⟨t, by simp, fun p hp => ?_, fun s hl hs => ?_⟩
    · simp only [List.mem_cons, List.not_mem_nil, or_false] at hp
      refine hp.imp id fun e => uses_mem.2 ⟨h, ?_⟩
      unfold links
      rw [e]
      exact List.mem_append_left _ (getD_mem (by omega))
    · unfold apF
      rw [if_neg (by rw [ho]; decide), if_neg (by rw [ho]; decide), if_neg (by rw [ho]; decide), if_neg (by rw [ho]; decide), if_pos ho, if_pos (hs _ (by simp))]
      exact (add1_go (D := fun _ => True) hl (has_part ok h (getD_mem (by omega))) trivial).2
/-- What holds whenever the next term is taken. -/
structure Inv (xs : List ND) (known : List Int) (s : SD) : Prop where
  len : s.i.length = xs.length
  o : ∀ t ∈ s.o, hasB xs t = true ∧ inB s.i t = true
  snd : Snd (Der xs known) s
  kn : ∀ t ∈ known, inB s.i t = true
  clo : ∀ P c, Rule xs P c → (∀ p ∈ P, inB s.i p = true ∧ p ∉ s.o) → inB s.i c = true
theorem fold_hit {xs : List ND} (ok : Okay xs) {D : Int → Prop} (hD : Cl xs D) {u c : Int} : ∀ {l : List Int} {s : SD}, s.i.length = xs.length → Snd D s → (∀ u ∈ l, hasB xs u = true ∧ (nodeF xs u).o ≠ 1) → u ∈ l →
    (∀ s' : SD, s'.i.length = xs.length → (∀ t, inB s.i t = true → inB s'.i t = true) → inB (visF xs s' u).i c = true) → inB (l.foldl (visF xs) s).i c = true
  | [], s, _, _, _, h, _ => by simp at h
  | v :: l, s, hl, hs, ha, h, k => by
    have a := vis_go ok hD hl hs (ha v (by simp)).1 (ha v (by simp)).2
    have b := vis_all ok hD (l := l) (s := visF xs s v) (a.len.trans hl) (a.sound hs) fun w hw => ha w (by simp [hw])
    rcases List.mem_cons.1 h with rfl | h
    · exact b.mono _ (k s hl fun _ h => h)
    · exact fold_hit ok hD (l := l) (s := visF xs s v) (a.len.trans hl) (a.sound hs) (fun w hw => ha w (by simp [hw])) h fun s' h1 h2 => k s' h1 fun t ht => h2 t (a.mono t ht)
theorem Inv.pop {xs : List ND} (ok : Okay xs) {known : List Int} {I : List Bool} {O : List Int} {t : Int} (h : Inv xs known ⟨I, O ++ [t]⟩) : Inv xs known ((uses xs t).foldl (visF xs) (apF xs ⟨I, O⟩ t)) := by
  have hD := der_cl xs known
  obtain ⟨ht, hti⟩ := h.o t (by simp)
  have hs0 : Snd (Der xs known) ⟨I, O⟩ := h.snd
  have hl0 : (SD.mk I O).i.length = xs.length := h.len
  have a := ap_go ok hD hl0 hs0 ht (h.snd t (has0 ht) hti)
  have hu : ∀ u ∈ uses xs t, hasB xs u = true ∧ (nodeF xs u).o ≠ 1 := fun u hu => uses_ne ok hu
  have b := vis_all ok hD (l := uses xs t) (a.len.trans hl0) (a.sound hs0) hu
  have g := a.trans b
  generalize hs2 : (uses xs t).foldl (visF xs) (apF xs ⟨I, O⟩ t) = s2 at *
  refine ⟨g.len.trans hl0, fun x hx => ?_, g.sound hs0, fun x hx => g.mono x (h.kn x hx), fun P c hr hp => ?_⟩
  · rcases g.opn x hx with h1 | h1
    · exact ⟨(h.o x (by simp [h1])).1, g.mono x (h.o x (by simp [h1])).2⟩
    · exact h1
  · have hP := (rule_has ok hr).1
    have hin : ∀ p ∈ P, inB I p = true := fun p hp' => (g.new p (has0 (hP p hp')) (hp p hp').1).elim id fun h1 => absurd h1 (hp p hp').2
    by_cases htp : t ∈ P
    · rcases rule_ap ok hr with ⟨rfl, hc, ho⟩ | ⟨t', ht', hus, hap⟩
      · have hcu : c ∈ uses xs t := uses_mem.2 ⟨hc, by unfold links; exact List.mem_append_left _ htp⟩
        rw [← hs2]
        refine fold_hit ok hD (a.len.trans hl0) (a.sound hs0) hu hcu fun s' h1 h2 => ?_
        unfold visF
        split
        · rename_i hb
          have := ap_go (D := fun _ => True) ok (fun _ _ _ _ => trivial) h1 (fun _ _ _ => trivial) hc trivial
          exact this.mono _ hb
        · rw [if_pos (List.all_eq_true.2 fun p hp' => h2 p (a.mono p (hin p hp')))]
          exact (add1_go (D := fun _ => True) h1 hc trivial).2
      · rcases hus t htp with e | e
        · rw [← e] at hap
          exact b.mono _ (hap ⟨I, O⟩ hl0 hin)
        · rw [← hs2]
          refine fold_hit ok hD (a.len.trans hl0) (a.sound hs0) hu e fun s' h1 h2 => ?_
          unfold visF
          rw [if_pos (h2 t' (a.mono t' (hin t' ht')))]
          exact hap s' h1 fun p hp' => h2 p (a.mono p (hin p hp'))
    · exact g.mono c (h.clo P c hr fun p hp' => ⟨hin p hp', fun hm => by
        rcases List.mem_append.1 hm with hm | hm
        · exact (hp p hp').2 (g.sub p hm)
        · rw [List.mem_singleton] at hm; subst hm; exact htp hp'⟩)
theorem Inv.done {xs : List ND} (ok : Okay xs) {known : List Int} {I : List Bool} (h : Inv xs known ⟨I, []⟩) (hk : ∀ x ∈ known, hasB xs x = true) {t : Int} (ht : hasB xs t = true) : inB I t = true ↔ Der xs known t :=
  ⟨fun hi => h.snd t (has0 ht) hi, fun hd => (der_least (S := fun t => hasB xs t = true → inB I t = true) (fun P c hr hp _ => h.clo P c hr fun p hp' => ⟨hp p hp' ((rule_has ok hr).1 p hp'), by simp⟩) (fun x hx _ => h.kn x hx) hd) ht⟩
/-- The terms that stand alone and are no atoms. -/
def bases (xs : List ND) (k : Nat) : List Int := ((List.range k).filter fun (t : Nat) => (nodeF xs (t : Int)).o != 1 && (nodeF xs (t : Int)).l.isEmpty).map fun (t : Nat) => (t : Int)
def startS (xs : List ND) (known : List Int) : SD := addL (addL ⟨List.replicate xs.length false, []⟩ (bases xs xs.length)) known
theorem inB_rep (n : Nat) (t : Int) : inB (List.replicate n false) t = false := by
  unfold inB
  rw [List.getD, List.getElem?_replicate]
  split <;> rfl
theorem inv_start {xs : List ND} (ok : Okay xs) {known : List Int} (hk : ∀ x ∈ known, hasB xs x = true) : Inv xs known (startS xs known) := by
  have hD := der_cl xs known
  have hb : ∀ t ∈ bases xs xs.length, hasB xs t = true ∧ Der xs known t := by
    intro t ht
    unfold bases at ht
    simp only [List.mem_map, List.mem_filter, List.mem_range, Bool.and_eq_true, bne_iff_ne, List.isEmpty_iff] at ht
    obtain ⟨j, ⟨hj, ho, he⟩, rfl⟩ := ht
    have hh : hasB xs (j : Int) = true := has_iff.2 ⟨by omega, by omega⟩
    exact ⟨hh, hD _ _ (.comp _ hh ho) fun p hp => by rw [he] at hp; simp at hp⟩
  have hl0 : (SD.mk (List.replicate xs.length false) []).i.length = xs.length := by simp
  obtain ⟨a1, a2⟩ := addL_go (D := Der xs known) hl0 hb
  obtain ⟨b1, b2⟩ := addL_go (D := Der xs known) (l := known) (a1.len.trans hl0) fun t ht => ⟨hk t ht, der_known ht⟩
  have g := a1.trans b1
  change Go1 xs (Der xs known) _ (startS xs known) at g
  refine ⟨g.len.trans hl0, fun t ht => ?_, g.sound fun t _ ht => ?_, b2, fun P c hr hp => ?_⟩
  · rcases g.opn t ht with h | h
    · simp at h
    · exact h
  · change inB (List.replicate xs.length false) t = true at ht
    rw [inB_rep] at ht; cases ht
  · have hP := (rule_has ok hr).1
    have hnil : P = [] := by
      rcases P with _ | ⟨p, P⟩
      · rfl
      · have h1 := hp p (by simp)
        rcases g.new p (has0 (hP p (by simp))) h1.1 with h2 | h2
        · change inB (List.replicate xs.length false) p = true at h2
          rw [inB_rep] at h2; cases h2
        · exact absurd h2 h1.2
    subst hnil
    rcases rule_ap ok hr with ⟨h1, h2, h3⟩ | ⟨t, ht, _⟩
    · refine b1.mono c (a2 c ?_)
      unfold bases
      simp only [List.mem_map, List.mem_filter, List.mem_range, Bool.and_eq_true, bne_iff_ne, List.isEmpty_iff]
      have h0 := has_iff.1 h2
      refine ⟨c.toNat, ⟨by omega, ?_, ?_⟩, by omega⟩ <;> rw [show ((c.toNat : Nat) : Int) = c by omega]
      · exact h3
      · exact h1.symm
    · simp at ht
/-- How much is left to do. -/
def mu (s : SD) : Nat := 2 * s.i.count false + s.o.length
theorem mu_add1 {xs : List ND} {s : SD} {t : Int} (hl : s.i.length = xs.length) (h : hasB xs t = true) : mu (add1 s t) ≤ mu s := by
  unfold add1
  split
  · exact Nat.le_refl _
  · rename_i hb
    have h2 := has_iff.1 h
    have hlt : t.toNat < s.i.length := by omega
    have hf : s.i[t.toNat] = false := by
      unfold inB at hb
      rw [List.getD, List.getElem?_eq_getElem hlt] at hb
      simpa using hb
    have hc : (s.i.set t.toNat true).count false + 1 = s.i.count false := by
      rw [List.count_set (h := hlt), hf]
      have := List.count_pos_iff.2 (hf ▸ List.getElem_mem hlt)
      simp; omega
    unfold mu
    simp only [List.length_append, List.length_cons, List.length_nil]
    omega
theorem mu_addL {xs : List ND} : ∀ {l : List Int} {s : SD}, s.i.length = xs.length → (∀ t ∈ l, hasB xs t = true) → mu (addL s l) ≤ mu s
  | [], _, _, _ => Nat.le_refl _
  | t :: l, s, hl, h => Nat.le_trans (mu_addL (l := l) (s := add1 s t) ((add1_go (D := fun _ => True) hl (h t (by simp)) trivial).1.len.trans hl) fun u hu => h u (by simp [hu])) (mu_add1 hl (h t (by simp)))
theorem mu_ap {xs : List ND} (ok : Okay xs) {s : SD} {t : Int} (hl : s.i.length = xs.length) (h : hasB xs t = true) : mu (apF xs s t) ≤ mu s := by
  unfold apF
  split
  · exact mu_addL hl fun u hu => has_part ok h hu
  split
  · split
    · exact mu_addL hl fun u hu => has_part ok h (List.mem_of_mem_drop (List.mem_of_mem_take hu))
    · exact Nat.le_refl _
  split
  · split
    · exact mu_addL hl fun u hu => has_part ok h (List.mem_of_mem_drop hu)
    · exact Nat.le_refl _
  split
  · rename_i ho
    have hl2 := len_of ok h ho rfl
    have h1 := has_part ok h (getD_mem (l := (nodeF xs t).l) (k := 1) (by omega))
    have g := (add1_go (s := s) (D := fun _ => True) hl h1 trivial).1
    split
    · exact Nat.le_trans (mu_addL (g.len.trans hl) fun u hu => (uses_mem.1 (List.mem_filter.1 hu).1).1) (mu_add1 hl h1)
    · exact mu_add1 hl h1
  split
  · rename_i ho
    have hl2 := len_of ok h ho rfl
    split
    · exact mu_add1 hl (has_part ok h (getD_mem (by omega)))
    · exact Nat.le_refl _
  · exact Nat.le_refl _
theorem mu_vis {xs : List ND} (ok : Okay xs) {s : SD} {u : Int} (hl : s.i.length = xs.length) (h : hasB xs u = true) : mu (visF xs s u) ≤ mu s ∧ (visF xs s u).i.length = xs.length := by
  unfold visF
  split
  · exact ⟨mu_ap ok hl h, (ap_go (D := fun _ => True) ok (fun _ _ _ _ => trivial) hl (fun _ _ _ => trivial) h trivial).len.trans hl⟩
  · split
    · exact ⟨mu_add1 hl h, (add1_go (D := fun _ => True) hl h trivial).1.len.trans hl⟩
    · exact ⟨Nat.le_refl _, hl⟩
theorem mu_pop {I : List Bool} {O : List Int} {t : Int} : mu ⟨I, O⟩ < mu ⟨I, O ++ [t]⟩ := by
  unfold mu
  simp
end Go.KK

/- plain: what of what was told can be derived (Known), and that more tells no less (DeduceMore). -/
namespace Go.KK
open Go.RowKit Classical
set_option linter.unusedVariables false
set_option linter.unusedSimpArgs false

/-- Some of these is made of it. -/
def Met (xs : List ND) (l : List Int) (t : Int) : Prop := ∃ k ∈ l, Rch xs k t
noncomputable def derB (xs : List ND) (l : List Int) (t : Int) : Bool := decide (Der xs l t)
noncomputable def knF (xs : List ND) (l : List Int) : List Int := ((List.range xs.length).filter fun (t : Nat) => decide (Met xs l (t : Int)) && derB xs l (t : Int)).map fun (t : Nat) => (t : Int)
theorem derB_iff {xs : List ND} {l : List Int} {t : Int} : derB xs l t = true ↔ Der xs l t := by unfold derB; rw [decide_eq_true_eq]
theorem knF_mem {xs : List ND} {l : List Int} {t : Int} : t ∈ knF xs l ↔ hasB xs t = true ∧ Met xs l t ∧ Der xs l t := by
  unfold knF
  simp only [List.mem_map, List.mem_filter, List.mem_range, Bool.and_eq_true, decide_eq_true_eq, derB_iff]
  rw [has_iff]
  constructor
  · rintro ⟨j, ⟨hj, h1, h2⟩, rfl⟩
    exact ⟨⟨by omega, by omega⟩, h1, h2⟩
  · rintro ⟨h0, h1, h2⟩
    have e : ((t.toNat : Nat) : Int) = t := by omega
    exact ⟨t.toNat, ⟨by omega, by rw [e]; exact h1, by rw [e]; exact h2⟩, e⟩
theorem met_has {xs : List ND} (ok : Okay xs) {l : List Int} {t : Int} (h : Met xs l t) : hasB xs t = true := by
  obtain ⟨k, _, hr⟩ := h
  exact (hr.has ok).2.1
theorem met_self {xs : List ND} {l : List Int} {t : Int} (h : t ∈ l) (hh : hasB xs t = true) : Met xs l t := ⟨t, h, .self hh⟩
theorem met_part {xs : List ND} {l : List Int} {t x : Int} (h : Met xs l t) (hx : x ∈ (nodeF xs t).l) : Met xs l x := by
  obtain ⟨k, h1, h2⟩ := h
  exact ⟨k, h1, .step h2 hx⟩
theorem met_mono {xs : List ND} {l m : List Int} (h : ∀ x ∈ l, Met xs m x) {t : Int} (ht : Met xs l t) : Met xs m t := by
  obtain ⟨k, h1, h2⟩ := ht
  obtain ⟨k', h3, h4⟩ := h k h1
  exact ⟨k', h3, h4.trans h2⟩
theorem knF_congr {xs : List ND} {l m : List Int} (hd : ∀ t, Der xs m t ↔ Der xs l t) (hm : ∀ t, Met xs m t ↔ Met xs l t) : knF xs m = knF xs l := by
  unfold knF derB
  congr 1
  refine List.filter_congr fun t _ => ?_
  rw [decide_eq_decide.2 (hm t), decide_eq_decide.2 (hd t)]
section
variable {xs : List ND} (ok : Okay xs) {l m : List Int}
set_option linter.unusedSectionVars false
include ok
theorem kn_sub (hl : ∀ x ∈ l, hasB xs x = true) {t : Int} (h : t ∈ l) : t ∈ knF xs l := knF_mem.2 ⟨hl t h, met_self h (hl t h), der_known h⟩
theorem kn_more (hl : ∀ x ∈ l, hasB xs x = true) {t : Int} (h : t ∈ knF xs l) : t ∈ knF xs (l ++ m) := by
  obtain ⟨h1, h2, h3⟩ := knF_mem.1 h
  refine knF_mem.2 ⟨h1, met_mono (fun x hx => met_self (by simp [hx]) (hl x hx)) h2, der_mono (fun x hx => der_known (by simp [hx])) h3⟩
theorem der_kn (hl : ∀ x ∈ l, hasB xs x = true) (t : Int) : Der xs (knF xs l) t ↔ Der xs l t :=
  ⟨der_mono fun x hx => (knF_mem.1 hx).2.2, der_mono fun x hx => der_known (kn_sub ok hl hx)⟩
theorem derB_kn (hl : ∀ x ∈ l, hasB xs x = true) (t : Int) : derB xs (knF xs l) t = derB xs l t := by
  unfold derB
  rw [decide_eq_decide]
  exact der_kn ok hl t
theorem kn_app (hl : ∀ x ∈ l, hasB xs x = true) : knF xs (l ++ knF xs l) = knF xs l := by
  have hd : ∀ t, Der xs (l ++ knF xs l) t ↔ Der xs l t := fun t =>
    ⟨der_mono fun x hx => by
      rcases List.mem_append.1 hx with hx | hx
      · exact der_known hx
      · exact (knF_mem.1 hx).2.2,
     der_mono fun x hx => der_known (by simp [hx])⟩
  have hm : ∀ t, Met xs (l ++ knF xs l) t ↔ Met xs l t := fun t =>
    ⟨met_mono fun x hx => by
      rcases List.mem_append.1 hx with hx | hx
      · exact met_self hx (hl x hx)
      · exact (knF_mem.1 hx).2.1,
     met_mono fun x hx => met_self (by simp [hx]) (hl x hx)⟩
  exact knF_congr hd hm
omit ok
/-- What was met, once all terms from k on have been gone through. -/
structure Mt (xs : List ND) (l : List Int) (I : List Bool) (k : Nat) : Prop where
  len : I.length = xs.length
  snd : ∀ t, hasB xs t = true → inB I t = true → Met xs l t
  kn : ∀ t ∈ l, inB I t = true
  clo : ∀ j : Nat, k ≤ j → j < xs.length → inB I (j : Int) = true → ∀ x ∈ (nodeF xs (j : Int)).l, inB I x = true
def setsB (I : List Bool) (l : List Int) : List Bool := l.foldl (fun I x => I.set x.toNat true) I
theorem setsB_len : ∀ (l : List Int) (I : List Bool), (setsB I l).length = I.length
  | [], _ => rfl
  | x :: l, I => by
    show (setsB (I.set x.toNat true) l).length = I.length
    rw [setsB_len l, List.length_set]
theorem setsB_in : ∀ (l : List Int) (I : List Bool), (∀ x ∈ l, 0 ≤ x ∧ x.toNat < I.length) → ∀ u : Int, 0 ≤ u → (inB (setsB I l) u = true ↔ inB I u = true ∨ u ∈ l)
  | [], _, _, u, _ => by simp [setsB]
  | x :: l, I, h, u, hu => by
    show inB (setsB (I.set x.toNat true) l) u = true ↔ _
    rw [setsB_in l _ (fun y hy => ⟨(h y (by simp [hy])).1, by rw [List.length_set]; exact (h y (by simp [hy])).2⟩) u hu, inB_set (h x (by simp)).1 hu (h x (by simp)).2]
    simp only [Bool.or_eq_true, decide_eq_true_eq, List.mem_cons]
    constructor
    · rintro ((h | h) | h)
      · exact .inr (.inl h)
      · exact .inl h
      · exact .inr (.inr h)
    · rintro (h | h | h)
      · exact .inl (.inr h)
      · exact .inl (.inl h)
      · exact .inr h
theorem setsB_snoc (I : List Bool) (l : List Int) (x : Int) : setsB I (l ++ [x]) = (setsB I l).set x.toNat true := by unfold setsB; rw [List.foldl_append]; rfl
theorem mt_start (hl : ∀ x ∈ l, hasB xs x = true) : Mt xs l (setsB (List.replicate xs.length false) l) xs.length := by
  have hr : ∀ x ∈ l, 0 ≤ x ∧ x.toNat < (List.replicate xs.length false).length := fun x hx => by
    have := has_iff.1 (hl x hx)
    simp; omega
  refine ⟨by rw [setsB_len]; simp, fun t ht hi => ?_, fun t ht => ?_, fun j h1 h2 => by omega⟩
  · rw [setsB_in _ _ hr t (has0 ht), inB_rep] at hi
    rcases hi with hi | hi
    · cases hi
    · exact met_self hi ht
  · rw [setsB_in _ _ hr t (has0 (hl t ht))]
    exact .inr ht
theorem Mt.step (ok : Okay xs) {I : List Bool} {k : Nat} (h : Mt xs l I (k + 1)) (hk : k < xs.length) : Mt xs l (if inB I (k : Int) = true then setsB I (nodeF xs (k : Int)).l else I) k := by
  have hh : hasB xs (k : Int) = true := has_iff.2 ⟨by omega, by omega⟩
  split
  · rename_i hi
    have hr : ∀ x ∈ (nodeF xs (k : Int)).l, 0 ≤ x ∧ x.toNat < I.length := fun x hx => by
      have := has_iff.1 (has_part ok hh hx)
      rw [h.len]; omega
    refine ⟨by rw [setsB_len]; exact h.len, fun t ht hi' => ?_, fun t ht => ?_, fun j h1 h2 hj x hx => ?_⟩
    · rcases (setsB_in _ _ hr t (has0 ht)).1 hi' with h' | h'
      · exact h.snd t ht h'
      · exact met_part (h.snd _ hh hi) h'
    · by_cases h0 : 0 ≤ t
      · exact (setsB_in _ _ hr t h0).2 (.inl (h.kn t ht))
      · have e : inB (setsB I (nodeF xs (k : Int)).l) t = inB (setsB I (nodeF xs (k : Int)).l) 0 := by unfold inB; rw [show t.toNat = (0 : Int).toNat by omega]
        rw [e]
        have e2 : inB I t = inB I 0 := by unfold inB; rw [show t.toNat = (0 : Int).toNat by omega]
        exact (setsB_in _ _ hr 0 (by omega)).2 (.inl (e2 ▸ h.kn t ht))
    · have hjh : hasB xs (j : Int) = true := has_iff.2 ⟨by omega, by omega⟩
      have hx0 := has0 (has_part ok hjh hx)
      by_cases e : j = k
      · subst e
        exact (setsB_in _ _ hr x hx0).2 (.inr hx)
      · rcases (setsB_in _ _ hr (j : Int) (by omega)).1 hj with h' | h'
        · exact (setsB_in _ _ hr x hx0).2 (.inl (h.clo j (by omega) h2 h' x hx))
        · have := (part_lt ok hh h').2.1
          omega
  · rename_i hi
    refine ⟨h.len, h.snd, h.kn, fun j h1 h2 hj x hx => ?_⟩
    by_cases e : j = k
    · subst e; exact absurd hj hi
    · exact h.clo j (by omega) h2 hj x hx
theorem Mt.done (ok : Okay xs) (hl : ∀ x ∈ l, hasB xs x = true) {I : List Bool} (h : Mt xs l I 0) {t : Int} (ht : hasB xs t = true) : inB I t = true ↔ Met xs l t := by
  refine ⟨h.snd t ht, ?_⟩
  rintro ⟨k, hk, hr⟩
  clear ht
  induction hr with
  | self _ => exact h.kn _ hk
  | step hr hy ih =>
    have hx := (hr.has ok).2.1
    have h2 := has_iff.1 hx
    rename_i x y
    have e : ((x.toNat : Nat) : Int) = x := by omega
    exact h.clo x.toNat (by omega) (by omega) (by rw [e]; exact ih) y (by rw [e]; exact hy)
/-- The numbers below k that are in both. -/
def pickB (I J : List Bool) (k : Nat) : List Int := ((List.range k).filter fun (t : Nat) => inB I (t : Int) && inB J (t : Int)).map fun (t : Nat) => (t : Int)
theorem pickB_succ (I J : List Bool) (k : Nat) : pickB I J (k + 1) = if inB I (k : Int) && inB J (k : Int) then pickB I J k ++ [(k : Int)] else pickB I J k := by
  unfold pickB
  rw [List.range_succ, List.filter_append, List.map_append]
  by_cases h : (inB I (k : Int) && inB J (k : Int)) = true
  · rw [if_pos h]; simp [h]
  · rw [if_neg h]; simp [h]
theorem pickB_kn (ok : Okay xs) (hl : ∀ x ∈ l, hasB xs x = true) {I J : List Bool} (h : Mt xs l I 0) (k : ∀ t, hasB xs t = true → (inB J t = true ↔ Der xs l t)) : pickB I J xs.length = knF xs l := by
  unfold pickB knF
  congr 1
  refine List.filter_congr fun t ht => ?_
  have hh : hasB xs (t : Int) = true := has_iff.2 ⟨by omega, by have := List.mem_range.1 ht; omega⟩
  have e1 : inB I (t : Int) = decide (Met xs l (t : Int)) := by rw [Bool.eq_iff_iff, decide_eq_true_eq]; exact h.done ok hl hh
  have e2 : inB J (t : Int) = derB xs l (t : Int) := by rw [Bool.eq_iff_iff, derB_iff]; exact k _ hh
  rw [e1, e2]
end
end Go.KK

/- plain: a term's text, and what a writer writes of it that stops behind 4000 bytes. -/
namespace Go.KK
open Go.RowKit
set_option linter.unusedVariables false
set_option linter.unusedSimpArgs false

/-- The name of a kind. -/
def nameB (o : Int) : List UInt8 :=
  if o = 3 then [108, 105, 115, 116] else if o = 4 then [104, 97, 115, 104] else if o = 5 then [109, 105, 120] else if o = 6 then [107, 101, 121]
  else if o = 7 then [112, 117, 98] else if o = 8 then [115, 101, 97, 108] else if o = 9 then [101, 110, 99] else if o = 10 then [115, 105, 103] else if o = 11 then [109, 97, 99] else if o = 12 then [98, 108, 105, 110, 100] else []
/-- A text's bytes, with a stroke ahead of what would end it. -/
def escB (s : List UInt8) : List UInt8 := s.flatMap fun b => if b = 34 ∨ b = 92 then [92, b] else [b]
def joinC : List (List UInt8) → List UInt8
  | [] => []
  | [x] => x
  | x :: y :: l => x ++ 44 :: joinC (y :: l)
/-- One node's text, where the texts of all lesser terms are these. -/
def textOf (T : List (List UInt8)) (x : ND) : List UInt8 :=
  if x.o = 1 then 35 :: Lib.itoa x.n else if x.o = 2 then 34 :: (escB x.s.data.toList ++ [34])
  else nameB x.o ++ 40 :: (joinC (x.l.map fun t => T.getD t.toNat []) ++ [41])
def texts : List ND → List (List UInt8) := List.foldl (fun T x => T ++ [textOf T x]) []
def showL (xs : List ND) (t : Nat) : List UInt8 := (texts xs).getD t []
theorem texts_snoc (xs : List ND) (x : ND) : texts (xs ++ [x]) = texts xs ++ [textOf (texts xs) x] := by unfold texts; rw [List.foldl_append]; rfl
theorem snoc_ind {α : Type} {P : List α → Prop} (h0 : P []) (h1 : ∀ l x, P l → P (l ++ [x])) (l : List α) : P l := by
  have h : ∀ l : List α, P l.reverse := by
    intro l
    induction l with
    | nil => exact h0
    | cons x l ih => rw [List.reverse_cons]; exact h1 _ _ ih
  have := h l.reverse
  rwa [List.reverse_reverse] at this
theorem texts_len (xs : List ND) : (texts xs).length = xs.length := by
  refine snoc_ind (P := fun xs => (texts xs).length = xs.length) rfl (fun xs x ih => ?_) xs
  rw [texts_snoc, List.length_append, List.length_append, ih]; rfl
theorem texts_app (xs m : List ND) : ∃ T, texts (xs ++ m) = texts xs ++ T := by
  refine snoc_ind (P := fun m => ∃ T, texts (xs ++ m) = texts xs ++ T) ⟨[], by simp⟩ (fun m x ih => ?_) m
  obtain ⟨T, h⟩ := ih
  exact ⟨T ++ [textOf (texts (xs ++ m)) x], by rw [← List.append_assoc, texts_snoc, h, List.append_assoc]⟩
theorem show_app (xs m : List ND) {t : Nat} (h : t < xs.length) : showL (xs ++ m) t = showL xs t := by
  obtain ⟨T, e⟩ := texts_app xs m
  unfold showL
  rw [e, List.getD, List.getD, List.getElem?_append_left (by rw [texts_len]; exact h)]
theorem show_at {xs : List ND} {t : Nat} {x : ND} (hx : xs[t]? = some x) : showL xs t = textOf (texts (xs.take t)) x := by
  have ht := (List.getElem?_eq_some_iff.1 hx).1
  have e : xs = (xs.take t ++ [x]) ++ xs.drop (t + 1) := by rw [← take_one hx, List.take_append_drop]
  have hl : (xs.take t).length = t := by rw [List.length_take]; omega
  have h2 : showL xs t = showL (xs.take t ++ [x]) t := by
    conv => lhs; rw [e]
    exact show_app _ _ (by simp; omega)
  rw [h2]
  unfold showL
  rw [texts_snoc, List.getD, List.getElem?_append_right (by rw [texts_len, hl]; omega), texts_len, hl, Nat.sub_self]
  rfl
/-- A node that is made of parts: its text in words of theirs. -/
theorem show_parts {xs : List ND} (ok : Okay xs) {t : Nat} {x : ND} (hx : xs[t]? = some x) (h1 : x.o ≠ 1) (h2 : x.o ≠ 2) : showL xs t = nameB x.o ++ 40 :: (joinC (x.l.map fun y => showL xs y.toNat) ++ [41]) := by
  rw [show_at hx]
  unfold textOf
  rw [if_neg h1, if_neg h2]
  have : (x.l.map fun y => (texts (xs.take t)).getD y.toNat []) = x.l.map fun y => showL xs y.toNat := by
    apply List.map_congr_left
    intro y hy
    have hm := ok.may _ _ hx
    unfold mayB at hm
    simp only [Bool.and_eq_true, List.all_eq_true] at hm
    have h3 := has_iff.1 (hm.1.2 y hy)
    have e := show_app (xs.take t) (xs.drop t) (t := y.toNat) (by omega)
    rw [List.take_append_drop] at e
    rw [e]; rfl
  rw [this]
theorem joinC_snoc : ∀ (l : List (List UInt8)) (x : List UInt8), joinC (l ++ [x]) = if l = [] then x else joinC l ++ 44 :: x
  | [], x => rfl
  | [y], x => rfl
  | y :: z :: l, x => by
    have ih := joinC_snoc (z :: l) x
    rw [if_neg (by simp)] at ih ⊢
    show y ++ 44 :: joinC (z :: l ++ [x]) = (y ++ 44 :: joinC (z :: l)) ++ 44 :: x
    rw [ih]; simp
/-- Behind n bytes: all of it is written, if it ends by 4000; else so much that it is beyond. -/
def Cut (n : Nat) (tgt out : List UInt8) : Prop := (n + tgt.length ≤ 4000 → out = tgt) ∧ (4000 < n + tgt.length → 4000 < n + out.length)
theorem cut_all (n : Nat) (l : List UInt8) : Cut n l l := ⟨fun _ => rfl, id⟩
theorem cut_over {n : Nat} (h : 4000 < n) (l : List UInt8) : Cut n l [] := ⟨fun h' => by omega, fun _ => by simpa using h⟩
theorem Cut.app {n : Nat} {t1 o1 t2 o2 : List UInt8} (h : Cut n t1 o1) (k : Cut (n + o1.length) t2 o2) : Cut n (t1 ++ t2) (o1 ++ o2) := by
  refine ⟨fun h' => ?_, fun h' => ?_⟩
  · rw [List.length_append] at h'
    have e1 := h.1 (by omega)
    subst e1
    rw [k.1 (by omega)]
  · rw [List.length_append] at h' ⊢
    by_cases h1 : n + t1.length ≤ 4000
    · have e1 := h.1 h1
      subst e1
      have := k.2 (by omega)
      omega
    · have := h.2 (by omega)
      omega
theorem nameB_len (o : Int) : (nameB o).length ≤ 5 := by
  unfold nameB
  repeat' split
  all_goals decide
end Go.KK

