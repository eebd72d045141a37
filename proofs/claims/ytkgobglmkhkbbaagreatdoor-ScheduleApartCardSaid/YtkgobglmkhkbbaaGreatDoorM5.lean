/- plain: a term's text, and what a writer writes of it that stops behind 4000 bytes. -/
import Derived.Test.YtkgobglmkhkbbaaGreatDoorM1
import Derived.Lib.ItoaLen
namespace Go.KK
open Go.RowKit
set_option linter.unusedVariables false
set_option linter.unusedSimpArgs false

/-- The name of a kind. -/
def nameB (o : Int) : List UInt8 :=
  if o = 3 then [108, 105, 115, 116] else if o = 4 then [104, 97, 115, 104] else if o = 5 then [109, 105, 120] else if o = 6 then [107, 101, 121]
  else if o = 7 then [112, 117, 98] else if o = 8 then [115, 101, 97, 108] else if o = 9 then [101, 110, 99] else if o = 10 then [115, 105, 103] else if o = 11 then [109, 97, 99] else if o = 12 then [98, 108, 105, 110, 100] else []
/-- A text's bytes, with a stroke ahead of what would end it. -/
def escB (s : List UInt8) : List UInt8 := s.flatMap fun b => if b = 34 ∨ b = 92 then [92, b] else [b]
def joinC : List (List UInt8) → List UInt8
  | [] => []
  | [x] => x
  | x :: y :: l => x ++ 44 :: joinC (y :: l)
/-- One node's text, where the texts of all lesser terms are these. -/
def textOf (T : List (List UInt8)) (x : ND) : List UInt8 :=
  if x.o = 1 then 35 :: Lib.itoa x.n else if x.o = 2 then 34 :: (escB x.s.data.toList ++ [34])
  else nameB x.o ++ 40 :: (joinC (x.l.map fun t => T.getD t.toNat []) ++ [41])
def texts : List ND → List (List UInt8) := List.foldl (fun T x => T ++ [textOf T x]) []
def showL (xs : List ND) (t : Nat) : List UInt8 := (texts xs).getD t []
theorem texts_snoc (xs : List ND) (x : ND) : texts (xs ++ [x]) = texts xs ++ [textOf (texts xs) x] := by unfold texts; rw [List.foldl_append]; rfl
theorem snoc_ind {α : Type} {P : List α → Prop} (h0 : P []) (h1 : ∀ l x, P l → P (l ++ [x])) (l : List α) : P l := by
  have h : ∀ l : List α, P l.reverse := by
    intro l
    induction l with
    | nil => exact h0
    | cons x l ih => rw [List.reverse_cons]; exact h1 _ _ ih
  have := h l.reverse
  rwa [List.reverse_reverse] at this
theorem texts_len (xs : List ND) : (texts xs).length = xs.length := by
  refine snoc_ind (P := fun xs => (texts xs).length = xs.length) rfl (fun xs x ih => ?_) xs
  rw [texts_snoc, List.length_append, List.length_append, ih]; rfl
theorem texts_app (xs m : List ND) : ∃ T, texts (xs ++ m) = texts xs ++ T := by
  refine snoc_ind (P := fun m => ∃ T, texts (xs ++ m) = texts xs ++ T) ⟨[], by simp⟩ (fun m x ih => ?_) m
  obtain ⟨T, h⟩ := ih
  exact ⟨T ++ [textOf (texts (xs ++ m)) x], by rw [← List.append_assoc, texts_snoc, h, List.append_assoc]⟩
theorem show_app (xs m : List ND) {t : Nat} (h : t < xs.length) : showL (xs ++ m) t = showL xs t := by
  obtain ⟨T, e⟩ := texts_app xs m
  unfold showL
  rw [e, List.getD, List.getD, List.getElem?_append_left (by rw [texts_len]; exact h)]
theorem show_at {xs : List ND} {t : Nat} {x : ND} (hx : xs[t]? = some x) : showL xs t = textOf (texts (xs.take t)) x := by
  have ht := (List.getElem?_eq_some_iff.1 hx).1
  have e : xs = (xs.take t ++ [x]) ++ xs.drop (t + 1) := by rw [← take_one hx, List.take_append_drop]
  have hl : (xs.take t).length = t := by rw [List.length_take]; omega
  have h2 : showL xs t = showL (xs.take t ++ [x]) t := by
    conv => lhs; rw [e]
    exact show_app _ _ (by simp; omega)
  rw [h2]
  unfold showL
  rw [texts_snoc, List.getD, List.getElem?_append_right (by rw [texts_len, hl]; omega), texts_len, hl, Nat.sub_self]
  rfl
/-- A node that is made of parts: its text in words of theirs. -/
theorem show_parts {xs : List ND} (ok : Okay xs) {t : Nat} {x : ND} (hx : xs[t]? = some x) (h1 : x.o ≠ 1) (h2 : x.o ≠ 2) : showL xs t = nameB x.o ++ 40 :: (joinC (x.l.map fun y => showL xs y.toNat) ++ [41]) := by
  rw [show_at hx]
  unfold textOf
  rw [if_neg h1, if_neg h2]
  have : (x.l.map fun y => (texts (xs.take t)).getD y.toNat []) = x.l.map fun y => showL xs y.toNat := by
    apply List.map_congr_left
    intro y hy
    have hm := ok.may _ _ hx
    unfold mayB at hm
    simp only [Bool.and_eq_true, List.all_eq_true] at hm
    have h3 := has_iff.1 (hm.1.2 y hy)
    have e := show_app (xs.take t) (xs.drop t) (t := y.toNat) (by omega)
    rw [List.take_append_drop] at e
    rw [e]; rfl
  rw [this]
theorem joinC_snoc : ∀ (l : List (List UInt8)) (x : List UInt8), joinC (l ++ [x]) = if l = [] then x else joinC l ++ 44 :: x
  | [], x => rfl
  | [y], x => rfl
  | y :: z :: l, x => by
    have ih := joinC_snoc (z :: l) x
    rw [if_neg (by simp)] at ih ⊢
    show y ++ 44 :: joinC (z :: l ++ [x]) = (y ++ 44 :: joinC (z :: l)) ++ 44 :: x
    rw [ih]; simp
/-- Behind n bytes: all of it is written, if it ends by 4000; else so much that it is beyond. -/
def Cut (n : Nat) (tgt out : List UInt8) : Prop := (n + tgt.length ≤ 4000 → out = tgt) ∧ (4000 < n + tgt.length → 4000 < n + out.length)
theorem cut_all (n : Nat) (l : List UInt8) : Cut n l l := ⟨fun _ => rfl, id⟩
theorem cut_over {n : Nat} (h : 4000 < n) (l : List UInt8) : Cut n l [] := ⟨fun h' => by omega, fun _ => by simpa using h⟩
theorem Cut.app {n : Nat} {t1 o1 t2 o2 : List UInt8} (h : Cut n t1 o1) (k : Cut (n + o1.length) t2 o2) : Cut n (t1 ++ t2) (o1 ++ o2) := by
  refine ⟨fun h' => ?_, fun h' => ?_⟩
  · rw [List.length_append] at h'
    have e1 := h.1 (by omega)
    subst e1
    rw [k.1 (by omega)]
  · rw [List.length_append] at h' ⊢
    by_cases h1 : n + t1.length ≤ 4000
    · have e1 := h.1 h1
      subst e1
      have := k.2 (by omega)
      omega
    · have := h.2 (by omega)
      omega
theorem nameB_len (o : Int) : (nameB o).length ≤ 5 := by
  unfold nameB
  repeat' split
  all_goals decide
end Go.KK
