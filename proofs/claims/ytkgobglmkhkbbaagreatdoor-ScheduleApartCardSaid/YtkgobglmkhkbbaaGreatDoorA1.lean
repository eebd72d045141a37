/- plain: terms' nodes, their texts among others (no two alike), and what an arena makes of a node. -/
import Derived.Test.YtkgobglmkhkbbaaGreatDoorK1
import Derived.Lib.ItoaNum
import Derived.Maps.Views
import Derived.Maps.OwnSet
namespace Go.KK
open Go.RowKit
set_option linter.unusedVariables false
set_option linter.unusedSimpArgs false

/-- A term's node. -/
structure ND where
  o : Int
  n : Int
  s : ByteArray
  l : List Int
deriving DecidableEq

/-! numbers' texts -/
def numB (b : UInt8) : Bool := (48 ≤ b && b ≤ 57) || b == 45
theorem dig_num : ∀ d : Nat, d < 10 → numB (UInt8.ofNat (48 + d)) = true := by decide +kernel
theorem decDigits_num (u : Nat) : ∀ b ∈ Lib.decDigits u, numB b = true := by
  induction u using Nat.strongRecOn with
  | ind u ih =>
    intro b hb
    rw [Lib.decDigits] at hb
    split at hb
    · rename_i h
      rw [List.mem_singleton] at hb
      subst hb
      exact dig_num u h
    · rename_i h
      rcases List.mem_append.1 hb with hb | hb
      · exact ih (u / 10) (by omega) b hb
      · rw [List.mem_singleton] at hb
        subst hb
        exact dig_num _ (Nat.mod_lt _ (by decide))
theorem itoa_num (i : Int) : ∀ b ∈ Lib.itoa i, numB b = true := by
  intro b hb
  unfold Lib.itoa at hb
  split at hb
  · rcases List.mem_cons.1 hb with rfl | hb
    · decide
    · exact decDigits_num _ _ hb
  · exact decDigits_num _ _ hb
def decV (l : List UInt8) : Nat := l.foldl (fun a b => 10 * a + (b.toNat - 48)) 0
theorem dig_val : ∀ d : Nat, d < 10 → (UInt8.ofNat (48 + d)).toNat - 48 = d := by decide +kernel
theorem decV_digits (u : Nat) : decV (Lib.decDigits u) = u := by
  induction u using Nat.strongRecOn with
  | ind u ih =>
    rw [Lib.decDigits]
    split
    · rename_i h
      show 10 * 0 + ((UInt8.ofNat (48 + u)).toNat - 48) = u
      rw [dig_val u h]; omega
    · rename_i h
      unfold decV at ih ⊢
      rw [List.foldl_append, ih (u / 10) (by omega)]
      show 10 * (u / 10) + ((UInt8.ofNat (48 + u % 10)).toNat - 48) = u
      rw [dig_val _ (Nat.mod_lt _ (by decide))]
      omega
theorem decDigits_inj {u v : Nat} (h : Lib.decDigits u = Lib.decDigits v) : u = v := by rw [← decV_digits u, ← decV_digits v, h]
theorem decDigits_ne (u : Nat) : Lib.decDigits u ≠ [] ∧ ∀ r, Lib.decDigits u ≠ 45 :: r := by
  induction u using Nat.strongRecOn with
  | ind u ih =>
    rw [Lib.decDigits]
    split
    · rename_i h
      refine ⟨by simp, fun r e => ?_⟩
      injection e with e _
      have : ∀ d : Nat, d < 10 → UInt8.ofNat (48 + d) ≠ 45 := by decide +kernel
      exact this u h e
    · rename_i h
      obtain ⟨i1, i2⟩ := ih (u / 10) (by omega)
      refine ⟨by simp, fun r e => ?_⟩
      rcases hd : Lib.decDigits (u / 10) with _ | ⟨b, t⟩
      · exact i1 hd
      · rw [hd] at e
        injection e with e _
        exact i2 t (by rw [hd, e])
theorem itoa_inj {i j : Int} (h : Lib.itoa i = Lib.itoa j) : i = j := by
  unfold Lib.itoa at h
  split at h
  · split at h
    · injection h with _ h
      have := decDigits_inj h
      omega
    · exact absurd h.symm ((decDigits_ne _).2 _)
  · split at h
    · exact absurd h ((decDigits_ne _).2 _)
    · have := decDigits_inj h
      omega
/-- Nothing, or a byte that stands in no number ahead. -/
def stopB : List UInt8 → Bool
  | [] => true
  | b :: _ => !numB b
theorem first_stop : ∀ {a a' r r' : List UInt8}, a ++ r = a' ++ r' → (∀ b ∈ a, numB b = true) → (∀ b ∈ a', numB b = true) → stopB r = true → stopB r' = true → a = a' ∧ r = r'
  | [], [], r, r', h, _, _, _, _ => ⟨rfl, h⟩
  | [], b :: a', r, r', h, _, h2, h3, _ => by
    rw [List.nil_append] at h
    rw [h] at h3
    have := h2 b (by simp)
    simp [stopB, this] at h3
  | b :: a, [], r, r', h, h1, _, _, h4 => by
    rw [List.nil_append] at h
    rw [← h] at h4
    have := h1 b (by simp)
    simp [stopB, this] at h4
  | b :: a, b' :: a', r, r', h, h1, h2, h3, h4 => by
    rw [List.cons_append, List.cons_append] at h
    injection h with e h
    obtain ⟨i1, i2⟩ := first_stop h (fun x hx => h1 x (by simp [hx])) (fun x hx => h2 x (by simp [hx])) h3 h4
    exact ⟨by rw [e, i1], i2⟩
/-- Numbers' texts, each behind a space. -/
def joinB (l : List Int) : List UInt8 := l.flatMap fun x => 32 :: Lib.itoa x
theorem joinB_cons (x : Int) (l : List Int) : joinB (x :: l) = 32 :: (Lib.itoa x ++ joinB l) := by unfold joinB; rw [List.flatMap_cons]; rfl
theorem joinB_snoc (l : List Int) (x : Int) : joinB (l ++ [x]) = joinB l ++ (32 :: Lib.itoa x) := by unfold joinB; rw [List.flatMap_append]; simp
theorem stop_join {l : List Int} {r : List UInt8} (h : stopB r = true) : stopB (joinB l ++ r) = true := by
  rcases l with _ | ⟨x, l⟩
  · exact h
  · rw [joinB_cons]; rfl
theorem joinB_inj : ∀ {l l' : List Int} {r r' : List UInt8}, joinB l ++ r = joinB l' ++ r' → stopB r = true → stopB r' = true → (∀ t, r ≠ 32 :: t) → (∀ t, r' ≠ 32 :: t) → l = l' ∧ r = r'
  | [], [], r, r', h, _, _, _, _ => ⟨rfl, h⟩
  | [], x :: l', r, r', h, _, _, h3, _ => by rw [joinB_cons] at h; exact absurd h (h3 _)
  | x :: l, [], r, r', h, _, _, _, h4 => by rw [joinB_cons] at h; exact absurd h.symm (h4 _)
  | x :: l, x' :: l', r, r', h, h1, h2, h3, h4 => by
    rw [joinB_cons, joinB_cons, List.cons_append, List.cons_append] at h
    injection h with _ h
    rw [List.append_assoc, List.append_assoc] at h
    obtain ⟨e1, e2⟩ := first_stop h (itoa_num x) (itoa_num x') (stop_join h1) (stop_join h2)
    obtain ⟨e3, e4⟩ := joinB_inj e2 h1 h2 h3 h4
    exact ⟨by rw [itoa_inj e1, e3], e4⟩
/-- The program's text of a node among others. -/
def keyP (x : ND) : List UInt8 := Lib.itoa x.o ++ joinB (x.n :: x.l) ++ 124 :: x.s.data.toList
theorem str_ext {s t : ByteArray} (h : s.data.toList = t.data.toList) : s = t := by
  obtain ⟨s⟩ := s; obtain ⟨t⟩ := t
  simp only at h
  rw [Array.toList_inj.1 h]
theorem keyP_inj {x y : ND} (h : keyP x = keyP y) : x = y := by
  unfold keyP at h
  rw [List.append_assoc, List.append_assoc] at h
  obtain ⟨e1, e2⟩ := first_stop h (itoa_num _) (itoa_num _) (stop_join rfl) (stop_join rfl)
  obtain ⟨e3, e4⟩ := joinB_inj e2 rfl rfl (fun t e => by injection e with e _; exact absurd e (by decide)) (fun t e => by injection e with e _; exact absurd e (by decide))
  injection e3 with e3 e5
  injection e4 with _ e4
  obtain ⟨_, _, _, _⟩ := x; obtain ⟨_, _, _, _⟩ := y
  simp only at e1 e3 e4 e5
  rw [itoa_inj e1, e3, str_ext e4, e5]
/-- The document's. -/
def keyR (x : ND) : List UInt8 := Lib.itoa x.o ++ 32 :: (Lib.itoa x.n ++ 32 :: (Lib.itoa x.s.size ++ 32 :: (x.s.data.toList ++ joinB x.l)))
theorem keyR_inj {x y : ND} (h : keyR x = keyR y) : x = y := by
  unfold keyR at h
  obtain ⟨e1, h⟩ := first_stop h (itoa_num _) (itoa_num _) rfl rfl
  injection h with _ h
  obtain ⟨e2, h⟩ := first_stop h (itoa_num _) (itoa_num _) rfl rfl
  injection h with _ h
  obtain ⟨e3, h⟩ := first_stop h (itoa_num _) (itoa_num _) rfl rfl
  injection h with _ h
  have e3 := itoa_inj e3
  have hl : x.s.data.toList.length = y.s.data.toList.length := by
    have h1 : x.s.size = x.s.data.toList.length := rfl
    have h2 : y.s.size = y.s.data.toList.length := rfl
    omega
  obtain ⟨e4, e5⟩ := List.append_inj h hl
  have e6 := (joinB_inj (l := x.l) (l' := y.l) (r := []) (r' := []) (by simpa using e5) rfl rfl (fun t e => by cases e) (fun t e => by cases e)).1
  obtain ⟨_, _, _, _⟩ := x; obtain ⟨_, _, _, _⟩ := y
  simp only at e1 e2 e4 e6
  rw [itoa_inj e1, itoa_inj e2, str_ext e4, e6]

/-! what may be -/
/-- How many parts a node of a kind has (none: any). -/
def arN : Int → Option Nat
  | 1 => some 0 | 2 => some 0 | 4 => some 1 | 5 => some 2 | 6 => some 3 | 7 => some 1 | 8 => some 4 | 9 => some 4 | 10 => some 2 | 11 => some 2 | 12 => some 2
  | _ => none
/-- As many parts as such a node has. -/
def lenB (o : Int) (n : Nat) : Bool := match arN o with | some k => n == k | none => o == 3
def shB (x : ND) : Bool := lenB x.o x.l.length && decide (x.l.length ≤ 64) && decide (0 ≤ x.n) && decide (x.s.size ≤ 200) && (x.o == 1 || x.n == 0) && (x.o == 2 || x.s.size == 0)
def opAt (xs : List ND) (t : Int) : Int := match xs[t.toNat]? with | some x => x.o | none => 0
def hasB (xs : List ND) (t : Int) : Bool := decide (0 ≤ t) && decide (t < xs.length)
def mayB (xs : List ND) (x : ND) : Bool := shB x && x.l.all (hasB xs) && (x.o != 6 || opAt xs (x.l.getD 1 0) == 2)
/-- The arena behind it, the number, the error. -/
def makT (xs : List ND) (x : ND) : List ND := if mayB xs x then (if x ∈ xs then xs else if 100000 ≤ xs.length then xs else xs ++ [x]) else xs
def makI (xs : List ND) (x : ND) : Int := if mayB xs x then (if x ∈ xs then (xs.idxOf x : Nat) else if 100000 ≤ xs.length then 0 else (xs.length : Nat)) else 0
def makE (xs : List ND) (x : ND) : Int := if mayB xs x then (if x ∈ xs then 0 else if 100000 ≤ xs.length then 2 else 0) else 1
theorem idxOf_get {xs : List ND} {x : ND} (h : x ∈ xs) : xs[xs.idxOf x]? = some x := by
  have hl := List.idxOf_lt_length_of_mem h
  rw [List.getElem?_eq_getElem hl, List.getElem_idxOf hl]

/-! a map of texts to numbers -/
abbrev MD := DataW Unit
structure MapOk (kf : ND → List UInt8) (xs : List ND) (D : MD) : Prop where
  is : Maps.IsMap D
  has : ∀ s, Maps.has D (.string s) = true ↔ ∃ x ∈ xs, kf x = s
  at' : ∀ (j : Nat) x, xs[j]? = some x → ∀ z, D.atKey (.string (kf x)) z = .lit (.int .i64 j)
theorem mapOk_nil (kf : ND → List UInt8) : MapOk kf [] (.map []) :=
  ⟨Maps.isMap_empty, fun s => by rw [Maps.has_eq]; simp, fun j x h => by simp at h⟩
theorem MapOk.not {kf : ND → List UInt8} {xs : List ND} {D : MD} (h : MapOk kf xs D) (hi : ∀ {x y}, kf x = kf y → x = y) {x : ND} (hx : x ∉ xs) : Maps.has D (.string (kf x)) = false := by
  rw [Bool.eq_false_iff]
  intro hh
  obtain ⟨y, hy, e⟩ := (h.has _).1 hh
  exact hx (hi e ▸ hy)
theorem MapOk.yes {kf : ND → List UInt8} {xs : List ND} {D : MD} (h : MapOk kf xs D) {x : ND} (hx : x ∈ xs) : Maps.has D (.string (kf x)) = true := (h.has _).2 ⟨x, hx, rfl⟩
theorem mapOk_put {kf : ND → List UInt8} {xs : List ND} {D : MD} (h : MapOk kf xs D) (hi : ∀ {x y}, kf x = kf y → x = y) {x : ND} (hx : x ∉ xs) : MapOk kf (xs ++ [x]) (D.put (.string (kf x)) (.lit (.int .i64 (xs.length : Nat)))) := by
  refine ⟨h.is.put _ _, fun s => ?_, fun j y hy z => ?_⟩
  · by_cases hs : kf x = s
    · subst hs
      rw [Maps.has_put_same h.is (by trivial)]
      exact ⟨fun _ => ⟨x, by simp, rfl⟩, fun _ => rfl⟩
    · rw [Maps.has_put_other (fun e => hs (by injection e with e; exact e.symm)), h.has]
      constructor
      · rintro ⟨y, hy, e⟩; exact ⟨y, by simp [hy], e⟩
      · rintro ⟨y, hy, e⟩
        rcases List.mem_append.1 hy with hy | hy
        · exact ⟨y, hy, e⟩
        · rw [List.mem_singleton] at hy; subst hy; exact absurd e hs
  · rcases Nat.lt_or_ge j xs.length with hj | hj
    · rw [List.getElem?_append_left hj] at hy
      have hne : kf y ≠ kf x := fun e => hx (hi e ▸ List.mem_of_getElem? hy)
      rw [Maps.atKey_put_other (fun e => hne (by injection e))]
      exact h.at' j y hy z
    · rw [List.getElem?_append_right hj] at hy
      have : j - xs.length = 0 := by
        rcases hk : j - xs.length with _ | k
        · rfl
        · rw [hk] at hy; simp at hy
      rw [this] at hy
      injection hy with hy
      subst hy
      rw [Maps.atKey_put_same h.is (by trivial), show j = xs.length by omega]
end Go.KK
