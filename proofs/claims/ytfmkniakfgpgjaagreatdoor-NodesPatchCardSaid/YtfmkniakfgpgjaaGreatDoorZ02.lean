import Derived.Test.YtfmkniakfgpgjaaGreatDoorZ01
import Derived.Lib.ItoaLen
import Derived.Lib.AtoiTie
import Derived.Lib.AtoiAllCases
/- plain: a term's text, and what a writer writes of it that stops behind 4000 bytes. -/
namespace Go.KK
open Go.RowKit
set_option linter.unusedVariables false
set_option linter.unusedSimpArgs false

/-- The name of a kind. -/
def nameB (o : Int) : List UInt8 :=
  if o = 3 then [108, 105, 115, 116] else if o = 4 then [104, 97, 115, 104] else if o = 5 then [109, 105, 120] else if o = 6 then [107, 101, 121]
  else if o = 7 then [112, 117, 98] else if o = 8 then [115, 101, 97, 108] else if o = 9 then [101, 110, 99] else if o = 10 then [115, 105, 103] else if o = 11 then [109, 97, 99] else if o = 12 then [98, 108, 105, 110, 100] else []
/-- A text's bytes, with a stroke ahead of what would end it. -/
def escB (s : List UInt8) : List UInt8 := s.flatMap fun b => if b = 34 ∨ b = 92 then [92, b] else [b]
def joinC : List (List UInt8) → List UInt8
  | [] => []
  | [x] => x
  | x :: y :: l => x ++ 44 :: joinC (y :: l)
/-- One node's text, where the texts of all lesser terms are these. -/
def textOf (T : List (List UInt8)) (x : ND) : List UInt8 :=
  if x.o = 1 then 35 :: Lib.itoa x.n else if x.o = 2 then 34 :: (escB x.s.data.toList ++ [34])
  else nameB x.o ++ 40 :: (joinC (x.l.map fun t => T.getD t.toNat []) ++ [41])
def texts : List ND → List (List UInt8) := List.foldl (fun T x => T ++ [textOf T x]) []
def showL (xs : List ND) (t : Nat) : List UInt8 := (texts xs).getD t []
theorem texts_snoc (xs : List ND) (x : ND) : texts (xs ++ [x]) = texts xs ++ [textOf (texts xs) x] := by unfold texts; rw [List.foldl_append]; rfl
theorem snoc_ind {α : Type} {P : List α → Prop} (h0 : P []) (h1 : ∀ l x, P l → P (l ++ [x])) (l : List α) : P l := by
  have h : ∀ l : List α, P l.reverse := by
    intro l
    induction l with
    | nil => exact h0
    | cons x l ih => rw [List.reverse_cons]; exact h1 _ _ ih
  have := h l.reverse
  rwa [List.reverse_reverse] at this
theorem texts_len (xs : List ND) : (texts xs).length = xs.length := by
  refine snoc_ind (P := fun xs => (texts xs).length = xs.length) rfl (fun xs x ih => ?_) xs
  rw [texts_snoc, List.length_append, List.length_append, ih]; rfl
theorem texts_app (xs m : List ND) : ∃ T, texts (xs ++ m) = texts xs ++ T := by
  refine snoc_ind (P := fun m => ∃ T, texts (xs ++ m) = texts xs ++ T) ⟨[], by simp⟩ (fun m x ih => ?_) m
  obtain ⟨T, h⟩ := ih
  exact ⟨T ++ [textOf (texts (xs ++ m)) x], by rw [← List.append_assoc, texts_snoc, h, List.append_assoc]⟩
theorem show_app (xs m : List ND) {t : Nat} (h : t < xs.length) : showL (xs ++ m) t = showL xs t := by
  obtain ⟨T, e⟩ := texts_app xs m
  unfold showL
  rw [e, List.getD, List.getD, List.getElem?_append_left (by rw [texts_len]; exact h)]
theorem show_at {xs : List ND} {t : Nat} {x : ND} (hx : xs[t]? = some x) : showL xs t = textOf (texts (xs.take t)) x := by
  have ht := (List.getElem?_eq_some_iff.1 hx).1
  have e : xs = (xs.take t ++ [x]) ++ xs.drop (t + 1) := by rw [← take_one hx, List.take_append_drop]
  have hl : (xs.take t).length = t := by rw [List.length_take]; omega
  have h2 : showL xs t = showL (xs.take t ++ [x]) t := by
    conv => lhs; rw [e]
    exact show_app _ _ (by simp; omega)
  rw [h2]
  unfold showL
  rw [texts_snoc, List.getD, List.getElem?_append_right (by rw [texts_len, hl]; omega), texts_len, hl, Nat.sub_self]
  rfl
/-- A node that is made of parts: its text in words of theirs. -/
theorem show_parts {xs : List ND} (ok : Okay xs) {t : Nat} {x : ND} (hx : xs[t]? = some x) (h1 : x.o ≠ 1) (h2 : x.o ≠ 2) : showL xs t = nameB x.o ++ 40 :: (joinC (x.l.map fun y => showL xs y.toNat) ++ [41]) := by
  rw [show_at hx]
  unfold textOf
  rw [if_neg h1, if_neg h2]
  have : (x.l.map fun y => (texts (xs.take t)).getD y.toNat []) = x.l.map fun y => showL xs y.toNat := by
    apply List.map_congr_left
    intro y hy
    have hm := ok.may _ _ hx
    unfold mayB at hm
    simp only [Bool.and_eq_true, List.all_eq_true] at hm
    have h3 := has_iff.1 (hm.1.2 y hy)
    have e := show_app (xs.take t) (xs.drop t) (t := y.toNat) (by omega)
    rw [List.take_append_drop] at e
    rw [e]; rfl
  rw [this]
theorem joinC_snoc : ∀ (l : List (List UInt8)) (x : List UInt8), joinC (l ++ [x]) = if l = [] then x else joinC l ++ 44 :: x
  | [], x => rfl
  | [y], x => rfl
  | y :: z :: l, x => by
    have ih := joinC_snoc (z :: l) x
    rw [if_neg (by simp)] at ih ⊢
    show y ++ 44 :: joinC (z :: l ++ [x]) = (y ++ 44 :: joinC (z :: l)) ++ 44 :: x
    rw [ih]; simp
/-- Behind n bytes: all of it is written, if it ends by 4000; else so much that it is beyond. -/
def Cut (n : Nat) (tgt out : List UInt8) : Prop := (n + tgt.length ≤ 4000 → out = tgt) ∧ (4000 < n + tgt.length → 4000 < n + out.length)
theorem cut_all (n : Nat) (l : List UInt8) : Cut n l l := ⟨fun _ => rfl, id⟩
theorem cut_over {n : Nat} (h : 4000 < n) (l : List UInt8) : Cut n l [] := ⟨fun h' => by omega, fun _ => by simpa using h⟩
theorem Cut.app {n : Nat} {t1 o1 t2 o2 : List UInt8} (h : Cut n t1 o1) (k : Cut (n + o1.length) t2 o2) : Cut n (t1 ++ t2) (o1 ++ o2) := by
  refine ⟨fun h' => ?_, fun h' => ?_⟩
  · rw [List.length_append] at h'
    have e1 := h.1 (by omega)
    subst e1
    rw [k.1 (by omega)]
  · rw [List.length_append] at h' ⊢
    by_cases h1 : n + t1.length ≤ 4000
    · have e1 := h.1 h1
      subst e1
      have := k.2 (by omega)
      omega
    · have := h.2 (by omega)
      omega
theorem nameB_len (o : Int) : (nameB o).length ≤ 5 := by
  unfold nameB
  repeat' split
  all_goals decide
end Go.KK

/- plain: layers 4 and 11: secrets in words of makes; what was made once is made again. -/
namespace Go.KK
open Go.RowKit
set_option linter.unusedVariables false
set_option linter.unusedSimpArgs false

/-- A step: the arena, the number, the error. -/
abbrev Rs := List ND × Int × Int
/-- A step behind another one, if that one went well. -/
def bdF (r : Rs) (f : List ND → Int → Rs) : Rs := if r.2.2 = 0 then f r.1 r.2.1 else (r.1, 0, r.2.2)
def exF (xs : List ND) (s t : Int) : Rs := mk xs (ndN 5 [s, t])
def exdF (xs : List ND) (s : Int) (lab : ByteArray) (c : Int) : Rs := if kno xs [s, c] = true then bdF (mk xs (txN lab)) fun ys t => mk ys (ndN 6 [s, t, c]) else (xs, 0, 1)
def dvF (xs : List ND) (s : Int) (lab : ByteArray) : Rs := if kno xs [s] = true then bdF (mk xs (ndN 3 [])) fun ys n => exdF ys s lab n else (xs, 0, 1)
def pbF (xs : List ND) (s : Int) : Rs := mk xs (ndN 7 [s])
/-- A number's node. -/
def At (X : List ND) (i : Int) (x : ND) : Prop := 0 ≤ i ∧ X[i.toNat]? = some x
theorem At.ext {X : List ND} {i : Int} {x : ND} (h : At X i x) (m : List ND) : At (X ++ m) i x :=
  ⟨h.1, by rw [List.getElem?_append_left (List.getElem?_eq_some_iff.1 h.2).1]; exact h.2⟩
theorem At.eq {X : List ND} {i : Int} {x y : ND} (h : At X i x) (k : At X i y) : x = y := by
  have := h.2.symm.trans k.2
  injection this
theorem At.uniq {X : List ND} (ok : Okay X) {i j : Int} {x : ND} (h : At X i x) (k : At X j x) : i = j := by
  have hi := (List.getElem?_eq_some_iff.1 h.2).1
  have := (List.getElem?_inj hi ok.nd).1 (h.2.trans k.2.symm)
  have h1 := h.1; have h2 := k.1
  omega
theorem At.has {X : List ND} {i : Int} {x : ND} (h : At X i x) : hasB X i = true := by
  have hi := (List.getElem?_eq_some_iff.1 h.2).1
  have := h.1
  exact has_iff.2 ⟨h.1, by omega⟩
theorem has_ext {X : List ND} {i : Int} (h : hasB X i = true) (m : List ND) : hasB (X ++ m) i = true := by
  have := has_iff.1 h
  exact has_iff.2 ⟨this.1, by rw [List.length_append]; omega⟩
theorem kno_ext {X : List ND} {l : List Int} (h : kno X l = true) (m : List ND) : kno (X ++ m) l = true := by
  unfold kno at h ⊢
  rw [List.all_eq_true] at h ⊢
  exact fun i hi => has_ext (h i hi) m
theorem mk_at {xs : List ND} {x : ND} (h : makE xs x = 0) : At (makT xs x) (makI xs x) x ∧ mayB (makT xs x) x = true := by
  unfold makE at h
  by_cases hm : mayB xs x = true
  · rw [if_pos hm] at h
    by_cases hx : x ∈ xs
    · have e : makT xs x = xs := by unfold makT; rw [if_pos hm, if_pos hx]
      have ei : makI xs x = ((xs.idxOf x : Nat) : Int) := by unfold makI; rw [if_pos hm, if_pos hx]
      rw [e, ei]
      exact ⟨⟨by omega, by rw [Int.toNat_natCast]; exact idxOf_get hx⟩, hm⟩
    · rw [if_neg hx] at h
      by_cases hl : 100000 ≤ xs.length
      · rw [if_pos hl] at h; cases h
      · have e : makT xs x = xs ++ [x] := by unfold makT; rw [if_pos hm, if_neg hx, if_neg hl]
        have ei : makI xs x = ((xs.length : Nat) : Int) := by unfold makI; rw [if_pos hm, if_neg hx, if_neg hl]
        rw [e, ei]
        exact ⟨⟨by omega, by rw [Int.toNat_natCast, List.getElem?_append_right (Nat.le_refl _), Nat.sub_self]; rfl⟩, may_app [x] hm⟩
  · rw [if_neg hm] at h; cases h
theorem mk_fix {Y : List ND} (ok : Okay Y) {i : Int} {x : ND} (h : At Y i x) (hm : mayB Y x = true) : mk Y x = (Y, i, 0) := by
  have hx : x ∈ Y := List.mem_of_getElem? h.2
  have ei : ((Y.idxOf x : Nat) : Int) = i := At.uniq ok (x := x) ⟨by omega, by rw [Int.toNat_natCast]; exact idxOf_get hx⟩ h
  unfold mk makT makI makE
  rw [if_pos hm, if_pos hx, if_pos hm, if_pos hx, if_pos hm, if_pos hx, ei]
/-- A step that goes on an arena, and that an arena which went on takes again as it was. -/
structure Sb (F : List ND → Rs) : Prop where
  ext : ∀ xs, ∃ m, (F xs).1 = xs ++ m
  fix : ∀ xs m, Okay ((F xs).1 ++ m) → (F xs).2.2 = 0 → F ((F xs).1 ++ m) = ((F xs).1 ++ m, (F xs).2.1, 0)
  has : ∀ xs, (F xs).2.2 = 0 → hasB (F xs).1 (F xs).2.1 = true
  ok : ∀ xs, Okay xs → Okay (F xs).1
theorem sb_mk (x : ND) (hn : x.n < 9223372036854775808) : Sb fun xs => mk xs x :=
  ⟨fun xs => mak_pre xs x, fun xs m ok h => mk_fix ok ((mk_at h).1.ext m) (may_app m (mk_at h).2), fun _ h => (mk_at h).1.has, fun _ ok => okay_mak ok hn⟩
theorem sb_bd {F : List ND → Rs} {G : Int → List ND → Rs} (hF : Sb F) (hG : ∀ i, Sb (G i)) : Sb fun xs => bdF (F xs) fun ys i => G i ys := by
  refine ⟨fun xs => ?_, fun xs m ok h => ?_, fun xs h => ?_, fun xs ok => ?_⟩
  · obtain ⟨m, hm⟩ := hF.ext xs
    unfold bdF
    try dsimp only
    split
    · obtain ⟨m', hm'⟩ := (hG (F xs).2.1).ext (F xs).1
      exact ⟨m ++ m', by rw [hm', hm, List.append_assoc]⟩
    · exact ⟨m, hm⟩
  · try dsimp only at ok h ⊢
    unfold bdF at ok h ⊢
    by_cases he : (F xs).2.2 = 0
    · rw [if_pos he] at ok h ⊢
      obtain ⟨m', hm'⟩ := (hG (F xs).2.1).ext (F xs).1
      have e : (G (F xs).2.1 (F xs).1).1 ++ m = (F xs).1 ++ (m' ++ m) := by rw [hm', List.append_assoc]
      have h1 := hF.fix xs (m' ++ m) (by rw [← e]; exact ok) he
      have h2 := (hG (F xs).2.1).fix (F xs).1 m ok h
      rw [e, h1]
      try dsimp only
      rw [if_pos rfl, ← e]
      exact h2
    · rw [if_neg he] at h
      exact absurd h he
  · try dsimp only at h ⊢
    unfold bdF at h ⊢
    by_cases he : (F xs).2.2 = 0
    · rw [if_pos he] at h ⊢
      exact (hG _).has _ h
    · rw [if_neg he] at h
      exact absurd h he
  · have := hF.ok xs ok
    unfold bdF
    try dsimp only
    split
    · exact (hG _).ok _ this
    · exact this
theorem sb_kno {F : List ND → Rs} (l : List Int) (hF : Sb F) : Sb fun xs => if kno xs l = true then F xs else (xs, 0, 1) := by
  refine ⟨fun xs => ?_, fun xs m ok h => ?_, fun xs h => ?_, fun xs ok => ?_⟩
  · try dsimp only
    split
    · exact hF.ext xs
    · exact ⟨[], by simp⟩
  · try dsimp only at ok h ⊢
    by_cases hk : kno xs l = true
    · rw [if_pos hk] at ok h ⊢
      obtain ⟨m', hm'⟩ := hF.ext xs
      have hk2 : kno ((F xs).1 ++ m) l = true := by rw [hm']; exact kno_ext (kno_ext hk m') m
      rw [if_pos hk2]
      exact hF.fix xs m ok h
    · rw [if_neg hk] at h; cases h
  · try dsimp only at h ⊢
    by_cases hk : kno xs l = true
    · rw [if_pos hk] at h ⊢; exact hF.has xs h
    · rw [if_neg hk] at h; cases h
  · try dsimp only
    split
    · exact hF.ok xs ok
    · exact ok
theorem sb_nd (o : Int) (l : List Int) : Sb fun xs => mk xs (ndN o l) := sb_mk _ (by show (0 : Int) < _; decide)
theorem sb_tx (s : ByteArray) : Sb fun xs => mk xs (txN s) := sb_mk _ (by show (0 : Int) < _; decide)
theorem sb_ex (s t : Int) : Sb fun xs => exF xs s t := sb_nd 5 [s, t]
theorem sb_exd (s : Int) (lab : ByteArray) (c : Int) : Sb fun xs => exdF xs s lab c := sb_kno _ (sb_bd (G := fun t ys => mk ys (ndN 6 [s, t, c])) (sb_tx lab) fun t => sb_nd 6 [s, t, c])
theorem sb_dv (s : Int) (lab : ByteArray) : Sb fun xs => dvF xs s lab := sb_kno _ (sb_bd (G := fun n ys => exdF ys s lab n) (sb_nd 3 []) fun n => sb_exd s lab n)
theorem sb_pb (s : Int) : Sb fun xs => pbF xs s := sb_nd 7 [s]
theorem bd_ok {r : Rs} {f : List ND → Int → Rs} (h : (bdF r f).2.2 = 0) : r.2.2 = 0 ∧ bdF r f = f r.1 r.2.1 := by
  unfold bdF at h ⊢
  by_cases he : r.2.2 = 0
  · rw [if_pos he]; exact ⟨he, rfl⟩
  · rw [if_neg he] at h; exact absurd h he
/-- A secret that was derived: of which one, with which label and context. -/
def KeyAt (X : List ND) (i s : Int) (lab : ByteArray) (c : Int) : Prop := ∃ t, At X t (txN lab) ∧ At X i (ndN 6 [s, t, c])
def DvAt (X : List ND) (i s : Int) (lab : ByteArray) : Prop := ∃ n, At X n (ndN 3 []) ∧ KeyAt X i s lab n
theorem KeyAt.ext {X : List ND} {i s c : Int} {lab : ByteArray} (h : KeyAt X i s lab c) (m : List ND) : KeyAt (X ++ m) i s lab c := by
  obtain ⟨t, h1, h2⟩ := h; exact ⟨t, h1.ext m, h2.ext m⟩
theorem DvAt.ext {X : List ND} {i s : Int} {lab : ByteArray} (h : DvAt X i s lab) (m : List ND) : DvAt (X ++ m) i s lab := by
  obtain ⟨n, h1, h2⟩ := h; exact ⟨n, h1.ext m, h2.ext m⟩
theorem KeyAt.eq {X : List ND} {i s s' c c' : Int} {lab lab' : ByteArray} (h : KeyAt X i s lab c) (k : KeyAt X i s' lab' c') : s = s' ∧ lab = lab' ∧ c = c' := by
  obtain ⟨t, h1, h2⟩ := h; obtain ⟨t', k1, k2⟩ := k
  have e := h2.eq k2
  unfold ndN at e
  simp only [ND.mk.injEq, List.cons.injEq, true_and, and_true] at e
  obtain ⟨e1, e2, e3⟩ := e
  subst e2
  have e4 := h1.eq k1
  unfold txN at e4
  simp only [ND.mk.injEq, true_and, and_true] at e4
  exact ⟨e1, e4, e3⟩
theorem KeyAt.uniq {X : List ND} (ok : Okay X) {i j s c : Int} {lab : ByteArray} (h : KeyAt X i s lab c) (k : KeyAt X j s lab c) : i = j := by
  obtain ⟨t, h1, h2⟩ := h; obtain ⟨t', k1, k2⟩ := k
  obtain rfl := At.uniq ok h1 k1
  exact At.uniq ok h2 k2
theorem DvAt.eq {X : List ND} {i s s' : Int} {lab lab' : ByteArray} (h : DvAt X i s lab) (k : DvAt X i s' lab') : s = s' ∧ lab = lab' := by
  obtain ⟨n, -, h2⟩ := h; obtain ⟨n', -, k2⟩ := k
  have e := h2.eq k2
  exact ⟨e.1, e.2.1⟩
theorem DvAt.uniq {X : List ND} (ok : Okay X) {i j s : Int} {lab : ByteArray} (h : DvAt X i s lab) (k : DvAt X j s lab) : i = j := by
  obtain ⟨n, h1, h2⟩ := h; obtain ⟨n', k1, k2⟩ := k
  obtain rfl := At.uniq ok h1 k1
  exact KeyAt.uniq ok h2 k2
theorem mk_at' {xs : List ND} {x : ND} (h : (mk xs x).2.2 = 0) : At (mk xs x).1 (mk xs x).2.1 x := (mk_at h).1
theorem exd_at {xs : List ND} {s c : Int} {lab : ByteArray} (h : (exdF xs s lab c).2.2 = 0) : KeyAt (exdF xs s lab c).1 (exdF xs s lab c).2.1 s lab c := by
  unfold exdF at h ⊢
  by_cases hk : kno xs [s, c] = true
  · rw [if_pos hk] at h ⊢
    obtain ⟨h1, h2⟩ := bd_ok h
    rw [h2] at h ⊢
    obtain ⟨m, hm⟩ := (sb_nd 6 [s, (mk xs (txN lab)).2.1, c]).ext (mk xs (txN lab)).1
    refine ⟨(mk xs (txN lab)).2.1, ?_, mk_at' h⟩
    try dsimp only at hm
    rw [hm]
    exact (mk_at' h1).ext m
  · rw [if_neg hk] at h; cases h
theorem dv_at {xs : List ND} {s : Int} {lab : ByteArray} (h : (dvF xs s lab).2.2 = 0) : DvAt (dvF xs s lab).1 (dvF xs s lab).2.1 s lab := by
  unfold dvF at h ⊢
  by_cases hk : kno xs [s] = true
  · rw [if_pos hk] at h ⊢
    obtain ⟨h1, h2⟩ := bd_ok h
    rw [h2] at h ⊢
    obtain ⟨m, hm⟩ := (sb_exd s lab (mk xs (ndN 3 [])).2.1).ext (mk xs (ndN 3 [])).1
    refine ⟨(mk xs (ndN 3 [])).2.1, ?_, exd_at h⟩
    try dsimp only at hm
    rw [hm]
    exact (mk_at' h1).ext m
  · rw [if_neg hk] at h; cases h

/-! several shared secrets in one -/
def pskG : Rs → List Int → Rs
  | r, [] => r
  | r, s :: l => pskG (bdF r fun ys p => exF ys p s) l
def pskF (xs : List ND) (l : List Int) : Rs := pskG (mk xs (txN ⟨#[]⟩)) l
theorem psk_snoc (r : Rs) : ∀ (l : List Int) (s : Int), pskG r (l ++ [s]) = bdF (pskG r l) fun ys p => exF ys p s := by
  intro l
  induction l generalizing r with
  | nil => intro s; rfl
  | cons a l ih => intro s; exact ih _ s
theorem sb_psk (l : List Int) : Sb fun xs => pskF xs l := by
  refine snoc_ind (P := fun l => Sb fun xs => pskF xs l) (sb_tx _) (fun l s ih => ?_) l
  unfold pskF at ih ⊢
  simp only [psk_snoc]
  exact sb_bd (G := fun p ys => exF ys p s) ih fun p => sb_ex p s
/-- What shared secrets in one are. -/
inductive PskAt (X : List ND) : Int → List Int → Prop
  | nil {i : Int} (h : At X i (txN ⟨#[]⟩)) : PskAt X i []
  | snoc {i p s : Int} {l : List Int} (hp : PskAt X p l) (h : At X i (ndN 5 [p, s])) : PskAt X i (l ++ [s])
theorem PskAt.ext {X : List ND} {i : Int} {l : List Int} (h : PskAt X i l) (m : List ND) : PskAt (X ++ m) i l := by
  induction h with
  | nil h => exact .nil (h.ext m)
  | snoc _ h ih => exact .snoc ih (h.ext m)
theorem psk_at (xs : List ND) : ∀ l : List Int, (pskF xs l).2.2 = 0 → PskAt (pskF xs l).1 (pskF xs l).2.1 l := by
  intro l
  refine snoc_ind (P := fun l => (pskF xs l).2.2 = 0 → PskAt (pskF xs l).1 (pskF xs l).2.1 l) (fun h => .nil (mk_at' h)) (fun l s ih h => ?_) l
  unfold pskF at ih h ⊢
  rw [psk_snoc] at h ⊢
  obtain ⟨h1, h2⟩ := bd_ok h
  rw [h2] at h ⊢
  obtain ⟨m, hm⟩ := (sb_ex (pskG (mk xs (txN ⟨#[]⟩)) l).2.1 s).ext (pskG (mk xs (txN ⟨#[]⟩)) l).1
  try dsimp only at hm
  refine .snoc (p := (pskG (mk xs (txN ⟨#[]⟩)) l).2.1) ?_ (mk_at' h)
  have := (ih h1).ext m
  rw [← hm] at this
  exact this
theorem PskAt.eq {X : List ND} {i : Int} {l l' : List Int} (h : PskAt X i l) (k : PskAt X i l') : l = l' := by
  induction h generalizing l' with
  | nil h =>
    cases k with
    | nil _ => rfl
    | snoc hp h' => have := h.eq h'; unfold txN ndN at this; simp at this
  | snoc hp h ih =>
    cases k with
    | nil h' => have := h.eq h'; unfold txN ndN at this; simp at this
    | snoc hp' h' =>
      have e := h.eq h'
      unfold ndN at e
      simp only [ND.mk.injEq, List.cons.injEq, true_and, and_true] at e
      obtain ⟨rfl, rfl⟩ := e
      rw [ih hp']
theorem PskAt.uniq {X : List ND} (ok : Okay X) {i j : Int} {l : List Int} (h : PskAt X i l) (k : PskAt X j l) : i = j := by
  induction h generalizing j with
  | nil h =>
    generalize hl : ([] : List Int) = l' at k
    cases k with
    | nil h' => exact At.uniq ok h h'
    | snoc hp h' => simp at hl
  | @snoc i p s l hp h ih =>
    generalize hl : l ++ [s] = l' at k
    cases k with
    | nil h' => simp at hl
    | @snoc _ p' s' m hp' h' =>
      have e := List.append_inj' hl rfl
      obtain ⟨rfl, e2⟩ := e
      simp at e2
      subst e2
      obtain rfl := ih hp'
      exact At.uniq ok h h'
end Go.KK

/- plain: layer 12: hashes, tags, contexts, chains in words of makes. -/
namespace Go.KK
open Go.RowKit
set_option linter.unusedVariables false
set_option linter.unusedSimpArgs false

def hsF (xs : List ND) (l : List Int) : Rs := bdF (mk xs (ndN 3 l)) fun ys x => mk ys (ndN 4 [x])
def tgF (xs : List ND) (k m : Int) : Rs := mk xs (ndN 11 [k, m])
theorem sb_hs (l : List Int) : Sb fun xs => hsF xs l := sb_bd (G := fun x ys => mk ys (ndN 4 [x])) (sb_nd 3 l) fun x => sb_nd 4 [x]
theorem sb_tg (k m : Int) : Sb fun xs => tgF xs k m := sb_nd 11 [k, m]
/-- A hash of a list. -/
def HsAt (X : List ND) (i : Int) (l : List Int) : Prop := ∃ x, At X x (ndN 3 l) ∧ At X i (ndN 4 [x])
theorem HsAt.ext {X : List ND} {i : Int} {l : List Int} (h : HsAt X i l) (m : List ND) : HsAt (X ++ m) i l := by
  obtain ⟨x, h1, h2⟩ := h; exact ⟨x, h1.ext m, h2.ext m⟩
theorem hs_at {xs : List ND} {l : List Int} (h : (hsF xs l).2.2 = 0) : HsAt (hsF xs l).1 (hsF xs l).2.1 l := by
  unfold hsF at h ⊢
  obtain ⟨h1, h2⟩ := bd_ok h
  rw [h2] at h ⊢
  obtain ⟨m, hm⟩ := (sb_nd 4 [(mk xs (ndN 3 l)).2.1]).ext (mk xs (ndN 3 l)).1
  try dsimp only at hm
  refine ⟨(mk xs (ndN 3 l)).2.1, ?_, mk_at' h⟩
  rw [hm]
  exact (mk_at' h1).ext m
theorem nd_inj {o : Int} {l l' : List Int} (h : ndN o l = ndN o l') : l = l' := by
  unfold ndN at h
  simp only [ND.mk.injEq, true_and] at h
  exact h
theorem HsAt.eq {X : List ND} {i : Int} {l l' : List Int} (h : HsAt X i l) (k : HsAt X i l') : l = l' := by
  obtain ⟨x, h1, h2⟩ := h; obtain ⟨x', k1, k2⟩ := k
  have e := nd_inj (h2.eq k2)
  simp only [List.cons.injEq, and_true] at e
  subst e
  exact nd_inj (h1.eq k1)
theorem HsAt.uniq {X : List ND} (ok : Okay X) {i j : Int} {l : List Int} (h : HsAt X i l) (k : HsAt X j l) : i = j := by
  obtain ⟨x, h1, h2⟩ := h; obtain ⟨x', k1, k2⟩ := k
  obtain rfl := At.uniq ok h1 k1
  exact At.uniq ok h2 k2
theorem HsAt.iff {X : List ND} (ok : Okay X) {i j : Int} {l m : List Int} (h : HsAt X i l) (k : HsAt X j m) : i = j ↔ l = m :=
  ⟨fun e => by subst e; exact h.eq k, fun e => by subst e; exact h.uniq ok k⟩
theorem At.iff {X : List ND} (ok : Okay X) {i j : Int} {x y : ND} (h : At X i x) (k : At X j y) : i = j ↔ x = y :=
  ⟨fun e => by subst e; exact h.eq k, fun e => by subst e; exact h.uniq ok k⟩
/-- A term's parts have lesser numbers. -/
theorem At.lt {X : List ND} (ok : Okay X) {i : Int} {o : Int} {l : List Int} (h : At X i (ndN o l)) : ∀ p ∈ l, 0 ≤ p ∧ p < i := fun p hp => by
  have hm := ok.may _ _ h.2
  unfold mayB at hm
  simp only [Bool.and_eq_true, List.all_eq_true] at hm
  have hx := has_iff.1 (hm.1.2 p hp)
  rw [List.length_take] at hx
  have := h.1
  omega
theorem HsAt.lt {X : List ND} (ok : Okay X) {i : Int} {l : List Int} (h : HsAt X i l) : ∀ p ∈ l, 0 ≤ p ∧ p < i := fun p hp => by
  obtain ⟨x, h1, h2⟩ := h
  have a := h1.lt ok p hp
  have b := h2.lt ok x (by simp)
  omega
/-! a chain of messages -/
/-- One message of a chain: its confirmed hash and what the next one begins with. -/
def chS (xs : List ND) (start : Int) (m : Int × Int × Int) : List ND × (Int × Int) × Int :=
  if (hsF xs [start, m.1, m.2.1]).2.2 = 0 then
    if (tgF (hsF xs [start, m.1, m.2.1]).1 m.2.2 (hsF xs [start, m.1, m.2.1]).2.1).2.2 = 0 then
      ((hsF (tgF (hsF xs [start, m.1, m.2.1]).1 m.2.2 (hsF xs [start, m.1, m.2.1]).2.1).1 [(hsF xs [start, m.1, m.2.1]).2.1, (tgF (hsF xs [start, m.1, m.2.1]).1 m.2.2 (hsF xs [start, m.1, m.2.1]).2.1).2.1]).1,
        ((hsF xs [start, m.1, m.2.1]).2.1, (hsF (tgF (hsF xs [start, m.1, m.2.1]).1 m.2.2 (hsF xs [start, m.1, m.2.1]).2.1).1 [(hsF xs [start, m.1, m.2.1]).2.1, (tgF (hsF xs [start, m.1, m.2.1]).1 m.2.2 (hsF xs [start, m.1, m.2.1]).2.1).2.1]).2.1),
        (hsF (tgF (hsF xs [start, m.1, m.2.1]).1 m.2.2 (hsF xs [start, m.1, m.2.1]).2.1).1 [(hsF xs [start, m.1, m.2.1]).2.1, (tgF (hsF xs [start, m.1, m.2.1]).1 m.2.2 (hsF xs [start, m.1, m.2.1]).2.1).2.1]).2.2)
    else ((tgF (hsF xs [start, m.1, m.2.1]).1 m.2.2 (hsF xs [start, m.1, m.2.1]).2.1).1, (0, 0), (tgF (hsF xs [start, m.1, m.2.1]).1 m.2.2 (hsF xs [start, m.1, m.2.1]).2.1).2.2)
  else ((hsF xs [start, m.1, m.2.1]).1, (0, 0), (hsF xs [start, m.1, m.2.1]).2.2)
/-- What a message makes, step by step, where all went well. -/
theorem ch_ok {xs : List ND} {start : Int} {m : Int × Int × Int} (h : (chS xs start m).2.2 = 0) : ∃ c ys t zs, hsF xs [start, m.1, m.2.1] = (ys, c, 0) ∧ tgF ys m.2.2 c = (zs, t, 0) ∧ hsF zs [c, t] = ((chS xs start m).1, (chS xs start m).2.1.2, 0) ∧ (chS xs start m).2.1.1 = c := by
  unfold chS at h ⊢
  generalize hr : hsF xs [start, m.1, m.2.1] = r at *
  obtain ⟨ys, c, e⟩ := r
  dsimp only at h ⊢
  by_cases h1 : e = 0
  · rw [if_pos h1] at h ⊢
    subst h1
    generalize ht : tgF ys m.2.2 c = q at *
    obtain ⟨zs, t, f⟩ := q
    dsimp only at h ⊢
    by_cases h2 : f = 0
    · rw [if_pos h2] at h ⊢
      subst h2
      dsimp only at h ⊢
      refine ⟨c, ys, t, zs, rfl, ht, ?_, rfl⟩
      generalize hsF zs [c, t] = v at *
      obtain ⟨a, b, d⟩ := v
      dsimp only at h ⊢
      rw [h]
    · rw [if_neg h2] at h; exact absurd h h2
  · rw [if_neg h1] at h; exact absurd h h1
theorem ch_mk {xs ys zs vs : List ND} {start c t i : Int} {m : Int × Int × Int} (h1 : hsF xs [start, m.1, m.2.1] = (ys, c, 0)) (h2 : tgF ys m.2.2 c = (zs, t, 0)) (h3 : hsF zs [c, t] = (vs, i, 0)) : chS xs start m = (vs, (c, i), 0) := by
  unfold chS
  rw [h1]
  dsimp only
  rw [if_pos rfl, h2]
  dsimp only
  rw [if_pos rfl, h3]
theorem ch_ext (xs : List ND) (start : Int) (m : Int × Int × Int) : ∃ v, (chS xs start m).1 = xs ++ v := by
  obtain ⟨m1, h1⟩ := (sb_hs [start, m.1, m.2.1]).ext xs
  obtain ⟨m2, h2⟩ := (sb_tg m.2.2 (hsF xs [start, m.1, m.2.1]).2.1).ext (hsF xs [start, m.1, m.2.1]).1
  obtain ⟨m3, h3⟩ := (sb_hs [(hsF xs [start, m.1, m.2.1]).2.1, (tgF (hsF xs [start, m.1, m.2.1]).1 m.2.2 (hsF xs [start, m.1, m.2.1]).2.1).2.1]).ext (tgF (hsF xs [start, m.1, m.2.1]).1 m.2.2 (hsF xs [start, m.1, m.2.1]).2.1).1
  unfold chS
  try dsimp only at h1 h2 h3
  split
  · split
    · exact ⟨m1 ++ (m2 ++ m3), by dsimp only; rw [h3, h2, h1]; simp⟩
    · exact ⟨m1 ++ m2, by dsimp only; rw [h2, h1]; simp⟩
  · exact ⟨m1, h1⟩
theorem ch_okay {xs : List ND} (ok : Okay xs) (start : Int) (m : Int × Int × Int) : Okay (chS xs start m).1 := by
  have o1 := (sb_hs [start, m.1, m.2.1]).ok xs ok
  have o2 := (sb_tg m.2.2 (hsF xs [start, m.1, m.2.1]).2.1).ok _ o1
  have o3 := (sb_hs [(hsF xs [start, m.1, m.2.1]).2.1, (tgF (hsF xs [start, m.1, m.2.1]).1 m.2.2 (hsF xs [start, m.1, m.2.1]).2.1).2.1]).ok _ o2
  unfold chS
  split
  · split
    · exact o3
    · exact o2
  · exact o1
theorem ch_fix {xs : List ND} {start : Int} {m : Int × Int × Int} {v : List ND} (ok : Okay ((chS xs start m).1 ++ v)) (h : (chS xs start m).2.2 = 0) : chS ((chS xs start m).1 ++ v) start m = ((chS xs start m).1 ++ v, (chS xs start m).2.1, 0) := by
  obtain ⟨c, ys, t, zs, h1, h2, h3, h4⟩ := ch_ok h
  obtain ⟨m2, e2⟩ := (sb_tg m.2.2 c).ext ys
  obtain ⟨m3, e3⟩ := (sb_hs [c, t]).ext zs
  try dsimp only at e2 e3
  rw [h2] at e2; rw [h3] at e3
  try dsimp only at e2 e3
  have f1 := (sb_hs [start, m.1, m.2.1]).fix xs (m2 ++ (m3 ++ v))
  have f2 := (sb_tg m.2.2 c).fix ys (m3 ++ v)
  have f3 := (sb_hs [c, t]).fix zs v
  try dsimp only at f1 f2 f3
  rw [h1] at f1; rw [h2] at f2; rw [h3] at f3
  try dsimp only at f1 f2 f3
  have eA : (chS xs start m).1 ++ v = ys ++ (m2 ++ (m3 ++ v)) := by rw [e3, e2]; simp
  have eB : (chS xs start m).1 ++ v = zs ++ (m3 ++ v) := by rw [e3]; simp
  rw [← eA] at f1
  rw [← eB] at f2
  have r := ch_mk (f1 ok rfl) (f2 ok rfl) (f3 ok rfl)
  rw [r]
  rw [← h4]
/-- Where a chain stands: the arena, what the next one begins with, the hashes, the error. -/
abbrev Cs := List ND × Int × List Int × Int
def chT (st : Cs) (m : Int × Int × Int) : Cs :=
  if st.2.2.2 = 0 then
    (if (chS st.1 st.2.1 m).2.2 = 0 then ((chS st.1 st.2.1 m).1, (chS st.1 st.2.1 m).2.1.2, st.2.2.1 ++ [(chS st.1 st.2.1 m).2.1.1], 0)
      else ((chS st.1 st.2.1 m).1, 0, [], (chS st.1 st.2.1 m).2.2))
  else st
def chF (xs : List ND) (start : Int) (l : List (Int × Int × Int)) : Cs := l.foldl chT (xs, start, [], 0)
theorem ch_snoc (xs : List ND) (start : Int) (l : List (Int × Int × Int)) (m : Int × Int × Int) : chF xs start (l ++ [m]) = chT (chF xs start l) m := by unfold chF; rw [List.foldl_append]; rfl
theorem chT_ok {st : Cs} {m : Int × Int × Int} (h : (chT st m).2.2.2 = 0) : st.2.2.2 = 0 ∧ (chS st.1 st.2.1 m).2.2 = 0 ∧ chT st m = ((chS st.1 st.2.1 m).1, (chS st.1 st.2.1 m).2.1.2, st.2.2.1 ++ [(chS st.1 st.2.1 m).2.1.1], 0) := by
  unfold chT at h ⊢
  by_cases h1 : st.2.2.2 = 0
  · rw [if_pos h1] at h ⊢
    by_cases h2 : (chS st.1 st.2.1 m).2.2 = 0
    · rw [if_pos h2]; exact ⟨h1, h2, rfl⟩
    · rw [if_neg h2] at h; exact absurd h h2
  · rw [if_neg h1] at h; exact absurd h h1
theorem ch_grow (xs : List ND) (start : Int) : ∀ l : List (Int × Int × Int), ∃ v, (chF xs start l).1 = xs ++ v := by
  intro l
  refine snoc_ind (P := fun l => ∃ v, (chF xs start l).1 = xs ++ v) ⟨[], by simp [chF]⟩ (fun l m ih => ?_) l
  rw [ch_snoc]
  obtain ⟨v, hv⟩ := ih
  obtain ⟨u, hu⟩ := ch_ext (chF xs start l).1 (chF xs start l).2.1 m
  unfold chT
  split
  · split
    · exact ⟨v ++ u, by dsimp only; rw [hu, hv]; simp⟩
    · exact ⟨v ++ u, by dsimp only; rw [hu, hv]; simp⟩
  · exact ⟨v, hv⟩
theorem chF_okay {xs : List ND} (ok : Okay xs) (start : Int) : ∀ l : List (Int × Int × Int), Okay (chF xs start l).1 := by
  intro l
  refine snoc_ind (P := fun l => Okay (chF xs start l).1) ok (fun l m ih => ?_) l
  rw [ch_snoc]
  have := ch_okay ih (chF xs start l).2.1 m
  unfold chT
  split
  · split <;> exact this
  · exact ih
/-- A chain on an arena that went on is the same. -/
theorem chF_fix (xs : List ND) (start : Int) : ∀ (l : List (Int × Int × Int)) (v : List ND), Okay ((chF xs start l).1 ++ v) → (chF xs start l).2.2.2 = 0 → chF ((chF xs start l).1 ++ v) start l = ((chF xs start l).1 ++ v, (chF xs start l).2.1, (chF xs start l).2.2.1, 0) := by
  intro l
  refine snoc_ind (P := fun l => ∀ (v : List ND), Okay ((chF xs start l).1 ++ v) → (chF xs start l).2.2.2 = 0 → chF ((chF xs start l).1 ++ v) start l = ((chF xs start l).1 ++ v, (chF xs start l).2.1, (chF xs start l).2.2.1, 0)) (fun v ok h => rfl) (fun l m ih v ok h => ?_) l
  rw [ch_snoc xs start l m] at ok h ⊢
  obtain ⟨h1, h2, h3⟩ := chT_ok h
  rw [h3] at ok ⊢
  dsimp only at ok ⊢
  obtain ⟨u, hu⟩ := ch_ext (chF xs start l).1 (chF xs start l).2.1 m
  have e : (chS (chF xs start l).1 (chF xs start l).2.1 m).1 ++ v = (chF xs start l).1 ++ (u ++ v) := by rw [hu]; simp
  have i1 := ih (u ++ v) (by rw [← e]; exact ok) h1
  rw [← e] at i1
  have i2 := ch_fix ok h2
  rw [ch_snoc, i1]
  unfold chT
  dsimp only
  rw [if_pos rfl, i2]
  dsimp only
  rw [if_pos rfl]
theorem chF_len (xs : List ND) (start : Int) : ∀ l : List (Int × Int × Int), (chF xs start l).2.2.2 = 0 → (chF xs start l).2.2.1.length = l.length := by
  intro l
  refine snoc_ind (P := fun l => (chF xs start l).2.2.2 = 0 → (chF xs start l).2.2.1.length = l.length) (fun _ => rfl) (fun l m ih h => ?_) l
  rw [ch_snoc] at h ⊢
  obtain ⟨h1, h2, h3⟩ := chT_ok h
  rw [h3]
  simp [ih h1]
/-- What a chain's hashes are made of. -/
inductive ChAt (X : List ND) (start : Int) : List (Int × Int × Int) → List Int → Int → Prop
  | nil : ChAt X start [] [] start
  | snoc {l : List (Int × Int × Int)} {out : List Int} {s c t n : Int} {m : Int × Int × Int} (h : ChAt X start l out s) (hc : HsAt X c [s, m.1, m.2.1]) (ht : At X t (ndN 11 [m.2.2, c])) (hn : HsAt X n [c, t]) : ChAt X start (l ++ [m]) (out ++ [c]) n
theorem ChAt.ext {X : List ND} {start : Int} {l : List (Int × Int × Int)} {out : List Int} {n : Int} (h : ChAt X start l out n) (v : List ND) : ChAt (X ++ v) start l out n := by
  induction h with
  | nil => exact .nil
  | snoc _ hc ht hn ih => exact .snoc ih (hc.ext v) (ht.ext v) (hn.ext v)
theorem chF_at (xs : List ND) (start : Int) : ∀ l : List (Int × Int × Int), (chF xs start l).2.2.2 = 0 → ChAt (chF xs start l).1 start l (chF xs start l).2.2.1 (chF xs start l).2.1 := by
  intro l
  refine snoc_ind (P := fun l => (chF xs start l).2.2.2 = 0 → ChAt (chF xs start l).1 start l (chF xs start l).2.2.1 (chF xs start l).2.1) (fun _ => .nil) (fun l m ih h => ?_) l
  rw [ch_snoc] at h ⊢
  obtain ⟨h1, h2, h3⟩ := chT_ok h
  rw [h3]
  dsimp only
  obtain ⟨u, hu⟩ := ch_ext (chF xs start l).1 (chF xs start l).2.1 m
  obtain ⟨c, ys, t, zs, g1, g2, g3, g4⟩ := ch_ok h2
  have a0 := (ih h1).ext u
  rw [← hu] at a0
  obtain ⟨m2, e2⟩ := (sb_tg m.2.2 c).ext ys
  obtain ⟨m3, e3⟩ := (sb_hs [c, t]).ext zs
  try dsimp only at e2 e3
  rw [g2] at e2; rw [g3] at e3
  try dsimp only at e2 e3
  have b1 := hs_at (xs := (chF xs start l).1) (l := [(chF xs start l).2.1, m.1, m.2.1]) (by rw [g1])
  rw [g1] at b1
  have b2 := mk_at' (xs := ys) (x := ndN 11 [m.2.2, c]) (by show (tgF ys m.2.2 c).2.2 = 0; rw [g2])
  rw [show mk ys (ndN 11 [m.2.2, c]) = (zs, t, 0) from g2] at b2
  have b3 := hs_at (xs := zs) (l := [c, t]) (by rw [g3])
  rw [g3] at b3
  rw [g4]
  refine .snoc a0 ?_ ?_ b3
  · rw [e3, e2]; exact (b1.ext m2).ext m3
  · rw [e3]; exact b2.ext m3
end Go.KK

/- plain: layer 12: contexts. -/
namespace Go.KK
open Go.RowKit
set_option linter.unusedVariables false
set_option linter.unusedSimpArgs false

def lbGroup : ByteArray := ⟨#[103, 114, 111, 117, 112]⟩
/-- A number's digits as a text. -/
def digB (n : Int) : ByteArray := ⟨(Lib.itoa n).toArray⟩
theorem digB_inj {n m : Int} (h : digB n = digB m) : n = m := by
  have := congrArg (fun s : ByteArray => s.data.toList) h
  exact itoa_inj (by simpa [digB] using this)
def ctF (xs : List ND) (id ep tr cf ex : Int) : Rs :=
  if 0 ≤ ep then bdF (mk xs (txN lbGroup)) fun ys g => bdF (mk ys (txN (digB ep))) fun zs d => mk zs (ndN 3 [g, id, d, tr, cf, ex]) else (xs, 0, 1)
theorem sb_ct0 (id ep tr cf ex : Int) : Sb fun xs => bdF (mk xs (txN lbGroup)) fun ys g => bdF (mk ys (txN (digB ep))) fun zs d => mk zs (ndN 3 [g, id, d, tr, cf, ex]) :=
  sb_bd (G := fun g ys => bdF (mk ys (txN (digB ep))) fun zs d => mk zs (ndN 3 [g, id, d, tr, cf, ex])) (sb_tx _) fun g => sb_bd (G := fun d zs => mk zs (ndN 3 [g, id, d, tr, cf, ex])) (sb_tx _) fun d => sb_nd 3 [g, id, d, tr, cf, ex]
theorem ct_pos {xs : List ND} {id ep tr cf ex : Int} (h : 0 ≤ ep) : ctF xs id ep tr cf ex = bdF (mk xs (txN lbGroup)) fun ys g => bdF (mk ys (txN (digB ep))) fun zs d => mk zs (ndN 3 [g, id, d, tr, cf, ex]) := by
  unfold ctF; rw [if_pos h]
theorem ct_neg {xs : List ND} {id ep tr cf ex : Int} (h : (ctF xs id ep tr cf ex).2.2 = 0) : 0 ≤ ep := by
  unfold ctF at h
  by_cases hp : 0 ≤ ep
  · exact hp
  · rw [if_neg hp] at h; cases h
/-- What a context is made of. -/
def CtAt (X : List ND) (i id ep tr cf ex : Int) : Prop := ∃ g d, At X g (txN lbGroup) ∧ At X d (txN (digB ep)) ∧ At X i (ndN 3 [g, id, d, tr, cf, ex])
theorem CtAt.ext {X : List ND} {i id ep tr cf ex : Int} (h : CtAt X i id ep tr cf ex) (m : List ND) : CtAt (X ++ m) i id ep tr cf ex := by
  obtain ⟨g, d, h1, h2, h3⟩ := h; exact ⟨g, d, h1.ext m, h2.ext m, h3.ext m⟩
theorem ct_at {xs : List ND} {id ep tr cf ex : Int} (h : (ctF xs id ep tr cf ex).2.2 = 0) : CtAt (ctF xs id ep tr cf ex).1 (ctF xs id ep tr cf ex).2.1 id ep tr cf ex := by
  have hp := ct_neg h
  rw [ct_pos hp] at h ⊢
  obtain ⟨h1, h2⟩ := bd_ok h
  rw [h2] at h ⊢
  obtain ⟨h3, h4⟩ := bd_ok h
  rw [h4] at h ⊢
  obtain ⟨m1, e1⟩ := mak_pre (mk xs (txN lbGroup)).1 (txN (digB ep))
  obtain ⟨m2, e2⟩ := mak_pre (mk (mk xs (txN lbGroup)).1 (txN (digB ep))).1 (ndN 3 [(mk xs (txN lbGroup)).2.1, id, (mk (mk xs (txN lbGroup)).1 (txN (digB ep))).2.1, tr, cf, ex])
  refine ⟨(mk xs (txN lbGroup)).2.1, (mk (mk xs (txN lbGroup)).1 (txN (digB ep))).2.1, ?_, ?_, mk_at' h⟩
  · show At (makT _ _) _ _
    rw [e2, show (mk (mk xs (txN lbGroup)).1 (txN (digB ep))).1 = (mk xs (txN lbGroup)).1 ++ m1 from e1]
    exact ((mk_at' h1).ext m1).ext m2
  · show At (makT _ _) _ _
    rw [e2]
    exact (mk_at' h3).ext m2
theorem txN_inj {s t : ByteArray} (h : txN s = txN t) : s = t := by
  unfold txN at h
  simp only [ND.mk.injEq, true_and, and_true] at h
  exact h
theorem CtAt.eq {X : List ND} {i id ep tr cf ex id' ep' tr' cf' ex' : Int} (h : CtAt X i id ep tr cf ex) (k : CtAt X i id' ep' tr' cf' ex') : id = id' ∧ ep = ep' ∧ tr = tr' ∧ cf = cf' ∧ ex = ex' := by
  obtain ⟨g, d, h1, h2, h3⟩ := h; obtain ⟨g', d', k1, k2, k3⟩ := k
  have e := nd_inj (h3.eq k3)
  simp only [List.cons.injEq, and_true] at e
  obtain ⟨-, e1, e2, e3, e4, e5⟩ := e
  subst e2
  exact ⟨e1, digB_inj (txN_inj (h2.eq k2)), e3, e4, e5⟩
theorem CtAt.uniq {X : List ND} (ok : Okay X) {i j id ep tr cf ex : Int} (h : CtAt X i id ep tr cf ex) (k : CtAt X j id ep tr cf ex) : i = j := by
  obtain ⟨g, d, h1, h2, h3⟩ := h; obtain ⟨g', d', k1, k2, k3⟩ := k
  obtain rfl := At.uniq ok h1 k1
  obtain rfl := At.uniq ok h2 k2
  exact At.uniq ok h3 k3
end Go.KK

/- plain: layer 12: a text as a number; contexts read. -/
namespace Go.KK
open Go.RowKit
set_option linter.unusedVariables false
set_option linter.unusedSimpArgs false

theorem decFrom_app : ∀ (l m : List UInt8) (acc : Nat), Lib.decFrom acc (l ++ m) = (Lib.decFrom acc l).bind fun k => Lib.decFrom k m
  | [], m, acc => rfl
  | b :: l, m, acc => by
    show (match Lib.digitVal b with | some d => Lib.decFrom (acc * 10 + d) (l ++ m) | none => none) = _
    rcases h : Lib.digitVal b with _ | d
    · simp [Lib.decFrom, h]
    · simp only [Lib.decFrom, h]
      exact decFrom_app l m _
theorem digitVal_of {n : Nat} (h : n < 10) : Lib.digitVal (UInt8.ofNat (48 + n)) = some n := by
  have : ∀ i : Fin 10, Lib.digitVal (UInt8.ofNat (48 + i.val)) = some i.val := by decide
  exact this ⟨n, h⟩
theorem decFrom_digits (u : Nat) : Lib.decFrom 0 (Lib.decDigits u) = some u := by
  induction u using Nat.strongRecOn with
  | ind u ih =>
    rw [Lib.decDigits]
    split
    · rename_i h
      show (match Lib.digitVal (UInt8.ofNat (48 + u)) with | some d => some (0 * 10 + d) | none => none) = some u
      rw [digitVal_of h]
      simp
    · rename_i h
      rw [decFrom_app, ih (u / 10) (by omega)]
      simp only [Option.bind_some, Lib.decFrom, digitVal_of (Nat.mod_lt u (by omega))]
      congr 1
      omega
theorem decDigits_head (u : Nat) : ∃ b r, Lib.decDigits u = b :: r ∧ b ≠ 45 ∧ b ≠ 43 := by
  rcases h : Lib.decDigits u with _ | ⟨b, r⟩
  · exact absurd h (decDigits_ne u).1
  · refine ⟨b, r, rfl, ?_, ?_⟩
    · rintro rfl
      exact (decDigits_ne u).2 r h
    · rintro rfl
      have := Lib.digit_of_decFrom _ 0 u (decFrom_digits u) 0 43 (by rw [h]; rfl)
      obtain ⟨d, hd⟩ := this
      have := Lib.digitVal_eq hd
      simp at this
theorem atoi_digits (u : Nat) : Lib.atoi (Lib.decDigits u) = some (u : Int) := by
  obtain ⟨b, r, h, h1, h2⟩ := decDigits_head u
  have hd := decFrom_digits u
  rw [h] at hd ⊢
  unfold Lib.atoi
  dsimp only
  rw [if_neg (by simpa using h1), if_neg (by simpa using h2)]
  unfold Lib.decNat
  rw [if_neg (by simp), hd]
  rfl
/-- A text as a number: one that is written as Go writes it, of at most nine digits. -/
def numO (s : ByteArray) : Option Int :=
  match Lib.atoiAll s.data.toList with
  | .ok v => if s.size ≤ 9 ∧ 0 ≤ v ∧ digB v = s then some v else none
  | _ => none
theorem digB_size (v : Int) : (digB v).size = (Lib.itoa v).length := by unfold digB; simp [ByteArray.size]
theorem itoa_pos {v : Int} (h : 0 ≤ v) : Lib.itoa v = Lib.decDigits v.toNat := by unfold Lib.itoa; rw [if_neg (by omega)]
theorem dig_nine {v : Int} (h : 0 ≤ v) : (digB v).size ≤ 9 ↔ v < 1000000000 := by
  rw [digB_size, itoa_pos h, Lib.decDigits_length]
  constructor
  · intro h9
    have := Lib.lt_pow_nDigits v.toNat
    have h2 : 10 ^ Lib.nDigits v.toNat ≤ 10 ^ 9 := Nat.pow_le_pow_right (by omega) h9
    omega
  · intro hv
    by_cases hl : Lib.nDigits v.toNat ≤ 9
    · exact hl
    · exfalso
      have h1 := Lib.nDigits_pos v.toNat
      obtain ⟨k, hk⟩ : ∃ k, Lib.nDigits v.toNat = k + 1 := ⟨_, (Nat.sub_add_cancel h1).symm⟩
      have h9 : 9 ≤ k := by omega
      have h3 := pow_le_of_nDigits hk h9
      omega
where
  pow_le_of_nDigits {u k : Nat} (hk : Lib.nDigits u = k + 1) (h9 : 9 ≤ k) : 1000000000 ≤ u := by
    by_cases hu : 1000000000 ≤ u
    · exact hu
    · exfalso
      have : ∀ j, j ≤ 9 → ∀ u, u < 10 ^ j → Lib.nDigits u ≤ max j 1 := by
        intro j
        induction j with
        | zero => intro _ u hu; rw [Lib.nDigits_small (by simp at hu; omega)]; simp
        | succ j ih =>
          intro hj u hu
          by_cases h10 : u < 10
          · rw [Lib.nDigits_small h10]; omega
          · rw [Lib.nDigits_big h10]
            have := ih (by omega) (u / 10) (by rw [Nat.pow_succ] at hu; omega)
            have : 1 ≤ j := by
              rcases j with _ | j
              · simp at hu; omega
              · omega
            omega
      have := this 9 (Nat.le_refl _) u (by simpa using hu)
      omega
theorem numO_iff {s : ByteArray} {v : Int} : numO s = some v ↔ 0 ≤ v ∧ v < 1000000000 ∧ s = digB v := by
  unfold numO
  constructor
  · intro h
    split at h
    · split at h
      · rename_i h2
        injection h with h
        subst h
        obtain ⟨a, b, c⟩ := h2
        exact ⟨b, (dig_nine b).1 (by rw [c]; exact a), c.symm⟩
      · cases h
    · cases h
  · rintro ⟨h0, h1, rfl⟩
    have h9 := (dig_nine h0).2 h1
    have hl : (digB v).data.toList = Lib.decDigits v.toNat := by unfold digB; rw [itoa_pos h0]
    have hL : (Lib.decDigits v.toNat).length ≤ 18 := by rw [← itoa_pos h0, ← digB_size]; omega
    rw [hl, Lib.atoiAll_short _ hL, atoi_digits]
    show (if _ then some ((v.toNat : Nat) : Int) else none) = _
    have e : ((v.toNat : Nat) : Int) = v := by omega
    rw [e, if_pos ⟨h9, h0, rfl⟩]
/-- A context's parts; none: it is none. -/
def rdO (X : List ND) (t : Int) : Option (List Int) :=
  if hasB X t = true ∧ (nodeF X t).o = 3 ∧ (nodeF X t).l.length = 6 then
    (if (nodeF X ((nodeF X t).l.getD 0 0)).o = 2 ∧ (nodeF X ((nodeF X t).l.getD 0 0)).s = lbGroup ∧ (nodeF X ((nodeF X t).l.getD 2 0)).o = 2 then
      (numO (nodeF X ((nodeF X t).l.getD 2 0)).s).map fun k => [(nodeF X t).l.getD 1 0, k, (nodeF X t).l.getD 3 0, (nodeF X t).l.getD 4 0, (nodeF X t).l.getD 5 0]
    else none)
  else none
theorem nodeF_at {X : List ND} {i : Int} {x : ND} (h : At X i x) : nodeF X i = x := by
  unfold nodeF
  rw [if_pos h.has]
  rw [List.getD, h.2]; rfl
theorem rd_ct {X : List ND} {i id ep tr cf ex : Int} (h : CtAt X i id ep tr cf ex) (h0 : 0 ≤ ep) (h9 : ep < 1000000000) : rdO X i = some [id, ep, tr, cf, ex] := by
  obtain ⟨g, d, h1, h2, h3⟩ := h
  unfold rdO
  rw [nodeF_at h3]
  rw [if_pos ⟨h3.has, rfl, rfl⟩]
  show (if (nodeF X g).o = 2 ∧ (nodeF X g).s = lbGroup ∧ (nodeF X d).o = 2 then (numO (nodeF X d).s).map fun k => [id, k, tr, cf, ex] else none) = _
  rw [nodeF_at h1, nodeF_at h2]
  rw [if_pos ⟨rfl, rfl, rfl⟩]
  show (numO (digB ep)).map _ = _
  rw [numO_iff.2 ⟨h0, h9, rfl⟩]
  rfl
end Go.KK

/- plain: layer 11: joiner, an epoch's secrets, what is derived for others. -/
namespace Go.KK
open Go.RowKit
set_option linter.unusedVariables false
set_option linter.unusedSimpArgs false

/-- Steps one behind the other; each knows what came of those ahead. The first error stays. -/
def runF : List ND → List Int → List (List Int → List ND → Rs) → List ND × List Int × Int
  | xs, acc, [] => (xs, acc, 0)
  | xs, acc, f :: fs => if (f acc xs).2.2 = 0 then runF (f acc xs).1 (acc ++ [(f acc xs).2.1]) fs else ((f acc xs).1, acc, (f acc xs).2.2)
theorem run_cons_ok {xs : List ND} {acc : List Int} {f : List Int → List ND → Rs} {fs : List (List Int → List ND → Rs)} (h : (f acc xs).2.2 = 0) : runF xs acc (f :: fs) = runF (f acc xs).1 (acc ++ [(f acc xs).2.1]) fs := by
  show (if _ then _ else _) = _
  rw [if_pos h]
theorem run_cons_no {xs : List ND} {acc : List Int} {f : List Int → List ND → Rs} {fs : List (List Int → List ND → Rs)} (h : (f acc xs).2.2 ≠ 0) : runF xs acc (f :: fs) = ((f acc xs).1, acc, (f acc xs).2.2) := by
  show (if _ then _ else _) = _
  rw [if_neg h]
theorem run_ext : ∀ (fs : List (List Int → List ND → Rs)) (xs : List ND) (acc : List Int), (∀ f ∈ fs, ∀ a, Sb (f a)) → ∃ m, (runF xs acc fs).1 = xs ++ m
  | [], xs, acc, _ => ⟨[], by simp [runF]⟩
  | f :: fs, xs, acc, h => by
    obtain ⟨m, hm⟩ := (h f (by simp) acc).ext xs
    by_cases he : (f acc xs).2.2 = 0
    · rw [run_cons_ok he]
      obtain ⟨m', hm'⟩ := run_ext fs (f acc xs).1 (acc ++ [(f acc xs).2.1]) fun g hg => h g (List.mem_cons_of_mem _ hg)
      exact ⟨m ++ m', by rw [hm', hm, List.append_assoc]⟩
    · rw [run_cons_no he]; exact ⟨m, hm⟩
theorem run_ok : ∀ (fs : List (List Int → List ND → Rs)) (xs : List ND) (acc : List Int), (∀ f ∈ fs, ∀ a, Sb (f a)) → Okay xs → Okay (runF xs acc fs).1
  | [], xs, acc, _, ok => ok
  | f :: fs, xs, acc, h, ok => by
    have ok2 := (h f (by simp) acc).ok xs ok
    by_cases he : (f acc xs).2.2 = 0
    · rw [run_cons_ok he]
      exact run_ok fs _ _ (fun g hg => h g (List.mem_cons_of_mem _ hg)) ok2
    · rw [run_cons_no he]; exact ok2
theorem run_fix : ∀ (fs : List (List Int → List ND → Rs)) (xs : List ND) (acc : List Int) (m : List ND), (∀ f ∈ fs, ∀ a, Sb (f a)) → Okay ((runF xs acc fs).1 ++ m) → (runF xs acc fs).2.2 = 0 →
    runF ((runF xs acc fs).1 ++ m) acc fs = ((runF xs acc fs).1 ++ m, (runF xs acc fs).2.1, 0)
  | [], xs, acc, m, _, _, _ => rfl
  | f :: fs, xs, acc, m, h, ok, he => by
    by_cases h0 : (f acc xs).2.2 = 0
    · rw [run_cons_ok h0] at ok he ⊢
      obtain ⟨m', hm'⟩ := run_ext fs (f acc xs).1 (acc ++ [(f acc xs).2.1]) fun g hg => h g (List.mem_cons_of_mem _ hg)
      have e : (runF (f acc xs).1 (acc ++ [(f acc xs).2.1]) fs).1 ++ m = (f acc xs).1 ++ (m' ++ m) := by rw [hm', List.append_assoc]
      have h1 := (h f (by simp) acc).fix xs (m' ++ m) (by rw [← e]; exact ok) h0
      rw [← e] at h1
      have h2 : (f acc ((runF (f acc xs).1 (acc ++ [(f acc xs).2.1]) fs).1 ++ m)).2.2 = 0 := by rw [h1]
      rw [run_cons_ok h2, h1]
      exact run_fix fs _ _ m (fun g hg => h g (List.mem_cons_of_mem _ hg)) ok he
    · rw [run_cons_no h0] at he; exact absurd he h0
theorem run_len : ∀ (fs : List (List Int → List ND → Rs)) (xs : List ND) (acc : List Int), (runF xs acc fs).2.2 = 0 → (runF xs acc fs).2.1.length = acc.length + fs.length
  | [], xs, acc, _ => rfl
  | f :: fs, xs, acc, h => by
    by_cases h0 : (f acc xs).2.2 = 0
    · rw [run_cons_ok h0] at h ⊢
      rw [run_len fs _ _ h, List.length_append]
      simp; omega
    · rw [run_cons_no h0] at h; exact absurd h h0

def labB (l : List UInt8) : ByteArray := ⟨l.toArray⟩
def lbJoiner : ByteArray := ⟨#[106, 111, 105, 110, 101, 114]⟩
def lbWelcome : ByteArray := ⟨#[119, 101, 108, 99, 111, 109, 101]⟩
def lbEpoch : ByteArray := ⟨#[101, 112, 111, 99, 104]⟩
def lbSender : ByteArray := ⟨#[115, 101, 110, 100, 101, 114]⟩
def lbEncryption : ByteArray := ⟨#[101, 110, 99, 114, 121, 112, 116, 105, 111, 110]⟩
def lbExporter : ByteArray := ⟨#[101, 120, 112, 111, 114, 116, 101, 114]⟩
def lbConfirm : ByteArray := ⟨#[99, 111, 110, 102, 105, 114, 109]⟩
def lbMembership : ByteArray := ⟨#[109, 101, 109, 98, 101, 114, 115, 104, 105, 112]⟩
def lbResumption : ByteArray := ⟨#[114, 101, 115, 117, 109, 112, 116, 105, 111, 110]⟩
def lbInit : ByteArray := ⟨#[105, 110, 105, 116]⟩
def lbExternal : ByteArray := ⟨#[101, 120, 116, 101, 114, 110, 97, 108]⟩
def lbExported : ByteArray := ⟨#[101, 120, 112, 111, 114, 116, 101, 100]⟩
/-- The labels of what is derived of Epoch. -/
def lbs8 : List ByteArray := [lbSender, lbEncryption, lbExporter, lbConfirm, lbMembership, lbResumption, lbInit, lbExternal]
def jnF (xs : List ND) (i c x : Int) : Rs := bdF (exF xs i c) fun ys m => exdF ys m lbJoiner x
/-- The steps of Begin. -/
def bgS (j p x : Int) : List (List Int → List ND → Rs) :=
  [fun _ ys => exF ys j p, fun a ys => dvF ys (a.getD 0 0) lbWelcome, fun a ys => exdF ys (a.getD 0 0) lbEpoch x] ++ lbs8.map (fun lb a ys => dvF ys (a.getD 2 0) lb) ++ [fun a ys => pbF ys (a.getD 10 0)]
def bgF (xs : List ND) (j p x : Int) : List ND × List Int × Int := runF xs [] (bgS j p x)
/-- An epoch's eleven numbers. -/
def epL (j : Int) (a : List Int) : List Int := [j, a.getD 1 0, a.getD 2 0, a.getD 3 0, a.getD 4 0, a.getD 5 0, a.getD 6 0, a.getD 7 0, a.getD 8 0, a.getD 11 0, a.getD 9 0]
def epZ : List Int := List.replicate 11 0
/-- Begin: the arena, the epoch, the error. -/
def begF (xs : List ND) (j p x : Int) : List ND × List Int × Int := if (bgF xs j p x).2.2 = 0 then ((bgF xs j p x).1, epL j (bgF xs j p x).2.1, 0) else ((bgF xs j p x).1, epZ, (bgF xs j p x).2.2)
/-- Next: the arena, the epoch, the error. -/
def nxF (xs : List ND) (i c x : Int) (l : List Int) : List ND × List Int × Int :=
  if (jnF xs i c x).2.2 = 0 then
    if (pskF (jnF xs i c x).1 l).2.2 = 0 then begF (pskF (jnF xs i c x).1 l).1 (jnF xs i c x).2.1 (pskF (jnF xs i c x).1 l).2.1 x
    else ((pskF (jnF xs i c x).1 l).1, epZ, (pskF (jnF xs i c x).1 l).2.2)
  else ((jnF xs i c x).1, epZ, (jnF xs i c x).2.2)
def xpF (xs : List ND) (ep : List Int) (lab : ByteArray) (x : Int) : Rs := if hasB xs x = true then bdF (dvF xs (ep.getD 5 0) lab) fun ys y => exdF ys y lbExported x else (xs, 0, 1)
theorem sb_jn (i c x : Int) : Sb fun xs => jnF xs i c x := sb_bd (G := fun m ys => exdF ys m lbJoiner x) (sb_ex i c) fun m => sb_exd m lbJoiner x
theorem bgS_sb (j p x : Int) : ∀ f ∈ bgS j p x, ∀ a, Sb (f a) := by
  intro f hf a
  unfold bgS at hf
  simp only [List.mem_append, List.mem_cons, List.mem_map, List.mem_nil_iff, or_false] at hf
  rcases hf with ((rfl | rfl | rfl) | ⟨lb, _, rfl⟩) | rfl
  · exact sb_ex j p
  · exact sb_dv _ _
  · exact sb_exd _ _ _
  · exact sb_dv _ _
  · exact sb_pb _
theorem beg_ext (xs : List ND) (j p x : Int) : ∃ m, (begF xs j p x).1 = xs ++ m := by
  obtain ⟨m, hm⟩ := run_ext _ xs [] (bgS_sb j p x)
  refine ⟨m, ?_⟩
  unfold begF
  split <;> exact hm
theorem beg_fix (xs : List ND) (j p x : Int) (m : List ND) (ok : Okay ((begF xs j p x).1 ++ m)) (h : (begF xs j p x).2.2 = 0) : begF ((begF xs j p x).1 ++ m) j p x = ((begF xs j p x).1 ++ m, (begF xs j p x).2.1, 0) := by
  unfold begF at ok h ⊢
  by_cases h0 : (bgF xs j p x).2.2 = 0
  · rw [if_pos h0] at ok h ⊢
    have := run_fix _ xs [] m (bgS_sb j p x) ok h0
    have e : bgF ((bgF xs j p x).1 ++ m) j p x = ((bgF xs j p x).1 ++ m, (bgF xs j p x).2.1, 0) := this
    dsimp only
    rw [e, if_pos rfl]
  · rw [if_neg h0] at h; exact absurd h h0
theorem nx_parts {xs : List ND} {i c x : Int} {l : List Int} (h : (nxF xs i c x l).2.2 = 0) : (jnF xs i c x).2.2 = 0 ∧ (pskF (jnF xs i c x).1 l).2.2 = 0 ∧ nxF xs i c x l = begF (pskF (jnF xs i c x).1 l).1 (jnF xs i c x).2.1 (pskF (jnF xs i c x).1 l).2.1 x := by
  unfold nxF at h ⊢
  by_cases h0 : (jnF xs i c x).2.2 = 0
  · rw [if_pos h0] at h ⊢
    by_cases h1 : (pskF (jnF xs i c x).1 l).2.2 = 0
    · rw [if_pos h1]; exact ⟨h0, h1, rfl⟩
    · rw [if_neg h1] at h; exact absurd h h1
  · rw [if_neg h0] at h; exact absurd h h0
theorem nx_ext (xs : List ND) (i c x : Int) (l : List Int) : ∃ m, (nxF xs i c x l).1 = xs ++ m := by
  obtain ⟨m, hm⟩ := (sb_jn i c x).ext xs
  obtain ⟨m', hm'⟩ := (sb_psk l).ext (jnF xs i c x).1
  obtain ⟨m2, hm2⟩ := beg_ext (pskF (jnF xs i c x).1 l).1 (jnF xs i c x).2.1 (pskF (jnF xs i c x).1 l).2.1 x
  unfold nxF
  split
  · split
    · exact ⟨m ++ (m' ++ m2), by rw [hm2, hm', hm]; simp⟩
    · exact ⟨m ++ m', by dsimp only; rw [hm', hm]; simp⟩
  · exact ⟨m, hm⟩
theorem nx_ok (xs : List ND) (i c x : Int) (l : List Int) (ok : Okay xs) : Okay (nxF xs i c x l).1 := by
  have o1 := (sb_jn i c x).ok xs ok
  have o2 := (sb_psk l).ok _ o1
  have o3 := run_ok _ _ [] (bgS_sb (jnF xs i c x).2.1 (pskF (jnF xs i c x).1 l).2.1 x) o2
  unfold nxF
  split
  · split
    · unfold begF; split <;> exact o3
    · exact o2
  · exact o1
/-- Who has the joiner secret and the shared ones has the epoch; and what was made once is made again. -/
theorem nx_again {xs : List ND} {i c x : Int} {l : List Int} {m : List ND} (h : (nxF xs i c x l).2.2 = 0) (ok : Okay ((nxF xs i c x l).1 ++ m)) :
    let X := (nxF xs i c x l).1 ++ m
    let j := (jnF xs i c x).2.1
    let p := (pskF (jnF xs i c x).1 l).2.1
    pskF X l = (X, p, 0) ∧ begF X j p x = (X, (nxF xs i c x l).2.1, 0) ∧ nxF X i c x l = (X, (nxF xs i c x l).2.1, 0) := by
  obtain ⟨h0, h1, h2⟩ := nx_parts h
  obtain ⟨m2, hm2⟩ := beg_ext (pskF (jnF xs i c x).1 l).1 (jnF xs i c x).2.1 (pskF (jnF xs i c x).1 l).2.1 x
  obtain ⟨m1, hm1⟩ := (sb_psk l).ext (jnF xs i c x).1
  have eX : (nxF xs i c x l).1 ++ m = (pskF (jnF xs i c x).1 l).1 ++ (m2 ++ m) := by rw [h2, hm2]; simp
  have eX2 : (nxF xs i c x l).1 ++ m = (jnF xs i c x).1 ++ (m1 ++ (m2 ++ m)) := by rw [eX, hm1]; simp
  have a1 : jnF ((nxF xs i c x l).1 ++ m) i c x = ((nxF xs i c x l).1 ++ m, (jnF xs i c x).2.1, 0) := by
    have := (sb_jn i c x).fix xs (m1 ++ (m2 ++ m)) (by rw [← eX2]; exact ok) h0
    rwa [← eX2] at this
  have a2 : pskF ((nxF xs i c x l).1 ++ m) l = ((nxF xs i c x l).1 ++ m, (pskF (jnF xs i c x).1 l).2.1, 0) := by
    have := (sb_psk l).fix (jnF xs i c x).1 (m2 ++ m) (by rw [← eX]; exact ok) h1
    rwa [← eX] at this
  have a3 : begF ((nxF xs i c x l).1 ++ m) (jnF xs i c x).2.1 (pskF (jnF xs i c x).1 l).2.1 x = ((nxF xs i c x l).1 ++ m, (nxF xs i c x l).2.1, 0) := by
    have := beg_fix (pskF (jnF xs i c x).1 l).1 (jnF xs i c x).2.1 (pskF (jnF xs i c x).1 l).2.1 x m (by rw [← h2]; exact ok) (by rw [← h2]; exact h)
    rwa [← h2] at this
  refine ⟨a2, a3, ?_⟩
  unfold nxF at a1 a2 a3 ⊢
  rw [a1, if_pos rfl]
  dsimp only
  rw [a2, if_pos rfl]
  exact a3
end Go.KK

