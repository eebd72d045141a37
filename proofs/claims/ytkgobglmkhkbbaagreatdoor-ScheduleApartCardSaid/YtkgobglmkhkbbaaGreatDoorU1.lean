/- plain: layers 4 and 11: secrets in words of makes; what was made once is made again. -/
import Derived.Test.YtkgobglmkhkbbaaGreatDoorM9
import Derived.Test.YtkgobglmkhkbbaaGreatDoorM5
namespace Go.KK
open Go.RowKit
set_option linter.unusedVariables false
set_option linter.unusedSimpArgs false

/-- A step: the arena, the number, the error. -/
abbrev Rs := List ND × Int × Int
/-- A step behind another one, if that one went well. -/
def bdF (r : Rs) (f : List ND → Int → Rs) : Rs := if r.2.2 = 0 then f r.1 r.2.1 else (r.1, 0, r.2.2)
def exF (xs : List ND) (s t : Int) : Rs := mk xs (ndN 5 [s, t])
def exdF (xs : List ND) (s : Int) (lab : ByteArray) (c : Int) : Rs := if kno xs [s, c] = true then bdF (mk xs (txN lab)) fun ys t => mk ys (ndN 6 [s, t, c]) else (xs, 0, 1)
def dvF (xs : List ND) (s : Int) (lab : ByteArray) : Rs := if kno xs [s] = true then bdF (mk xs (ndN 3 [])) fun ys n => exdF ys s lab n else (xs, 0, 1)
def pbF (xs : List ND) (s : Int) : Rs := mk xs (ndN 7 [s])
/-- A number's node. -/
def At (X : List ND) (i : Int) (x : ND) : Prop := 0 ≤ i ∧ X[i.toNat]? = some x
theorem At.ext {X : List ND} {i : Int} {x : ND} (h : At X i x) (m : List ND) : At (X ++ m) i x :=
  ⟨h.1, by rw [List.getElem?_append_left (List.getElem?_eq_some_iff.1 h.2).1]; exact h.2⟩
theorem At.eq {X : List ND} {i : Int} {x y : ND} (h : At X i x) (k : At X i y) : x = y := by
  have := h.2.symm.trans k.2
  injection this
theorem At.uniq {X : List ND} (ok : Okay X) {i j : Int} {x : ND} (h : At X i x) (k : At X j x) : i = j := by
  have hi := (List.getElem?_eq_some_iff.1 h.2).1
  have := (List.getElem?_inj hi ok.nd).1 (h.2.trans k.2.symm)
  have h1 := h.1; have h2 := k.1
  omega
theorem At.has {X : List ND} {i : Int} {x : ND} (h : At X i x) : hasB X i = true := by
  have hi := (List.getElem?_eq_some_iff.1 h.2).1
  have := h.1
  exact has_iff.2 ⟨h.1, by omega⟩
theorem has_ext {X : List ND} {i : Int} (h : hasB X i = true) (m : List ND) : hasB (X ++ m) i = true := by
  have := has_iff.1 h
  exact has_iff.2 ⟨this.1, by rw [List.length_append]; omega⟩
theorem kno_ext {X : List ND} {l : List Int} (h : kno X l = true) (m : List ND) : kno (X ++ m) l = true := by
  unfold kno at h ⊢
  rw [List.all_eq_true] at h ⊢
  exact fun i hi => has_ext (h i hi) m
theorem mk_at {xs : List ND} {x : ND} (h : makE xs x = 0) : At (makT xs x) (makI xs x) x ∧ mayB (makT xs x) x = true := by
  unfold makE at h
  by_cases hm : mayB xs x = true
  · rw [if_pos hm] at h
    by_cases hx : x ∈ xs
    · have e : makT xs x = xs := by unfold makT; rw [if_pos hm, if_pos hx]
      have ei : makI xs x = ((xs.idxOf x : Nat) : Int) := by unfold makI; rw [if_pos hm, if_pos hx]
      rw [e, ei]
      exact ⟨⟨by omega, by rw [Int.toNat_natCast]; exact idxOf_get hx⟩, hm⟩
    · rw [if_neg hx] at h
      by_cases hl : 100000 ≤ xs.length
      · rw [if_pos hl] at h; cases h
      · have e : makT xs x = xs ++ [x] := by unfold makT; rw [if_pos hm, if_neg hx, if_neg hl]
        have ei : makI xs x = ((xs.length : Nat) : Int) := by unfold makI; rw [if_pos hm, if_neg hx, if_neg hl]
        rw [e, ei]
        exact ⟨⟨by omega, by rw [Int.toNat_natCast, List.getElem?_append_right (Nat.le_refl _), Nat.sub_self]; rfl⟩, may_app [x] hm⟩
  · rw [if_neg hm] at h; cases h
theorem mk_fix {Y : List ND} (ok : Okay Y) {i : Int} {x : ND} (h : At Y i x) (hm : mayB Y x = true) : mk Y x = (Y, i, 0) := by
  have hx : x ∈ Y := List.mem_of_getElem? h.2
  have ei : ((Y.idxOf x : Nat) : Int) = i := At.uniq ok (x := x) ⟨by omega, by rw [Int.toNat_natCast]; exact idxOf_get hx⟩ h
  unfold mk makT makI makE
  rw [if_pos hm, if_pos hx, if_pos hm, if_pos hx, if_pos hm, if_pos hx, ei]
/-- A step that goes on an arena, and that an arena which went on takes again as it was. -/
structure Sb (F : List ND → Rs) : Prop where
  ext : ∀ xs, ∃ m, (F xs).1 = xs ++ m
  fix : ∀ xs m, Okay ((F xs).1 ++ m) → (F xs).2.2 = 0 → F ((F xs).1 ++ m) = ((F xs).1 ++ m, (F xs).2.1, 0)
  has : ∀ xs, (F xs).2.2 = 0 → hasB (F xs).1 (F xs).2.1 = true
  ok : ∀ xs, Okay xs → Okay (F xs).1
theorem sb_mk (x : ND) (hn : x.n < 9223372036854775808) : Sb fun xs => mk xs x :=
  ⟨fun xs => mak_pre xs x, fun xs m ok h => mk_fix ok ((mk_at h).1.ext m) (may_app m (mk_at h).2), fun _ h => (mk_at h).1.has, fun _ ok => okay_mak ok hn⟩
theorem sb_bd {F : List ND → Rs} {G : Int → List ND → Rs} (hF : Sb F) (hG : ∀ i, Sb (G i)) : Sb fun xs => bdF (F xs) fun ys i => G i ys := by
  refine ⟨fun xs => ?_, fun xs m ok h => ?_, fun xs h => ?_, fun xs ok => ?_⟩
  · obtain ⟨m, hm⟩ := hF.ext xs
    unfold bdF
    try dsimp only
    split
    · obtain ⟨m', hm'⟩ := (hG (F xs).2.1).ext (F xs).1
      exact ⟨m ++ m', by rw [hm', hm, List.append_assoc]⟩
    · exact ⟨m, hm⟩
  · try dsimp only at ok h ⊢
    unfold bdF at ok h ⊢
    by_cases he : (F xs).2.2 = 0
    · rw [if_pos he] at ok h ⊢
      obtain ⟨m', hm'⟩ := (hG (F xs).2.1).ext (F xs).1
      have e : (G (F xs).2.1 (F xs).1).1 ++ m = (F xs).1 ++ (m' ++ m) := by rw [hm', List.append_assoc]
      have h1 := hF.fix xs (m' ++ m) (by rw [← e]; exact ok) he
      have h2 := (hG (F xs).2.1).fix (F xs).1 m ok h
      rw [e, h1]
      try dsimp only
      rw [if_pos rfl, ← e]
      exact h2
    · rw [if_neg he] at h
      exact absurd h he
  · try dsimp only at h ⊢
    unfold bdF at h ⊢
    by_cases he : (F xs).2.2 = 0
    · rw [if_pos he] at h ⊢
      exact (hG _).has _ h
    · rw [if_neg he] at h
      exact absurd h he
  · have := hF.ok xs ok
    unfold bdF
    try dsimp only
    split
    · exact (hG _).ok _ this
    · exact this
theorem sb_kno {F : List ND → Rs} (l : List Int) (hF : Sb F) : Sb fun xs => if kno xs l = true then F xs else (xs, 0, 1) := by
  refine ⟨fun xs => ?_, fun xs m ok h => ?_, fun xs h => ?_, fun xs ok => ?_⟩
  · try dsimp only
    split
    · exact hF.ext xs
    · exact ⟨[], by simp⟩
  · try dsimp only at ok h ⊢
    by_cases hk : kno xs l = true
    · rw [if_pos hk] at ok h ⊢
      obtain ⟨m', hm'⟩ := hF.ext xs
      have hk2 : kno ((F xs).1 ++ m) l = true := by rw [hm']; exact kno_ext (kno_ext hk m') m
      rw [if_pos hk2]
      exact hF.fix xs m ok h
    · rw [if_neg hk] at h; cases h
  · try dsimp only at h ⊢
    by_cases hk : kno xs l = true
    · rw [if_pos hk] at h ⊢; exact hF.has xs h
    · rw [if_neg hk] at h; cases h
  · try dsimp only
    split
    · exact hF.ok xs ok
    · exact ok
theorem sb_nd (o : Int) (l : List Int) : Sb fun xs => mk xs (ndN o l) := sb_mk _ (by show (0 : Int) < _; decide)
theorem sb_tx (s : ByteArray) : Sb fun xs => mk xs (txN s) := sb_mk _ (by show (0 : Int) < _; decide)
theorem sb_ex (s t : Int) : Sb fun xs => exF xs s t := sb_nd 5 [s, t]
theorem sb_exd (s : Int) (lab : ByteArray) (c : Int) : Sb fun xs => exdF xs s lab c := sb_kno _ (sb_bd (G := fun t ys => mk ys (ndN 6 [s, t, c])) (sb_tx lab) fun t => sb_nd 6 [s, t, c])
theorem sb_dv (s : Int) (lab : ByteArray) : Sb fun xs => dvF xs s lab := sb_kno _ (sb_bd (G := fun n ys => exdF ys s lab n) (sb_nd 3 []) fun n => sb_exd s lab n)
theorem sb_pb (s : Int) : Sb fun xs => pbF xs s := sb_nd 7 [s]
theorem bd_ok {r : Rs} {f : List ND → Int → Rs} (h : (bdF r f).2.2 = 0) : r.2.2 = 0 ∧ bdF r f = f r.1 r.2.1 := by
  unfold bdF at h ⊢
  by_cases he : r.2.2 = 0
  · rw [if_pos he]; exact ⟨he, rfl⟩
  · rw [if_neg he] at h; exact absurd h he
/-- A secret that was derived: of which one, with which label and context. -/
def KeyAt (X : List ND) (i s : Int) (lab : ByteArray) (c : Int) : Prop := ∃ t, At X t (txN lab) ∧ At X i (ndN 6 [s, t, c])
def DvAt (X : List ND) (i s : Int) (lab : ByteArray) : Prop := ∃ n, At X n (ndN 3 []) ∧ KeyAt X i s lab n
theorem KeyAt.ext {X : List ND} {i s c : Int} {lab : ByteArray} (h : KeyAt X i s lab c) (m : List ND) : KeyAt (X ++ m) i s lab c := by
  obtain ⟨t, h1, h2⟩ := h; exact ⟨t, h1.ext m, h2.ext m⟩
theorem DvAt.ext {X : List ND} {i s : Int} {lab : ByteArray} (h : DvAt X i s lab) (m : List ND) : DvAt (X ++ m) i s lab := by
  obtain ⟨n, h1, h2⟩ := h; exact ⟨n, h1.ext m, h2.ext m⟩
theorem KeyAt.eq {X : List ND} {i s s' c c' : Int} {lab lab' : ByteArray} (h : KeyAt X i s lab c) (k : KeyAt X i s' lab' c') : s = s' ∧ lab = lab' ∧ c = c' := by
  obtain ⟨t, h1, h2⟩ := h; obtain ⟨t', k1, k2⟩ := k
  have e := h2.eq k2
  unfold ndN at e
  simp only [ND.mk.injEq, List.cons.injEq, true_and, and_true] at e
  obtain ⟨e1, e2, e3⟩ := e
  subst e2
  have e4 := h1.eq k1
  unfold txN at e4
  simp only [ND.mk.injEq, true_and, and_true] at e4
  exact ⟨e1, e4, e3⟩
theorem KeyAt.uniq {X : List ND} (ok : Okay X) {i j s c : Int} {lab : ByteArray} (h : KeyAt X i s lab c) (k : KeyAt X j s lab c) : i = j := by
  obtain ⟨t, h1, h2⟩ := h; obtain ⟨t', k1, k2⟩ := k
  obtain rfl := At.uniq ok h1 k1
  exact At.uniq ok h2 k2
theorem DvAt.eq {X : List ND} {i s s' : Int} {lab lab' : ByteArray} (h : DvAt X i s lab) (k : DvAt X i s' lab') : s = s' ∧ lab = lab' := by
  obtain ⟨n, -, h2⟩ := h; obtain ⟨n', -, k2⟩ := k
  have e := h2.eq k2
  exact ⟨e.1, e.2.1⟩
theorem DvAt.uniq {X : List ND} (ok : Okay X) {i j s : Int} {lab : ByteArray} (h : DvAt X i s lab) (k : DvAt X j s lab) : i = j := by
  obtain ⟨n, h1, h2⟩ := h; obtain ⟨n', k1, k2⟩ := k
  obtain rfl := At.uniq ok h1 k1
  exact KeyAt.uniq ok h2 k2
theorem mk_at' {xs : List ND} {x : ND} (h : (mk xs x).2.2 = 0) : At (mk xs x).1 (mk xs x).2.1 x := (mk_at h).1
theorem exd_at {xs : List ND} {s c : Int} {lab : ByteArray} (h : (exdF xs s lab c).2.2 = 0) : KeyAt (exdF xs s lab c).1 (exdF xs s lab c).2.1 s lab c := by
  unfold exdF at h ⊢
  by_cases hk : kno xs [s, c] = true
  · rw [if_pos hk] at h ⊢
    obtain ⟨h1, h2⟩ := bd_ok h
    rw [h2] at h ⊢
    obtain ⟨m, hm⟩ := (sb_nd 6 [s, (mk xs (txN lab)).2.1, c]).ext (mk xs (txN lab)).1
    refine ⟨(mk xs (txN lab)).2.1, ?_, mk_at' h⟩
    try dsimp only at hm
    rw [hm]
    exact (mk_at' h1).ext m
  · rw [if_neg hk] at h; cases h
theorem dv_at {xs : List ND} {s : Int} {lab : ByteArray} (h : (dvF xs s lab).2.2 = 0) : DvAt (dvF xs s lab).1 (dvF xs s lab).2.1 s lab := by
  unfold dvF at h ⊢
  by_cases hk : kno xs [s] = true
  · rw [if_pos hk] at h ⊢
    obtain ⟨h1, h2⟩ := bd_ok h
    rw [h2] at h ⊢
    obtain ⟨m, hm⟩ := (sb_exd s lab (mk xs (ndN 3 [])).2.1).ext (mk xs (ndN 3 [])).1
    refine ⟨(mk xs (ndN 3 [])).2.1, ?_, exd_at h⟩
    try dsimp only at hm
    rw [hm]
    exact (mk_at' h1).ext m
  · rw [if_neg hk] at h; cases h

/-! several shared secrets in one -/
def pskG : Rs → List Int → Rs
  | r, [] => r
  | r, s :: l => pskG (bdF r fun ys p => exF ys p s) l
def pskF (xs : List ND) (l : List Int) : Rs := pskG (mk xs (txN ⟨#[]⟩)) l
theorem psk_snoc (r : Rs) : ∀ (l : List Int) (s : Int), pskG r (l ++ [s]) = bdF (pskG r l) fun ys p => exF ys p s := by
  intro l
  induction l generalizing r with
  | nil => intro s; rfl
  | cons a l ih => intro s; exact ih _ s
theorem sb_psk (l : List Int) : Sb fun xs => pskF xs l := by
  refine snoc_ind (P := fun l => Sb fun xs => pskF xs l) (sb_tx _) (fun l s ih => ?_) l
  unfold pskF at ih ⊢
  simp only [psk_snoc]
  exact sb_bd (G := fun p ys => exF ys p s) ih fun p => sb_ex p s
/-- What shared secrets in one are. -/
inductive PskAt (X : List ND) : Int → List Int → Prop
  | nil {i : Int} (h : At X i (txN ⟨#[]⟩)) : PskAt X i []
  | snoc {i p s : Int} {l : List Int} (hp : PskAt X p l) (h : At X i (ndN 5 [p, s])) : PskAt X i (l ++ [s])
theorem PskAt.ext {X : List ND} {i : Int} {l : List Int} (h : PskAt X i l) (m : List ND) : PskAt (X ++ m) i l := by
  induction h with
  | nil h => exact .nil (h.ext m)
  | snoc _ h ih => exact .snoc ih (h.ext m)
theorem psk_at (xs : List ND) : ∀ l : List Int, (pskF xs l).2.2 = 0 → PskAt (pskF xs l).1 (pskF xs l).2.1 l := by
  intro l
  refine snoc_ind (P := fun l => (pskF xs l).2.2 = 0 → PskAt (pskF xs l).1 (pskF xs l).2.1 l) (fun h => .nil (mk_at' h)) (fun l s ih h => ?_) l
  unfold pskF at ih h ⊢
  rw [psk_snoc] at h ⊢
  obtain ⟨h1, h2⟩ := bd_ok h
  rw [h2] at h ⊢
  obtain ⟨m, hm⟩ := (sb_ex (pskG (mk xs (txN ⟨#[]⟩)) l).2.1 s).ext (pskG (mk xs (txN ⟨#[]⟩)) l).1
  try dsimp only at hm
  refine .snoc (p := (pskG (mk xs (txN ⟨#[]⟩)) l).2.1) ?_ (mk_at' h)
  have := (ih h1).ext m
  rw [← hm] at this
  exact this
theorem PskAt.eq {X : List ND} {i : Int} {l l' : List Int} (h : PskAt X i l) (k : PskAt X i l') : l = l' := by
  induction h generalizing l' with
  | nil h =>
    cases k with
    | nil _ => rfl
    | snoc hp h' => have := h.eq h'; unfold txN ndN at this; simp at this
  | snoc hp h ih =>
    cases k with
    | nil h' => have := h.eq h'; unfold txN ndN at this; simp at this
    | snoc hp' h' =>
      have e := h.eq h'
      unfold ndN at e
      simp only [ND.mk.injEq, List.cons.injEq, true_and, and_true] at e
      obtain ⟨rfl, rfl⟩ := e
      rw [ih hp']
theorem PskAt.uniq {X : List ND} (ok : Okay X) {i j : Int} {l : List Int} (h : PskAt X i l) (k : PskAt X j l) : i = j := by
  induction h generalizing j with
  | nil h =>
    generalize hl : ([] : List Int) = l' at k
    cases k with
    | nil h' => exact At.uniq ok h h'
    | snoc hp h' => simp at hl
  | @snoc i p s l hp h ih =>
    generalize hl : l ++ [s] = l' at k
    cases k with
    | nil h' => simp at hl
    | @snoc _ p' s' m hp' h' =>
      have e := List.append_inj' hl rfl
      obtain ⟨rfl, e2⟩ := e
      simp at e2
      subst e2
      obtain rfl := ih hp'
      exact At.uniq ok h h'
end Go.KK
