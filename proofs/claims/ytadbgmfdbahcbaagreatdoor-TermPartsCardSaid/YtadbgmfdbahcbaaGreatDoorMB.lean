/- plain: two terms of one text are one term (TermShown). -/
import Derived.Test.YtadbgmfdbahcbaaGreatDoorM5
namespace Go.KK
open Go.RowKit
set_option linter.unusedVariables false
set_option linter.unusedSimpArgs false

/-- What may stand behind a term's text: nothing, or a comma, or an end. -/
def dB : List UInt8 → Prop
  | [] => True
  | b :: _ => b = 44 ∨ b = 41
theorem dB_stop {r : List UInt8} (h : dB r) : stopB r = true := by
  rcases r with _ | ⟨b, t⟩
  · rfl
  · rcases h with rfl | rfl <;> rfl
theorem split40 : ∀ {a a' u u' : List UInt8}, a ++ 40 :: u = a' ++ 40 :: u' → (40 : UInt8) ∉ a → (40 : UInt8) ∉ a' → a = a' ∧ u = u'
  | [], [], u, u', h, _, _ => by simpa using h
  | [], b :: a', u, u', h, _, h2 => by
    simp only [List.nil_append, List.cons_append, List.cons.injEq] at h
    exact absurd (List.mem_cons.2 (.inl h.1)) h2
  | b :: a, [], u, u', h, h1, _ => by
    simp only [List.nil_append, List.cons_append, List.cons.injEq] at h
    exact absurd (List.mem_cons.2 (.inl h.1.symm)) h1
  | b :: a, b' :: a', u, u', h, h1, h2 => by
    simp only [List.cons_append, List.cons.injEq] at h
    have := split40 h.2 (fun e => h1 (List.mem_cons_of_mem _ e)) (fun e => h2 (List.mem_cons_of_mem _ e))
    exact ⟨by rw [h.1, this.1], this.2⟩
theorem nameB_nat : ∀ k : Nat, k < 13 → 3 ≤ k → (40 : UInt8) ∉ nameB (k : Int) ∧ nameB (k : Int) ≠ [] ∧ ∀ b ∈ nameB (k : Int), (97 : UInt8) ≤ b := by decide +kernel
theorem nameB_inj : ∀ k : Nat, k < 13 → ∀ j : Nat, j < 13 → 3 ≤ k → 3 ≤ j → nameB (k : Int) = nameB (j : Int) → k = j := by decide +kernel
theorem esc_cons (b : UInt8) (s : List UInt8) : escB (b :: s) = (if b = 34 ∨ b = 92 then [92, b] else [b]) ++ escB s := by unfold escB; rw [List.flatMap_cons]
theorem esc_inj : ∀ {s s' r r' : List UInt8}, escB s ++ 34 :: r = escB s' ++ 34 :: r' → s = s' ∧ r = r'
  | [], [], r, r', h => by simpa [escB] using h
  | [], b :: s', r, r', h => by
    rw [esc_cons] at h
    split at h
    · simp [escB] at h
    · rename_i hb
      simp [escB] at h
      exact absurd (.inl h.1.symm) hb
  | b :: s, [], r, r', h => by
    rw [esc_cons] at h
    split at h
    · simp [escB] at h
    · rename_i hb
      simp [escB] at h
      exact absurd (.inl h.1) hb
  | b :: s, b' :: s', r, r', h => by
    rw [esc_cons, esc_cons] at h
    split at h
    · split at h
      · simp only [List.cons_append, List.nil_append, List.cons.injEq, true_and] at h
        have := esc_inj h.2
        exact ⟨by rw [h.1, this.1], this.2⟩
      · rename_i hb
        simp only [List.cons_append, List.nil_append, List.cons.injEq] at h
        exact absurd (.inr h.1.symm) hb
    · rename_i hb
      split at h
      · simp only [List.cons_append, List.nil_append, List.cons.injEq] at h
        exact absurd (.inr h.1) hb
      · simp only [List.cons_append, List.nil_append, List.cons.injEq] at h
        have := esc_inj h.2
        exact ⟨by rw [h.1, this.1], this.2⟩
theorem join_tail (f : Int → List UInt8) : ∀ (y : Int) (L : List Int), joinC ((y :: L).map f) = f y ++ L.flatMap fun z => 44 :: f z
  | y, [] => by simp [joinC]
  | y, z :: L => by
    have ih := join_tail f z L
    show f y ++ 44 :: joinC ((z :: L).map f) = _
    rw [ih, List.flatMap_cons]; simp
theorem dB_tail (f : Int → List UInt8) (L : List Int) (r : List UInt8) : dB ((L.flatMap fun z => 44 :: f z) ++ 41 :: r) := by
  rcases L with _ | ⟨y, L⟩
  · exact .inr rfl
  · exact .inl rfl
theorem tail_inj (f : Int → List UInt8) : ∀ (L L' : List Int) (r r' : List UInt8), (∀ y ∈ L, ∀ y' ∈ L', ∀ r r', dB r → dB r' → f y ++ r = f y' ++ r' → y = y' ∧ r = r') →
    (L.flatMap fun z => 44 :: f z) ++ 41 :: r = (L'.flatMap fun z => 44 :: f z) ++ 41 :: r' → L = L' ∧ r = r'
  | [], [], r, r', _, h => by simpa using h
  | [], y :: L', r, r', _, h => by simp at h
  | y :: L, [], r, r', _, h => by simp at h
  | y :: L, y' :: L', r, r', hp, h => by
    rw [List.flatMap_cons, List.flatMap_cons] at h
    simp only [List.cons_append, List.cons.injEq, true_and, List.append_assoc] at h
    obtain ⟨rfl, h2⟩ := hp y (List.mem_cons_self ..) y' (List.mem_cons_self ..) _ _ (dB_tail f L r) (dB_tail f L' r') h
    obtain ⟨rfl, rfl⟩ := tail_inj f L L' r r' (fun a ha b hb => hp a (List.mem_cons_of_mem _ ha) b (List.mem_cons_of_mem _ hb)) h2
    exact ⟨rfl, rfl⟩
theorem join_inj (f : Int → List UInt8) (L L' : List Int) (r r' : List UInt8) (hp : ∀ y ∈ L, ∀ y' ∈ L', ∀ r r', dB r → dB r' → f y ++ r = f y' ++ r' → y = y' ∧ r = r')
    (hh : ∀ y ∈ L, ∃ c t, f y = c :: t ∧ c ≠ 41) (hh' : ∀ y ∈ L', ∃ c t, f y = c :: t ∧ c ≠ 41) (h : joinC (L.map f) ++ 41 :: r = joinC (L'.map f) ++ 41 :: r') : L = L' ∧ r = r' := by
  rcases L with _ | ⟨y, L⟩ <;> rcases L' with _ | ⟨y', L'⟩
  · simpa [joinC] using h
  · obtain ⟨c, t, e, hc⟩ := hh' y' (List.mem_cons_self ..)
    rw [join_tail, e] at h
    simp only [List.map_nil, joinC, List.nil_append, List.cons_append, List.cons.injEq] at h
    exact absurd h.1.symm hc
  · obtain ⟨c, t, e, hc⟩ := hh y (List.mem_cons_self ..)
    rw [join_tail, e] at h
    simp only [List.map_nil, joinC, List.nil_append, List.cons_append, List.cons.injEq] at h
    exact absurd h.1 hc
  · rw [join_tail, join_tail, List.append_assoc, List.append_assoc] at h
    obtain ⟨rfl, h2⟩ := hp y (List.mem_cons_self ..) y' (List.mem_cons_self ..) _ _ (dB_tail f L r) (dB_tail f L' r') h
    obtain ⟨rfl, rfl⟩ := tail_inj f L L' r r' (fun a ha b hb => hp a (List.mem_cons_of_mem _ ha) b (List.mem_cons_of_mem _ hb)) h2
    exact ⟨rfl, rfl⟩
/-- What a node of an arena is, by its kind. -/
theorem kinds {xs : List ND} (ok : Okay xs) {t : Nat} {x : ND} (hx : xs[t]? = some x) :
    (x.o = 1 ∧ x.s = ⟨#[]⟩ ∧ x.l = []) ∨ (x.o = 2 ∧ x.n = 0 ∧ x.l = []) ∨ (3 ≤ x.o ∧ x.o ≤ 12 ∧ x.n = 0 ∧ x.s = ⟨#[]⟩ ∧ ∀ y ∈ x.l, 0 ≤ y ∧ y < (t : Int)) := by
  have hm := ok.may _ _ hx
  have ht := (List.getElem?_eq_some_iff.1 hx).1
  unfold mayB shB at hm
  simp only [Bool.and_eq_true, decide_eq_true_eq, Bool.or_eq_true, beq_iff_eq, List.all_eq_true] at hm
  obtain ⟨⟨⟨⟨⟨⟨⟨hl, -⟩, -⟩, -⟩, hn⟩, hs⟩, hp⟩, -⟩ := hm
  have he : ∀ {s : ByteArray}, s.size = 0 → s = ⟨#[]⟩ := fun {s} h => by
    apply str_ext
    show s.data.toList = []
    apply List.eq_nil_of_length_eq_zero
    have : s.data.toList.length = s.size := by simp
    omega
  have hnil : arN x.o = some 0 → x.l = [] := fun h => by
    unfold lenB at hl
    rw [h] at hl
    exact List.eq_nil_of_length_eq_zero (eq_of_beq hl)
  by_cases h1 : x.o = 1
  · exact .inl ⟨h1, he (hs.resolve_left (by omega)), hnil (by rw [h1]; rfl)⟩
  · by_cases h2 : x.o = 2
    · exact .inr (.inl ⟨h2, hn.resolve_left h1, hnil (by rw [h2]; rfl)⟩)
    · refine .inr (.inr ⟨?_, ?_, hn.resolve_left h1, he (hs.resolve_left h2), fun y hy => ?_⟩)
      · have := (oRange hl); omega
      · exact (oRange hl).2
      · have h3 := has_iff.1 (hp y hy)
        rw [List.length_take] at h3
        omega
where
  oRange {o : Int} {n : Nat} (h : lenB o n = true) : 1 ≤ o ∧ o ≤ 12 := by
    unfold lenB at h
    rcases ha : arN o with _ | k
    · rw [ha] at h
      have := eq_of_beq h
      omega
    · unfold arN at ha
      split at ha <;> first | omega | cases ha
/-- A term's text begins so. -/
theorem show_head {xs : List ND} (ok : Okay xs) {t : Nat} (ht : t < xs.length) : ∃ c u, showL xs t = c :: u ∧ c ≠ 41 := by
  have hx : xs[t]? = some xs[t] := List.getElem?_eq_getElem ht
  generalize xs[t] = x at hx
  rcases kinds ok hx with ⟨h, -⟩ | ⟨h, -⟩ | ⟨h3, h12, -⟩
  · exact ⟨35, Lib.itoa x.n, by rw [show_at hx]; unfold textOf; rw [if_pos h], by decide⟩
  · exact ⟨34, escB x.s.data.toList ++ [34], by rw [show_at hx]; unfold textOf; rw [if_neg (by omega), if_pos h], by decide⟩
  · have hk := nameB_nat x.o.toNat (by omega) (by omega)
    rw [show ((x.o.toNat : Nat) : Int) = x.o by omega] at hk
    rw [show_parts ok hx (by omega) (by omega)]
    rcases hn : nameB x.o with _ | ⟨c, u⟩
    · exact absurd hn hk.2.1
    · refine ⟨c, _, rfl, ?_⟩
      rintro rfl
      have := hk.2.2 41 (by rw [hn]; exact List.mem_cons_self ..)
      exact absurd this (by decide)
/-- Where texts that end are one, the terms are. -/
theorem show_inj {xs : List ND} (ok : Okay xs) : ∀ (N i j : Nat) (r r' : List UInt8), i + j < N → i < xs.length → j < xs.length → dB r → dB r' → showL xs i ++ r = showL xs j ++ r' → i = j ∧ r = r' := by
  intro N
  induction N with
  | zero => intro i j r r' h; omega
  | succ N ih =>
    intro i j r r' hN hi hj hr hr' h
    have hx : xs[i]? = some xs[i] := List.getElem?_eq_getElem hi
    have hy : xs[j]? = some xs[j] := List.getElem?_eq_getElem hj
    have same : xs[i] = xs[j] → i = j := fun e => (List.getElem?_inj hi ok.nd).1 (by rw [hx, hy, e])
    generalize xs[i] = x at *
    generalize xs[j] = y at *
    have tx := show_at hx; have ty := show_at hy
    unfold textOf at tx ty
    rcases kinds ok hx with ⟨x1, x2, x3⟩ | ⟨x1, x2, x3⟩ | ⟨x1, x2, x3, x4, x5⟩ <;> rcases kinds ok hy with ⟨y1, y2, y3⟩ | ⟨y1, y2, y3⟩ | ⟨y1, y2, y3, y4, y5⟩
    · rw [if_pos x1] at tx; rw [if_pos y1] at ty
      rw [tx, ty] at h
      simp only [List.cons_append, List.cons.injEq, true_and] at h
      have := first_stop h (itoa_num _) (itoa_num _) (dB_stop hr) (dB_stop hr')
      refine ⟨same ?_, this.2⟩
      have hn := itoa_inj this.1
      obtain ⟨o, n, s, l⟩ := x; obtain ⟨o', n', s', l'⟩ := y
      simp only at *
      subst x1; subst y1; subst x2; subst y2; subst x3; subst y3; subst hn; rfl
    · rw [if_pos x1] at tx; rw [if_neg (by omega), if_pos y1] at ty
      rw [tx, ty] at h
      simp at h
    · exact (odd35 ok hy y1 y2 (by rw [← h, tx, if_pos x1]; exact ⟨35, _, rfl, by decide⟩)).elim
    · rw [if_neg (by omega), if_pos x1] at tx; rw [if_pos y1] at ty
      rw [tx, ty] at h
      simp at h
    · rw [if_neg (by omega), if_pos x1] at tx; rw [if_neg (by omega), if_pos y1] at ty
      rw [tx, ty] at h
      simp only [List.cons_append, List.cons.injEq, true_and, List.append_assoc, List.nil_append] at h
      have := esc_inj h
      refine ⟨same ?_, this.2⟩
      have hs := str_ext this.1
      obtain ⟨o, n, s, l⟩ := x; obtain ⟨o', n', s', l'⟩ := y
      simp only at *
      subst x1; subst y1; subst x2; subst y2; subst x3; subst y3; subst hs; rfl
    · exact (odd35 ok hy y1 y2 (by rw [← h, tx, if_neg (by omega), if_pos x1]; exact ⟨34, _, rfl, by decide⟩)).elim
    · exact (odd35 ok hx x1 x2 (by rw [h, ty, if_pos y1]; exact ⟨35, _, rfl, by decide⟩)).elim
    · exact (odd35 ok hx x1 x2 (by rw [h, ty, if_neg (by omega), if_pos y1]; exact ⟨34, _, rfl, by decide⟩)).elim
    · rw [show_parts ok hx (by omega) (by omega), show_parts ok hy (by omega) (by omega)] at h
      simp only [List.cons_append, List.append_assoc, List.nil_append] at h
      have kx := nameB_nat x.o.toNat (by omega) (by omega)
      have ky := nameB_nat y.o.toNat (by omega) (by omega)
      have ex : ((x.o.toNat : Nat) : Int) = x.o := by omega
      have ey : ((y.o.toNat : Nat) : Int) = y.o := by omega
      obtain ⟨h1, h2⟩ := split40 h (by rw [← ex]; exact kx.1) (by rw [← ey]; exact ky.1)
      have ho : x.o = y.o := by
        have := nameB_inj x.o.toNat (by omega) y.o.toNat (by omega) (by omega) (by omega) (by rw [ex, ey]; exact h1)
        omega
      have hd : ∀ {l : List Int} {t : Nat}, t < xs.length → (∀ y ∈ l, 0 ≤ y ∧ y < (t : Int)) → ∀ y ∈ l, ∃ c u, showL xs y.toNat = c :: u ∧ c ≠ 41 := fun ht hl y hy => by
        have := hl y hy
        exact show_head ok (by omega)
      obtain ⟨hl, hrr⟩ := join_inj (fun y => showL xs y.toNat) x.l y.l r r' (fun a ha b hb u u' hu hu' e => by
        have ga := x5 a ha; have gb := y5 b hb
        have := ih a.toNat b.toNat u u' (by omega) (by omega) (by omega) hu hu' e
        exact ⟨by omega, this.2⟩) (hd hi x5) (hd hj y5) h2
      refine ⟨same ?_, hrr⟩
      obtain ⟨o, n, s, l⟩ := x; obtain ⟨o', n', s', l'⟩ := y
      simp only at *
      subst ho; subst hl; subst x3; subst y3; subst x4; subst y4; rfl
where
  odd35 {xs : List ND} (ok : Okay xs) {t : Nat} {x : ND} (hx : xs[t]? = some x) (h3 : 3 ≤ x.o) (h12 : x.o ≤ 12) {r : List UInt8} (h : ∃ (c : UInt8) (u : List UInt8), showL xs t ++ r = c :: u ∧ c < 97) : False := by
    obtain ⟨c, u, e, hc⟩ := h
    have hk := nameB_nat x.o.toNat (by omega) (by omega)
    rw [show ((x.o.toNat : Nat) : Int) = x.o by omega] at hk
    rw [show_parts ok hx (by omega) (by omega)] at e
    rcases hn : nameB x.o with _ | ⟨d, v⟩
    · exact absurd hn hk.2.1
    · rw [hn] at e
      simp only [List.cons_append, List.cons.injEq] at e
      have h97 := hk.2.2 d (by rw [hn]; exact List.mem_cons_self ..)
      rw [e.1] at h97
      have a := UInt8.le_iff_toNat_le.1 h97
      have b := UInt8.lt_iff_toNat_lt.1 hc
      omega
theorem joinC_le : ∀ (l : List (List UInt8)) (j : Nat), (joinC (l.take j)).length ≤ (joinC l).length := by
  intro l
  refine snoc_ind (P := fun l => ∀ j, (joinC (l.take j)).length ≤ (joinC l).length) (fun j => by simp [joinC]) (fun l x ih j => ?_) l
  have h1 : (joinC l).length ≤ (joinC (l ++ [x])).length := by
    rw [joinC_snoc]; split
    · rename_i h; subst h; simp [joinC]
    · simp
  by_cases hj : j ≤ l.length
  · rw [List.take_append_of_le_length hj]
    exact Nat.le_trans (ih j) h1
  · rw [List.take_of_length_le (by simp; omega)]
    exact Nat.le_refl _
theorem joinC_mem {l : List (List UInt8)} {x : List UInt8} (h : x ∈ l) : x.length ≤ (joinC l).length := by
  revert h
  refine snoc_ind (P := fun l => x ∈ l → x.length ≤ (joinC l).length) (fun h => by simp at h) (fun l y ih h => ?_) l
  rw [joinC_snoc]
  rcases List.mem_append.1 h with h | h
  · have := ih h
    rw [if_neg (List.ne_nil_of_mem h)]
    simp; omega
  · rw [List.mem_singleton] at h
    subst h
    split <;> simp
    omega
/-- Two terms of one text are one. -/
theorem shown_same {xs : List ND} (ok : Okay xs) {i j : Nat} (hi : i < xs.length) (hj : j < xs.length) (h : showL xs i = showL xs j) : i = j :=
  (show_inj ok (i + j + 1) i j [] [] (by omega) hi hj trivial trivial (by rw [h])).1
end Go.KK
