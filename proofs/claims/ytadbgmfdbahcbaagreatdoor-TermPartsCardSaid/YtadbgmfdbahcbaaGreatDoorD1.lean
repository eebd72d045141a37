/- plain: what can be derived of some terms (layer 5): the rules, the least set, the worklist. -/
import Derived.Test.YtadbgmfdbahcbaaGreatDoorM4
namespace Go.KK
open Go.RowKit
set_option linter.unusedVariables false
set_option linter.unusedSimpArgs false

theorem getD_mem {l : List Int} {k : Nat} (h : k < l.length) : l.getD k 0 ∈ l := by
  rw [List.getD, List.getElem?_eq_getElem h]; exact List.getElem_mem h
theorem nd_len {xs : List ND} (ok : Okay xs) {t : Int} (h : hasB xs t = true) : lenB (nodeF xs t).o (nodeF xs t).l.length = true := by
  have hm := ok.may _ _ (nodeF_get h)
  unfold mayB shB at hm
  simp only [Bool.and_eq_true] at hm
  exact hm.1.1.1.1.1.1.1
theorem len_of {xs : List ND} (ok : Okay xs) {t : Int} (h : hasB xs t = true) {o : Int} {k : Nat} (ho : (nodeF xs t).o = o) (hk : arN o = some k) : (nodeF xs t).l.length = k := by
  have := nd_len ok h
  rw [ho] at this
  unfold lenB at this
  rw [hk] at this
  exact eq_of_beq this
/-- One step of deriving: of these the other one. -/
inductive Rule (xs : List ND) : List Int → Int → Prop
  | comp (t : Int) (h : hasB xs t = true) (ho : (nodeF xs t).o ≠ 1) : Rule xs (nodeF xs t).l t
  | list (t x : Int) (h : hasB xs t = true) (ho : (nodeF xs t).o = 3) (hx : x ∈ (nodeF xs t).l) : Rule xs [t] x
  | opn (t x : Int) (h : hasB xs t = true) (ho : (nodeF xs t).o = 8) (hk : (nodeF xs ((nodeF xs t).l.getD 0 0)).o = 7) (hx : x ∈ ((nodeF xs t).l.drop 1).take 2) : Rule xs [t, (nodeF xs ((nodeF xs t).l.getD 0 0)).l.getD 0 0] x
  | enc (t x : Int) (h : hasB xs t = true) (ho : (nodeF xs t).o = 9) (hx : x ∈ (nodeF xs t).l.drop 1) : Rule xs [t, (nodeF xs t).l.getD 0 0] x
  | sig (t : Int) (h : hasB xs t = true) (ho : (nodeF xs t).o = 10) : Rule xs [t] ((nodeF xs t).l.getD 1 0)
  | unbl (t u : Int) (h : hasB xs t = true) (hu : hasB xs u = true) (ho : (nodeF xs t).o = 10) (hb : (nodeF xs ((nodeF xs t).l.getD 1 0)).o = 12) (uo : (nodeF xs u).o = 10) (u0 : (nodeF xs u).l.getD 0 0 = (nodeF xs t).l.getD 0 0) (u1 : (nodeF xs u).l.getD 1 0 = (nodeF xs ((nodeF xs t).l.getD 1 0)).l.getD 0 0) : Rule xs [t, (nodeF xs ((nodeF xs t).l.getD 1 0)).l.getD 1 0] u
  | blind (t : Int) (h : hasB xs t = true) (ho : (nodeF xs t).o = 12) : Rule xs [t, (nodeF xs t).l.getD 1 0] ((nodeF xs t).l.getD 0 0)
/-- A set that no step leaves. -/
def Cl (xs : List ND) (S : Int → Prop) : Prop := ∀ P c, Rule xs P c → (∀ p ∈ P, S p) → S c
/-- What can be derived of some. -/
def Der (xs : List ND) (l : List Int) (t : Int) : Prop := ∀ S, Cl xs S → (∀ x ∈ l, S x) → S t
theorem der_known {xs : List ND} {l : List Int} {t : Int} (h : t ∈ l) : Der xs l t := fun _ _ k => k t h
theorem der_cl (xs : List ND) (l : List Int) : Cl xs (Der xs l) := fun P c hr hp S hS hl => hS P c hr fun p h => hp p h S hS hl
theorem der_least {xs : List ND} {l : List Int} {S : Int → Prop} (hS : Cl xs S) (hl : ∀ x ∈ l, S x) {t : Int} (h : Der xs l t) : S t := h S hS hl
theorem der_mono {xs : List ND} {l m : List Int} (h : ∀ x ∈ l, Der xs m x) {t : Int} (ht : Der xs l t) : Der xs m t := der_least (der_cl xs m) h ht
theorem rule_has {xs : List ND} (ok : Okay xs) {P : List Int} {c : Int} (h : Rule xs P c) : (∀ p ∈ P, hasB xs p = true) ∧ hasB xs c = true := by
  have pt : ∀ {t x : Int}, hasB xs t = true → x ∈ (nodeF xs t).l → hasB xs x = true := fun ht hx => (part_lt ok ht hx).2.2
  cases h with
  | comp _ h ho => exact ⟨fun p hp => pt h hp, h⟩
  | list t x h ho hx => exact ⟨fun p hp => by rw [List.mem_singleton] at hp; subst hp; exact h, pt h hx⟩
  | opn t x h ho hk hx =>
    have hl := len_of ok h ho rfl
    have h0 := pt h (getD_mem (l := (nodeF xs t).l) (k := 0) (by omega))
    have hl0 := len_of ok h0 hk rfl
    refine ⟨fun p hp => ?_, pt h (List.mem_of_mem_drop (List.mem_of_mem_take hx))⟩
    simp only [List.mem_cons, List.not_mem_nil, or_false] at hp
    rcases hp with rfl | rfl
    · exact h
    · exact pt h0 (getD_mem (by omega))
  | enc t x h ho hx =>
    have hl := len_of ok h ho rfl
    refine ⟨fun p hp => ?_, pt h (List.mem_of_mem_drop hx)⟩
    simp only [List.mem_cons, List.not_mem_nil, or_false] at hp
    rcases hp with rfl | rfl
    · exact h
    · exact pt h (getD_mem (by omega))
  | sig t h ho =>
    have hl := len_of ok h ho rfl
    exact ⟨fun p hp => by rw [List.mem_singleton] at hp; subst hp; exact h, pt h (getD_mem (by omega))⟩
  | unbl t u h hu ho hb uo u0 u1 =>
    have hl := len_of ok h ho rfl
    have h1 := pt h (getD_mem (l := (nodeF xs t).l) (k := 1) (by omega))
    have hl1 := len_of ok h1 hb rfl
    refine ⟨fun p hp => ?_, hu⟩
    simp only [List.mem_cons, List.not_mem_nil, or_false] at hp
    rcases hp with rfl | rfl
    · exact h
    · exact pt h1 (getD_mem (by omega))
  | blind t h ho =>
    have hl := len_of ok h ho rfl
    refine ⟨fun p hp => ?_, pt h (getD_mem (by omega))⟩
    simp only [List.mem_cons, List.not_mem_nil, or_false] at hp
    rcases hp with rfl | rfl
    · exact h
    · exact pt h (getD_mem (by omega))
theorem der_has {xs : List ND} (ok : Okay xs) {l : List Int} (hl : ∀ x ∈ l, hasB xs x = true) {t : Int} (h : Der xs l t) : hasB xs t = true :=
  der_least (S := fun t => hasB xs t = true) (fun _ _ hr _ => (rule_has ok hr).2) hl h

/-! the worklist -/
def inB (I : List Bool) (t : Int) : Bool := I.getD t.toNat false
/-- Which are in, and which are still to be gone through. -/
structure SD where
  i : List Bool
  o : List Int
def add1 (s : SD) (t : Int) : SD := if inB s.i t then s else ⟨s.i.set t.toNat true, s.o ++ [t]⟩
def addL (s : SD) (l : List Int) : SD := l.foldl add1 s
/-- What a term is looked at again for: its parts, and a key that opens it. -/
def links (xs : List ND) (n : ND) : List Int :=
  n.l ++ (if n.o = 8 ∧ (nodeF xs (n.l.getD 0 0)).o = 7 then [(nodeF xs (n.l.getD 0 0)).l.getD 0 0] else if n.o = 10 ∧ (nodeF xs (n.l.getD 1 0)).o = 12 then [(nodeF xs (n.l.getD 1 0)).l.getD 1 0] else [])
def pairsT (xs : List ND) (t : Nat) : List (Int × Int) := (links xs (nodeF xs t)).map fun x => ((t : Int), x)
def pairs (xs : List ND) (k : Nat) : List (Int × Int) := (List.range k).flatMap (pairsT xs)
def useOf (ps : List (Int × Int)) (x : Int) : List Int := (ps.filter fun p => p.2 == x).map (·.1)
def uses (xs : List ND) (x : Int) : List Int := useOf (pairs xs xs.length) x
theorem useOf_mem {ps : List (Int × Int)} {x u : Int} : u ∈ useOf ps x ↔ (u, x) ∈ ps := by
  unfold useOf
  simp only [List.mem_map, List.mem_filter, beq_iff_eq]
  constructor
  · rintro ⟨⟨a, b⟩, ⟨h1, rfl⟩, rfl⟩; exact h1
  · intro h; exact ⟨(u, x), ⟨h, rfl⟩, rfl⟩
theorem pairs_mem {xs : List ND} {k : Nat} {u x : Int} : (u, x) ∈ pairs xs k ↔ 0 ≤ u ∧ u < k ∧ x ∈ links xs (nodeF xs u) := by
  unfold pairs pairsT
  simp only [List.mem_flatMap, List.mem_range, List.mem_map, Prod.mk.injEq]
  constructor
  · rintro ⟨t, ht, y, hy, rfl, rfl⟩
    exact ⟨by omega, by omega, hy⟩
  · rintro ⟨h0, h1, h2⟩
    exact ⟨u.toNat, by omega, x, by rw [show ((u.toNat : Nat) : Int) = u by omega]; exact h2, by omega, rfl⟩
theorem uses_mem {xs : List ND} {u x : Int} : u ∈ uses xs x ↔ hasB xs u = true ∧ x ∈ links xs (nodeF xs u) := by
  unfold uses
  rw [useOf_mem, pairs_mem, has_iff]
  exact ⟨fun h => ⟨⟨h.1, h.2.1⟩, h.2.2⟩, fun h => ⟨h.1.1, h.1.2, h.2⟩⟩
theorem useOf_snoc (ps : List (Int × Int)) (t y x : Int) : useOf (ps ++ [(t, y)]) x = if y = x then useOf ps x ++ [t] else useOf ps x := by
  unfold useOf
  rw [List.filter_append, List.map_append]
  by_cases h : y = x
  · subst h; simp
  · rw [if_neg h]; simp [h]
theorem pairs_succ (xs : List ND) (k : Nat) : pairs xs (k + 1) = pairs xs k ++ pairsT xs k := by
  unfold pairs; rw [List.range_succ, List.flatMap_append]; simp
def unbF (xs : List ND) (s : SD) (sk m : Int) : SD := addL s ((uses xs m).filter fun t => (nodeF xs t).o == 10 && (nodeF xs t).l.getD 0 0 == sk && (nodeF xs t).l.getD 1 0 == m)
/-- What a term is made of, as far as it comes apart. -/
def apF (xs : List ND) (s : SD) (t : Int) : SD :=
  if (nodeF xs t).o = 3 then addL s (nodeF xs t).l
  else if (nodeF xs t).o = 8 then (if (nodeF xs ((nodeF xs t).l.getD 0 0)).o = 7 ∧ inB s.i ((nodeF xs ((nodeF xs t).l.getD 0 0)).l.getD 0 0) = true then addL s (((nodeF xs t).l.drop 1).take 2) else s)
  else if (nodeF xs t).o = 9 then (if inB s.i ((nodeF xs t).l.getD 0 0) = true then addL s ((nodeF xs t).l.drop 1) else s)
  else if (nodeF xs t).o = 10 then
    (if (nodeF xs ((nodeF xs t).l.getD 1 0)).o = 12 ∧ inB (add1 s ((nodeF xs t).l.getD 1 0)).i ((nodeF xs ((nodeF xs t).l.getD 1 0)).l.getD 1 0) = true then
      unbF xs (add1 s ((nodeF xs t).l.getD 1 0)) ((nodeF xs t).l.getD 0 0) ((nodeF xs ((nodeF xs t).l.getD 1 0)).l.getD 0 0) else add1 s ((nodeF xs t).l.getD 1 0))
  else if (nodeF xs t).o = 12 then (if inB s.i ((nodeF xs t).l.getD 1 0) = true then add1 s ((nodeF xs t).l.getD 0 0) else s)
  else s
def visF (xs : List ND) (s : SD) (u : Int) : SD := if inB s.i u then apF xs s u else if (nodeF xs u).l.all (inB s.i) then add1 s u else s

/-- s' goes on from s: more is in (each of it can be derived), and all of that is still to be gone through. -/
structure Go1 (xs : List ND) (D : Int → Prop) (s s' : SD) : Prop where
  len : s'.i.length = s.i.length
  mono : ∀ t, inB s.i t = true → inB s'.i t = true
  sub : ∀ t ∈ s.o, t ∈ s'.o
  opn : ∀ t ∈ s'.o, t ∈ s.o ∨ (hasB xs t = true ∧ inB s'.i t = true)
  new : ∀ t, 0 ≤ t → inB s'.i t = true → inB s.i t = true ∨ t ∈ s'.o
  snd : ∀ t, 0 ≤ t → inB s'.i t = true → inB s.i t = true ∨ D t
section
variable {xs : List ND} {D : Int → Prop} {s s' s'' : SD}
theorem Go1.refl (xs : List ND) (D : Int → Prop) (s : SD) : Go1 xs D s s := ⟨rfl, fun _ h => h, fun _ h => h, fun _ h => .inl h, fun _ _ h => .inl h, fun _ _ h => .inl h⟩
theorem Go1.trans (h : Go1 xs D s s') (k : Go1 xs D s' s'') : Go1 xs D s s'' :=
  ⟨k.len.trans h.len, fun t ht => k.mono t (h.mono t ht), fun t ht => k.sub t (h.sub t ht),
   fun t ht => (k.opn t ht).elim (fun h1 => (h.opn t h1).imp id fun h2 => ⟨h2.1, k.mono t h2.2⟩) .inr,
   fun t h0 ht => (k.new t h0 ht).elim (fun h1 => (h.new t h0 h1).imp id (k.sub t)) .inr,
   fun t h0 ht => (k.snd t h0 ht).elim (h.snd t h0) .inr⟩
theorem inB_set {I : List Bool} {t u : Int} (ht : 0 ≤ t) (hu : 0 ≤ u) (hl : t.toNat < I.length) : inB (I.set t.toNat true) u = (decide (u = t) || inB I u) := by
  unfold inB
  rw [List.getD, List.getD, List.getElem?_set]
  by_cases h : u = t
  · subst h
    rw [if_pos rfl, if_pos hl, decide_eq_true rfl]; rfl
  · rw [if_neg (by omega), decide_eq_false h]; rfl
theorem add1_go {t : Int} (hl : s.i.length = xs.length) (h : hasB xs t = true) (hd : D t) : Go1 xs D s (add1 s t) ∧ inB (add1 s t).i t = true := by
  have h2 := has_iff.1 h
  unfold add1
  by_cases hb : inB s.i t = true
  · rw [if_pos hb]; exact ⟨.refl _ _ _, hb⟩
  · rw [if_neg hb]
    have hset : ∀ u : Int, 0 ≤ u → inB (s.i.set t.toNat true) u = (decide (u = t) || inB s.i u) := fun u hu => inB_set h2.1 hu (by omega)
    have hneg : ∀ u : Int, inB s.i u = true → inB (s.i.set t.toNat true) u = true := fun u hu => by
      by_cases h0 : 0 ≤ u
      · rw [hset u h0, hu]; simp
      · unfold inB at hu ⊢
        rw [List.getD] at hu ⊢
        rw [List.getElem?_set]
        split
        · split
          · rfl
          · omega
        · exact hu
    refine ⟨⟨by simp, hneg, fun u hu => by simp [hu], fun u hu => ?_, fun u h0 hu => ?_, fun u h0 hu => ?_⟩, by rw [hset t h2.1]; simp⟩
    · rcases List.mem_append.1 hu with hu | hu
      · exact .inl hu
      · rw [List.mem_singleton] at hu
        subst hu
        exact .inr ⟨h, by rw [hset _ h2.1]; simp⟩
    · rw [hset u h0] at hu
      by_cases e : u = t
      · exact .inr (by simp [e])
      · rw [decide_eq_false e] at hu; exact .inl hu
    · rw [hset u h0] at hu
      by_cases e : u = t
      · exact .inr (e ▸ hd)
      · rw [decide_eq_false e] at hu; exact .inl hu
theorem addL_go : ∀ {l : List Int} {s : SD}, s.i.length = xs.length → (∀ t ∈ l, hasB xs t = true ∧ D t) → Go1 xs D s (addL s l) ∧ ∀ t ∈ l, inB (addL s l).i t = true
  | [], s, _, _ => ⟨.refl _ _ _, fun t h => by simp at h⟩
  | x :: l, s, hl, h => by
    obtain ⟨a1, a2⟩ := add1_go (xs := xs) (D := D) hl (h x (by simp)).1 (h x (by simp)).2
    obtain ⟨b1, b2⟩ := addL_go (l := l) (s := add1 s x) (a1.len.trans hl) fun t ht => h t (by simp [ht])
    refine ⟨a1.trans b1, fun t ht => ?_⟩
    rcases List.mem_cons.1 ht with rfl | ht
    · exact b1.mono _ a2
    · exact b2 t ht
/-- All that s has can be derived. -/
def Snd (D : Int → Prop) (s : SD) : Prop := ∀ t, 0 ≤ t → inB s.i t = true → D t
theorem Go1.sound (h : Go1 xs D s s') (k : Snd D s) : Snd D s' := fun t h0 ht => (h.snd t h0 ht).elim (k t h0) id
theorem has_part (ok : Okay xs) {t x : Int} (h : hasB xs t = true) (hx : x ∈ (nodeF xs t).l) : hasB xs x = true := (part_lt ok h hx).2.2
theorem has0 {t : Int} (h : hasB xs t = true) : 0 ≤ t := (has_iff.1 h).1
theorem ap_go (ok : Okay xs) (hD : Cl xs D) {t : Int} (hl : s.i.length = xs.length) (hs : Snd D s) (h : hasB xs t = true) (hd : D t) : Go1 xs D s (apF xs s t) := by
  unfold apF
  split
  · rename_i ho
    exact (addL_go hl fun x hx => ⟨has_part ok h hx, hD _ _ (.list t x h ho hx) fun p hp => by rw [List.mem_singleton] at hp; subst hp; exact hd⟩).1
  split
  · rename_i ho
    split
    · rename_i hk
      have hl4 := len_of ok h ho rfl
      have h0 := has_part ok h (getD_mem (l := (nodeF xs t).l) (k := 0) (by omega))
      have hl1 := len_of ok h0 hk.1 rfl
      have hk0 := hs _ (has0 (has_part ok h0 (getD_mem (by omega)))) hk.2
      exact (addL_go hl fun x hx => ⟨has_part ok h (List.mem_of_mem_drop (List.mem_of_mem_take hx)), hD _ _ (.opn t x h ho hk.1 hx) fun p hp => by
        simp only [List.mem_cons, List.not_mem_nil, or_false] at hp
        rcases hp with rfl | rfl
        · exact hd
        · exact hk0⟩).1
    · exact .refl _ _ _
  split
  · rename_i ho
    split
    · rename_i hk
      have hl4 := len_of ok h ho rfl
      have hk0 := hs _ (has0 (has_part ok h (getD_mem (l := (nodeF xs t).l) (k := 0) (by omega)))) hk
      exact (addL_go hl fun x hx => ⟨has_part ok h (List.mem_of_mem_drop hx), hD _ _ (.enc t x h ho hx) fun p hp => by
        simp only [List.mem_cons, List.not_mem_nil, or_false] at hp
        rcases hp with rfl | rfl
        · exact hd
        · exact hk0⟩).1
    · exact .refl _ _ _
  split
  · rename_i ho
    have hl2 := len_of ok h ho rfl
    have h1 := has_part ok h (getD_mem (l := (nodeF xs t).l) (k := 1) (by omega))
    have g1 := add1_go (D := D) hl h1 (hD _ _ (.sig t h ho) fun p hp => by rw [List.mem_singleton] at hp; subst hp; exact hd)
    split
    · rename_i hk
      have hlb := len_of ok h1 hk.1 rfl
      have hk0 := g1.1.sound hs _ (has0 (has_part ok h1 (getD_mem (by omega)))) hk.2
      refine g1.1.trans (addL_go (g1.1.len.trans hl) fun u hu => ?_).1
      simp only [List.mem_filter, Bool.and_eq_true, beq_iff_eq] at hu
      obtain ⟨hu, ⟨uo, u0⟩, u1⟩ := hu
      have hu' := (uses_mem.1 hu).1
      exact ⟨hu', hD _ _ (.unbl t u h hu' ho hk.1 uo u0 u1) fun p hp => by
        simp only [List.mem_cons, List.not_mem_nil, or_false] at hp
        rcases hp with rfl | rfl
        · exact hd
        · exact hk0⟩
    · exact g1.1
  split
  · rename_i ho
    split
    · rename_i hk
      have hl2 := len_of ok h ho rfl
      have hk0 := hs _ (has0 (has_part ok h (getD_mem (l := (nodeF xs t).l) (k := 1) (by omega)))) hk
      exact (add1_go hl (has_part ok h (getD_mem (by omega))) (hD _ _ (.blind t h ho) fun p hp => by
        simp only [List.mem_cons, List.not_mem_nil, or_false] at hp
        rcases hp with rfl | rfl
        · exact hd
        · exact hk0)).1
    · exact .refl _ _ _
  · exact .refl _ _ _
theorem vis_go (ok : Okay xs) (hD : Cl xs D) {u : Int} (hl : s.i.length = xs.length) (hs : Snd D s) (h : hasB xs u = true) (ho : (nodeF xs u).o ≠ 1) : Go1 xs D s (visF xs s u) := by
  unfold visF
  split
  · rename_i hb
    exact ap_go ok hD hl hs h (hs u (has0 h) hb)
  · split
    · rename_i ha
      exact (add1_go hl h (hD _ _ (.comp u h ho) fun p hp => hs p (has0 (has_part ok h hp)) (List.all_eq_true.1 ha p hp))).1
    · exact .refl _ _ _
theorem uses_ne (ok : Okay xs) {u x : Int} (h : u ∈ uses xs x) : hasB xs u = true ∧ (nodeF xs u).o ≠ 1 := by
  obtain ⟨h1, h2⟩ := uses_mem.1 h
  refine ⟨h1, fun ho => ?_⟩
  have hl := len_of ok h1 ho rfl
  unfold links at h2
  rw [List.eq_nil_of_length_eq_zero hl, if_neg (fun e => by rw [ho] at e; exact absurd e.1 (by decide)), if_neg (fun e => by rw [ho] at e; exact absurd e.1 (by decide))] at h2
  simp at h2
theorem vis_all (ok : Okay xs) (hD : Cl xs D) : ∀ {l : List Int} {s : SD}, s.i.length = xs.length → Snd D s → (∀ u ∈ l, hasB xs u = true ∧ (nodeF xs u).o ≠ 1) → Go1 xs D s (l.foldl (visF xs) s)
  | [], s, _, _, _ => .refl _ _ _
  | u :: l, s, hl, hs, h => by
    have a := vis_go ok hD hl hs (h u (by simp)).1 (h u (by simp)).2
    exact a.trans (vis_all ok hD (a.len.trans hl) (a.sound hs) fun v hv => h v (by simp [hv]))
end
/-- A step that takes apart: it is done when its term is gone through, or looked at again. -/
theorem rule_ap {xs : List ND} (ok : Okay xs) {P : List Int} {c : Int} (h : Rule xs P c) :
    (P = (nodeF xs c).l ∧ hasB xs c = true ∧ (nodeF xs c).o ≠ 1) ∨
    ∃ t, t ∈ P ∧ (∀ p ∈ P, p = t ∨ t ∈ uses xs p) ∧ ∀ s : SD, s.i.length = xs.length → (∀ p ∈ P, inB s.i p = true) → inB (apF xs s t).i c = true := by
  have hh := rule_has ok h
  have al : ∀ {l : List Int} {s : SD}, s.i.length = xs.length → (∀ t ∈ l, hasB xs t = true) → Go1 xs (fun _ => True) s (addL s l) ∧ ∀ t ∈ l, inB (addL s l).i t = true := fun hl h => addL_go hl fun t ht => ⟨h t ht, trivial⟩
  cases h with
  | comp _ h ho => exact .inl ⟨rfl, h, ho⟩
  | list t x h ho hx =>
    refine .inr ⟨t, by simp, fun p hp => .inl (by simpa using hp), fun s hl hs => ?_⟩
    unfold apF
    rw [if_pos ho]
    exact (al hl fun y hy => has_part ok h hy).2 c hx
  | opn t x h ho hk hx =>
    have hl4 := len_of ok h ho rfl
    refine .inr ⟨t, by simp, fun p hp => ?_, fun s hl hs => ?_⟩
    · simp only [List.mem_cons, List.not_mem_nil, or_false] at hp
      refine hp.imp id fun e => uses_mem.2 ⟨h, ?_⟩
      unfold links
      rw [if_pos ⟨ho, hk⟩, e]; simp
    · unfold apF
      rw [if_neg (by rw [ho]; decide), if_pos ho, if_pos ⟨hk, hs _ (by simp)⟩]
      exact (al hl fun y hy => has_part ok h (List.mem_of_mem_drop (List.mem_of_mem_take hy))).2 c hx
  | enc t x h ho hx =>
    have hl4 := len_of ok h ho rfl
    refine .inr ⟨t, by simp, fun p hp => ?_, fun s hl hs => ?_⟩
    · simp only [List.mem_cons, List.not_mem_nil, or_false] at hp
      refine hp.imp id fun e => uses_mem.2 ⟨h, ?_⟩
      unfold links
      rw [e]
      exact List.mem_append_left _ (getD_mem (by omega))
    · unfold apF
      rw [if_neg (by rw [ho]; decide), if_neg (by rw [ho]; decide), if_pos ho, if_pos (hs _ (by simp))]
      exact (al hl fun y hy => has_part ok h (List.mem_of_mem_drop hy)).2 c hx
  | sig t h ho =>
    have hl2 := len_of ok h ho rfl
    have h1 := has_part ok h (getD_mem (l := (nodeF xs t).l) (k := 1) (by omega))
    refine .inr ⟨t, by simp, fun p hp => .inl (by simpa using hp), fun s hl hs => ?_⟩
    obtain ⟨g1, g2⟩ := add1_go (s := s) (D := fun _ => True) hl h1 trivial
    unfold apF
    rw [if_neg (by rw [ho]; decide), if_neg (by rw [ho]; decide), if_neg (by rw [ho]; decide), if_pos ho]
    split
    · exact (al (g1.len.trans hl) fun u hu => (uses_mem.1 (List.mem_filter.1 hu).1).1).1.mono _ g2
    · exact g2
  | unbl t u h hu ho hb uo u0 u1 =>
    have hl2 := len_of ok h ho rfl
    have hlu := len_of ok hu uo rfl
    have h1 := has_part ok h (getD_mem (l := (nodeF xs t).l) (k := 1) (by omega))
    refine .inr ⟨t, by simp, fun p hp => ?_, fun s hl hs => ?_⟩
    · simp only [List.mem_cons, List.not_mem_nil, or_false] at hp
      refine hp.imp id fun e => uses_mem.2 ⟨h, ?_⟩
      unfold links
      rw [if_neg (fun e => by rw [ho] at e; exact absurd e.1 (by decide)), if_pos ⟨ho, hb⟩, e]; simp
    · obtain ⟨g1, g2⟩ := add1_go (s := s) (D := fun _ => True) hl h1 trivial
      unfold apF
      rw [if_neg (by rw [ho]; decide), if_neg (by rw [ho]; decide), if_neg (by rw [ho]; decide), if_pos ho, if_pos ⟨hb, g1.mono _ (hs _ (by simp))⟩]
      refine (al (g1.len.trans hl) fun v hv => (uses_mem.1 (List.mem_filter.1 hv).1).1).2 c (List.mem_filter.2 ⟨uses_mem.2 ⟨hu, ?_⟩, ?_⟩)
      · unfold links
        rw [← u1]
        exact List.mem_append_left _ (getD_mem (by omega))
      · rw [uo, u0, u1]; simp
  | blind t h ho =>
    have hl2 := len_of ok h ho rfl
    refine .inr ⟨t, by simp, fun p hp => ?_, fun s hl hs => ?_⟩
    · simp only [List.mem_cons, List.not_mem_nil, or_false] at hp
      refine hp.imp id fun e => uses_mem.2 ⟨h, ?_⟩
      unfold links
      rw [e]
      exact List.mem_append_left _ (getD_mem (by omega))
    · unfold apF
      rw [if_neg (by rw [ho]; decide), if_neg (by rw [ho]; decide), if_neg (by rw [ho]; decide), if_neg (by rw [ho]; decide), if_pos ho, if_pos (hs _ (by simp))]
      exact (add1_go (D := fun _ => True) hl (has_part ok h (getD_mem (by omega))) trivial).2
/-- What holds whenever the next term is taken. -/
structure Inv (xs : List ND) (known : List Int) (s : SD) : Prop where
  len : s.i.length = xs.length
  o : ∀ t ∈ s.o, hasB xs t = true ∧ inB s.i t = true
  snd : Snd (Der xs known) s
  kn : ∀ t ∈ known, inB s.i t = true
  clo : ∀ P c, Rule xs P c → (∀ p ∈ P, inB s.i p = true ∧ p ∉ s.o) → inB s.i c = true
theorem fold_hit {xs : List ND} (ok : Okay xs) {D : Int → Prop} (hD : Cl xs D) {u c : Int} : ∀ {l : List Int} {s : SD}, s.i.length = xs.length → Snd D s → (∀ u ∈ l, hasB xs u = true ∧ (nodeF xs u).o ≠ 1) → u ∈ l →
    (∀ s' : SD, s'.i.length = xs.length → (∀ t, inB s.i t = true → inB s'.i t = true) → inB (visF xs s' u).i c = true) → inB (l.foldl (visF xs) s).i c = true
  | [], s, _, _, _, h, _ => by simp at h
  | v :: l, s, hl, hs, ha, h, k => by
    have a := vis_go ok hD hl hs (ha v (by simp)).1 (ha v (by simp)).2
    have b := vis_all ok hD (l := l) (s := visF xs s v) (a.len.trans hl) (a.sound hs) fun w hw => ha w (by simp [hw])
    rcases List.mem_cons.1 h with rfl | h
    · exact b.mono _ (k s hl fun _ h => h)
    · exact fold_hit ok hD (l := l) (s := visF xs s v) (a.len.trans hl) (a.sound hs) (fun w hw => ha w (by simp [hw])) h fun s' h1 h2 => k s' h1 fun t ht => h2 t (a.mono t ht)
theorem Inv.pop {xs : List ND} (ok : Okay xs) {known : List Int} {I : List Bool} {O : List Int} {t : Int} (h : Inv xs known ⟨I, O ++ [t]⟩) : Inv xs known ((uses xs t).foldl (visF xs) (apF xs ⟨I, O⟩ t)) := by
  have hD := der_cl xs known
  obtain ⟨ht, hti⟩ := h.o t (by simp)
  have hs0 : Snd (Der xs known) ⟨I, O⟩ := h.snd
  have hl0 : (SD.mk I O).i.length = xs.length := h.len
  have a := ap_go ok hD hl0 hs0 ht (h.snd t (has0 ht) hti)
  have hu : ∀ u ∈ uses xs t, hasB xs u = true ∧ (nodeF xs u).o ≠ 1 := fun u hu => uses_ne ok hu
  have b := vis_all ok hD (l := uses xs t) (a.len.trans hl0) (a.sound hs0) hu
  have g := a.trans b
  generalize hs2 : (uses xs t).foldl (visF xs) (apF xs ⟨I, O⟩ t) = s2 at *
  refine ⟨g.len.trans hl0, fun x hx => ?_, g.sound hs0, fun x hx => g.mono x (h.kn x hx), fun P c hr hp => ?_⟩
  · rcases g.opn x hx with h1 | h1
    · exact ⟨(h.o x (by simp [h1])).1, g.mono x (h.o x (by simp [h1])).2⟩
    · exact h1
  · have hP := (rule_has ok hr).1
    have hin : ∀ p ∈ P, inB I p = true := fun p hp' => (g.new p (has0 (hP p hp')) (hp p hp').1).elim id fun h1 => absurd h1 (hp p hp').2
    by_cases htp : t ∈ P
    · rcases rule_ap ok hr with ⟨rfl, hc, ho⟩ | ⟨t', ht', hus, hap⟩
      · have hcu : c ∈ uses xs t := uses_mem.2 ⟨hc, by unfold links; exact List.mem_append_left _ htp⟩
        rw [← hs2]
        refine fold_hit ok hD (a.len.trans hl0) (a.sound hs0) hu hcu fun s' h1 h2 => ?_
        unfold visF
        split
        · rename_i hb
          have := ap_go (D := fun _ => True) ok (fun _ _ _ _ => trivial) h1 (fun _ _ _ => trivial) hc trivial
          exact this.mono _ hb
        · rw [if_pos (List.all_eq_true.2 fun p hp' => h2 p (a.mono p (hin p hp')))]
          exact (add1_go (D := fun _ => True) h1 hc trivial).2
      · rcases hus t htp with e | e
        · rw [← e] at hap
          exact b.mono _ (hap ⟨I, O⟩ hl0 hin)
        · rw [← hs2]
          refine fold_hit ok hD (a.len.trans hl0) (a.sound hs0) hu e fun s' h1 h2 => ?_
          unfold visF
          rw [if_pos (h2 t' (a.mono t' (hin t' ht')))]
          exact hap s' h1 fun p hp' => h2 p (a.mono p (hin p hp'))
    · exact g.mono c (h.clo P c hr fun p hp' => ⟨hin p hp', fun hm => by
        rcases List.mem_append.1 hm with hm | hm
        · exact (hp p hp').2 (g.sub p hm)
        · rw [List.mem_singleton] at hm; subst hm; exact htp hp'⟩)
theorem Inv.done {xs : List ND} (ok : Okay xs) {known : List Int} {I : List Bool} (h : Inv xs known ⟨I, []⟩) (hk : ∀ x ∈ known, hasB xs x = true) {t : Int} (ht : hasB xs t = true) : inB I t = true ↔ Der xs known t :=
  ⟨fun hi => h.snd t (has0 ht) hi, fun hd => (der_least (S := fun t => hasB xs t = true → inB I t = true) (fun P c hr hp _ => h.clo P c hr fun p hp' => ⟨hp p hp' ((rule_has ok hr).1 p hp'), by simp⟩) (fun x hx _ => h.kn x hx) hd) ht⟩
/-- The terms that stand alone and are no atoms. -/
def bases (xs : List ND) (k : Nat) : List Int := ((List.range k).filter fun (t : Nat) => (nodeF xs (t : Int)).o != 1 && (nodeF xs (t : Int)).l.isEmpty).map fun (t : Nat) => (t : Int)
def startS (xs : List ND) (known : List Int) : SD := addL (addL ⟨List.replicate xs.length false, []⟩ (bases xs xs.length)) known
theorem inB_rep (n : Nat) (t : Int) : inB (List.replicate n false) t = false := by
  unfold inB
  rw [List.getD, List.getElem?_replicate]
  split <;> rfl
theorem inv_start {xs : List ND} (ok : Okay xs) {known : List Int} (hk : ∀ x ∈ known, hasB xs x = true) : Inv xs known (startS xs known) := by
  have hD := der_cl xs known
  have hb : ∀ t ∈ bases xs xs.length, hasB xs t = true ∧ Der xs known t := by
    intro t ht
    unfold bases at ht
    simp only [List.mem_map, List.mem_filter, List.mem_range, Bool.and_eq_true, bne_iff_ne, List.isEmpty_iff] at ht
    obtain ⟨j, ⟨hj, ho, he⟩, rfl⟩ := ht
    have hh : hasB xs (j : Int) = true := has_iff.2 ⟨by omega, by omega⟩
    exact ⟨hh, hD _ _ (.comp _ hh ho) fun p hp => by rw [he] at hp; simp at hp⟩
  have hl0 : (SD.mk (List.replicate xs.length false) []).i.length = xs.length := by simp
  obtain ⟨a1, a2⟩ := addL_go (D := Der xs known) hl0 hb
  obtain ⟨b1, b2⟩ := addL_go (D := Der xs known) (l := known) (a1.len.trans hl0) fun t ht => ⟨hk t ht, der_known ht⟩
  have g := a1.trans b1
  change Go1 xs (Der xs known) _ (startS xs known) at g
  refine ⟨g.len.trans hl0, fun t ht => ?_, g.sound fun t _ ht => ?_, b2, fun P c hr hp => ?_⟩
  · rcases g.opn t ht with h | h
    · simp at h
    · exact h
  · change inB (List.replicate xs.length false) t = true at ht
    rw [inB_rep] at ht; cases ht
  · have hP := (rule_has ok hr).1
    have hnil : P = [] := by
      rcases P with _ | ⟨p, P⟩
      · rfl
      · have h1 := hp p (by simp)
        rcases g.new p (has0 (hP p (by simp))) h1.1 with h2 | h2
        · change inB (List.replicate xs.length false) p = true at h2
          rw [inB_rep] at h2; cases h2
        · exact absurd h2 h1.2
    subst hnil
    rcases rule_ap ok hr with ⟨h1, h2, h3⟩ | ⟨t, ht, _⟩
    · refine b1.mono c (a2 c ?_)
      unfold bases
      simp only [List.mem_map, List.mem_filter, List.mem_range, Bool.and_eq_true, bne_iff_ne, List.isEmpty_iff]
      have h0 := has_iff.1 h2
      refine ⟨c.toNat, ⟨by omega, ?_, ?_⟩, by omega⟩ <;> rw [show ((c.toNat : Nat) : Int) = c by omega]
      · exact h3
      · exact h1.symm
    · simp at ht
/-- How much is left to do. -/
def mu (s : SD) : Nat := 2 * s.i.count false + s.o.length
theorem mu_add1 {xs : List ND} {s : SD} {t : Int} (hl : s.i.length = xs.length) (h : hasB xs t = true) : mu (add1 s t) ≤ mu s := by
  unfold add1
  split
  · exact Nat.le_refl _
  · rename_i hb
    have h2 := has_iff.1 h
    have hlt : t.toNat < s.i.length := by omega
    have hf : s.i[t.toNat] = false := by
      unfold inB at hb
      rw [List.getD, List.getElem?_eq_getElem hlt] at hb
      simpa using hb
    have hc : (s.i.set t.toNat true).count false + 1 = s.i.count false := by
      rw [List.count_set (h := hlt), hf]
      have := List.count_pos_iff.2 (hf ▸ List.getElem_mem hlt)
      simp; omega
    unfold mu
    simp only [List.length_append, List.length_cons, List.length_nil]
    omega
theorem mu_addL {xs : List ND} : ∀ {l : List Int} {s : SD}, s.i.length = xs.length → (∀ t ∈ l, hasB xs t = true) → mu (addL s l) ≤ mu s
  | [], _, _, _ => Nat.le_refl _
  | t :: l, s, hl, h => Nat.le_trans (mu_addL (l := l) (s := add1 s t) ((add1_go (D := fun _ => True) hl (h t (by simp)) trivial).1.len.trans hl) fun u hu => h u (by simp [hu])) (mu_add1 hl (h t (by simp)))
theorem mu_ap {xs : List ND} (ok : Okay xs) {s : SD} {t : Int} (hl : s.i.length = xs.length) (h : hasB xs t = true) : mu (apF xs s t) ≤ mu s := by
  unfold apF
  split
  · exact mu_addL hl fun u hu => has_part ok h hu
  split
  · split
    · exact mu_addL hl fun u hu => has_part ok h (List.mem_of_mem_drop (List.mem_of_mem_take hu))
    · exact Nat.le_refl _
  split
  · split
    · exact mu_addL hl fun u hu => has_part ok h (List.mem_of_mem_drop hu)
    · exact Nat.le_refl _
  split
  · rename_i ho
    have hl2 := len_of ok h ho rfl
    have h1 := has_part ok h (getD_mem (l := (nodeF xs t).l) (k := 1) (by omega))
    have g := (add1_go (s := s) (D := fun _ => True) hl h1 trivial).1
    split
    · exact Nat.le_trans (mu_addL (g.len.trans hl) fun u hu => (uses_mem.1 (List.mem_filter.1 hu).1).1) (mu_add1 hl h1)
    · exact mu_add1 hl h1
  split
  · rename_i ho
    have hl2 := len_of ok h ho rfl
    split
    · exact mu_add1 hl (has_part ok h (getD_mem (by omega)))
    · exact Nat.le_refl _
  · exact Nat.le_refl _
theorem mu_vis {xs : List ND} (ok : Okay xs) {s : SD} {u : Int} (hl : s.i.length = xs.length) (h : hasB xs u = true) : mu (visF xs s u) ≤ mu s ∧ (visF xs s u).i.length = xs.length := by
  unfold visF
  split
  · exact ⟨mu_ap ok hl h, (ap_go (D := fun _ => True) ok (fun _ _ _ _ => trivial) hl (fun _ _ _ => trivial) h trivial).len.trans hl⟩
  · split
    · exact ⟨mu_add1 hl h, (add1_go (D := fun _ => True) hl h trivial).1.len.trans hl⟩
    · exact ⟨Nat.le_refl _, hl⟩
theorem mu_pop {I : List Bool} {O : List Int} {t : Int} : mu ⟨I, O⟩ < mu ⟨I, O ++ [t]⟩ := by
  unfold mu
  simp
end Go.KK
