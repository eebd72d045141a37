import Derived.Test.YtgnbiolckhdfeaaDoorZ10
import Derived.Test.YtgnbiolckhdfeaaDoorZ02
import Derived.Test.YtgnbiolckhdfeaaDoorZ04
import Derived.Test.YtgnbiolckhdfeaaDoorZ09
/- plain: what terms look like (Pattern), once more the same, and under other names. -/
namespace Go.KK
open Go.RowKit
set_option linter.unusedVariables false
set_option linter.unusedSimpArgs false

/-- The name of a kind, in a pattern. -/
def nameP (o : Int) : List UInt8 := if o = 1 then [97, 116, 111, 109] else nameB o
/-- A term's number, and the numbers behind it. -/
def numN (a : List Int) (t : Int) : Nat := if t ∈ a then a.idxOf t else a.length
def numA (a : List Int) (t : Int) : List Int := if t ∈ a then a else a ++ [t]
/-- One part more. -/
def jn (g : List Int → Int → List UInt8 × List Int) (s : List UInt8 × List Int × Bool) (x : Int) : List UInt8 × List Int × Bool := (s.1 ++ (if s.2.2 then [44] else []) ++ (g s.2.1 x).1, (g s.2.1 x).2, true)
def parF (g : List Int → Int → List UInt8 × List Int) (a : List Int) (l : List Int) : List UInt8 × List Int := (40 :: ((l.foldl (jn g) ([], a, false)).1 ++ [41]), (l.foldl (jn g) ([], a, false)).2.1)
/-- Which parts are shown of a term that is numbered. -/
def subO (xs : List ND) (I : Int → Bool) (n : ND) : Option (List Int) :=
  if n.o = 10 then some [n.l.getD 1 0]
  else if n.o = 9 then (if I (n.l.getD 0 0) then some (n.l.drop 1) else none)
  else if n.o = 8 then (if (nodeF xs (n.l.getD 0 0)).o = 7 ∧ I ((nodeF xs (n.l.getD 0 0)).l.getD 0 0) = true then some ((n.l.drop 1).take 2) else none)
  else none
def patF (xs : List ND) (I : Int → Bool) : Nat → List Int → Int → List UInt8 × List Int
  | 0, a, _ => ([], a)
  | f + 1, a, t =>
    if (nodeF xs t).o = 2 then (34 :: ((nodeF xs t).s.data.toList ++ [34]), a)
    else if (nodeF xs t).o = 3 ∨ ((nodeF xs t).o ≠ 1 ∧ (nodeF xs t).l.all I = true) then
      (nameP (nodeF xs t).o ++ (parF (patF xs I f) a (nodeF xs t).l).1, (parF (patF xs I f) a (nodeF xs t).l).2)
    else match subO xs I (nodeF xs t) with
      | none => (nameP (nodeF xs t).o ++ 35 :: Lib.itoa (numN a t), numA a t)
      | some l => (nameP (nodeF xs t).o ++ 35 :: (Lib.itoa (numN a t) ++ (parF (patF xs I f) (numA a t) l).1), (parF (patF xs I f) (numA a t) l).2)
/-- A term's pattern. -/
def patT (xs : List ND) (I : Int → Bool) (a : List Int) (t : Int) : List UInt8 × List Int := patF xs I (t.toNat + 1) a t
def patsF (xs : List ND) (I : Int → Bool) : List Int → List Int → List (List UInt8) × List Int
  | a, [] => ([], a)
  | a, t :: l => ((patT xs I a t).1 :: (patsF xs I (patT xs I a t).2 l).1, (patsF xs I (patT xs I a t).2 l).2)
theorem sub_mem {xs : List ND} (ok : Okay xs) {I : Int → Bool} {t : Int} (h : hasB xs t = true) {l : List Int} (e : subO xs I (nodeF xs t) = some l) : ∀ x ∈ l, x ∈ (nodeF xs t).l := by
  unfold subO at e
  split at e
  · rename_i ho
    have hl := len_of ok h ho rfl
    injection e with e
    subst e
    intro x hx
    rw [List.mem_singleton] at hx
    subst hx
    exact getD_mem (by omega)
  · split at e
    · split at e
      · injection e with e
        subst e
        exact fun x hx => List.mem_of_mem_drop hx
      · cases e
    · split at e
      · split at e
        · injection e with e
          subst e
          exact fun x hx => List.mem_of_mem_drop (List.mem_of_mem_take hx)
        · cases e
      · cases e
theorem jn_congr {g g' : List Int → Int → List UInt8 × List Int} : ∀ {l : List Int} (s : List UInt8 × List Int × Bool), (∀ x ∈ l, ∀ a, g a x = g' a x) → l.foldl (jn g) s = l.foldl (jn g') s
  | [], s, _ => rfl
  | x :: l, s, h => by
    rw [List.foldl_cons, List.foldl_cons, show jn g s x = jn g' s x by unfold jn; rw [h x (by simp)]]
    exact jn_congr _ fun y hy => h y (by simp [hy])
theorem parF_congr {g g' : List Int → Int → List UInt8 × List Int} {l : List Int} (a : List Int) (h : ∀ x ∈ l, ∀ a, g a x = g' a x) : parF g a l = parF g' a l := by unfold parF; rw [jn_congr _ h]
/-- More fuel changes nothing. -/
theorem pat_fuel {xs : List ND} (ok : Okay xs) (I : Int → Bool) : ∀ (N : Nat) (t : Int), t.toNat < N → hasB xs t = true → ∀ f, t.toNat < f → ∀ a, patF xs I f a t = patT xs I a t := by
  intro N
  induction N with
  | zero => intro t h; omega
  | succ N ih =>
    intro t hN ht f hf a
    obtain ⟨f, rfl⟩ : ∃ k, f = k + 1 := ⟨f - 1, by omega⟩
    have sub : ∀ x ∈ (nodeF xs t).l, ∀ a, patF xs I f a x = patF xs I t.toNat a x := fun x hx a => by
      have hp := part_lt ok ht hx
      rw [ih x (by omega) hp.2.2 f (by omega), ih x (by omega) hp.2.2 t.toNat (by omega)]
    unfold patT
    rw [patF, patF]
    split
    · rfl
    · split
      · rw [parF_congr a sub]
      · rcases hs : subO xs I (nodeF xs t) with _ | l
        · rfl
        · simp only
          rw [parF_congr _ fun x hx => sub x (sub_mem ok ht hs x hx)]
/-- A pattern in words of its parts' patterns. -/
theorem pat_eq {xs : List ND} (ok : Okay xs) (I : Int → Bool) {t : Int} (ht : hasB xs t = true) (a : List Int) : patT xs I a t =
    if (nodeF xs t).o = 2 then (34 :: ((nodeF xs t).s.data.toList ++ [34]), a)
    else if (nodeF xs t).o = 3 ∨ ((nodeF xs t).o ≠ 1 ∧ (nodeF xs t).l.all I = true) then
      (nameP (nodeF xs t).o ++ (parF (patT xs I) a (nodeF xs t).l).1, (parF (patT xs I) a (nodeF xs t).l).2)
    else match subO xs I (nodeF xs t) with
      | none => (nameP (nodeF xs t).o ++ 35 :: Lib.itoa (numN a t), numA a t)
      | some l => (nameP (nodeF xs t).o ++ 35 :: (Lib.itoa (numN a t) ++ (parF (patT xs I) (numA a t) l).1), (parF (patT xs I) (numA a t) l).2) := by
  have sub : ∀ x ∈ (nodeF xs t).l, ∀ a, patF xs I t.toNat a x = patT xs I a x := fun x hx a => by
    have hp := part_lt ok ht hx
    exact pat_fuel ok I t.toNat x (by omega) hp.2.2 t.toNat (by omega) a
  unfold patT at sub ⊢
  rw [patF]
  split
  · rfl
  · split
    · rw [parF_congr a sub]
    · rcases hs : subO xs I (nodeF xs t) with _ | l
      · rfl
      · simp only
        rw [parF_congr _ fun x hx => sub x (sub_mem ok ht hs x hx)]
/-- The numbers only grow, and with them the same is told again. -/
def Again (g : List Int → Int → List UInt8 × List Int) (x : Int) : Prop := ∀ a, (∃ m, (g a x).2 = a ++ m) ∧ ∀ r, g ((g a x).2 ++ r) x = ((g a x).1, (g a x).2 ++ r)
theorem num_again (a r : List Int) (t : Int) : (∃ m, numA a t = a ++ m) ∧ numN (numA a t ++ r) t = numN a t ∧ numA (numA a t ++ r) t = numA a t ++ r := by
  unfold numA numN
  by_cases h : t ∈ a
  · rw [if_pos h, if_pos h, if_pos (by simp [h]), if_pos (by simp [h])]
    refine ⟨⟨[], by simp⟩, ?_, rfl⟩
    rw [List.idxOf_append, if_pos h]
  · rw [if_neg h, if_neg h, if_pos (by simp), if_pos (by simp)]
    refine ⟨⟨[t], rfl⟩, ?_, rfl⟩
    rw [List.idxOf_append, if_pos (by simp), List.idxOf_append, if_neg h]
    simp
theorem jn_again {g : List Int → Int → List UInt8 × List Int} : ∀ {l : List Int} (s : List UInt8 × List Int × Bool), (∀ x ∈ l, Again g x) →
    (∃ m, (l.foldl (jn g) s).2.1 = s.2.1 ++ m) ∧ ∀ r, l.foldl (jn g) (s.1, (l.foldl (jn g) s).2.1 ++ r, s.2.2) = ((l.foldl (jn g) s).1, (l.foldl (jn g) s).2.1 ++ r, (l.foldl (jn g) s).2.2)
  | [], s, _ => ⟨⟨[], by simp⟩, fun r => rfl⟩
  | x :: l, s, h => by
    have hx := h x (by simp) s.2.1
    obtain ⟨⟨m, hm⟩, ha⟩ := jn_again (l := l) (jn g s x) fun y hy => h y (by simp [hy])
    obtain ⟨⟨m1, hm1⟩, ha1⟩ := hx
    have e1 : (jn g s x).2.1 = (g s.2.1 x).2 := rfl
    refine ⟨⟨m1 ++ m, ?_⟩, fun r => ?_⟩
    · rw [List.foldl_cons, hm, e1, hm1, List.append_assoc]
    · rw [List.foldl_cons, List.foldl_cons]
      have e2 : jn g (s.1, (l.foldl (jn g) (jn g s x)).2.1 ++ r, s.2.2) x = ((jn g s x).1, (l.foldl (jn g) (jn g s x)).2.1 ++ r, (jn g s x).2.2) := by
        unfold jn
        simp only
        change (s.1 ++ (if s.2.2 = true then [44] else []) ++ (g ((l.foldl (jn g) (jn g s x)).2.1 ++ r) x).1, (g ((l.foldl (jn g) (jn g s x)).2.1 ++ r) x).2, true) = (s.1 ++ (if s.2.2 = true then [44] else []) ++ (g s.2.1 x).1, (l.foldl (jn g) (jn g s x)).2.1 ++ r, true)
        rw [hm, e1, List.append_assoc (g s.2.1 x).2 m r, ha1]
      rw [e2]
      exact ha r
theorem par_again {g : List Int → Int → List UInt8 × List Int} {l : List Int} (h : ∀ x ∈ l, Again g x) (a : List Int) : (∃ m, (parF g a l).2 = a ++ m) ∧ ∀ r, parF g ((parF g a l).2 ++ r) l = ((parF g a l).1, (parF g a l).2 ++ r) := by
  obtain ⟨h1, h2⟩ := jn_again (g := g) (l := l) ([], a, false) h
  refine ⟨h1, fun r => ?_⟩
  unfold parF
  simp only
  have := h2 r
  simp only at this
  rw [this]
theorem pat_again {xs : List ND} (ok : Okay xs) (I : Int → Bool) : ∀ (N : Nat) (t : Int), t.toNat < N → hasB xs t = true → Again (patT xs I) t := by
  intro N
  induction N with
  | zero => intro t h; omega
  | succ N ih =>
    intro t hN ht a
    have sub : ∀ x ∈ (nodeF xs t).l, Again (patT xs I) x := fun x hx => by
      have hp := part_lt ok ht hx
      exact ih x (by omega) hp.2.2
    have E := fun a => pat_eq ok I ht a
    by_cases h2 : (nodeF xs t).o = 2
    · have E' : ∀ a, patT xs I a t = (34 :: ((nodeF xs t).s.data.toList ++ [34]), a) := fun a => by rw [E, if_pos h2]
      rw [E']
      exact ⟨⟨[], by simp⟩, fun r => E' _⟩
    by_cases h3 : (nodeF xs t).o = 3 ∨ ((nodeF xs t).o ≠ 1 ∧ (nodeF xs t).l.all I = true)
    · have E' : ∀ a, patT xs I a t = (nameP (nodeF xs t).o ++ (parF (patT xs I) a (nodeF xs t).l).1, (parF (patT xs I) a (nodeF xs t).l).2) := fun a => by rw [E, if_neg h2, if_pos h3]
      obtain ⟨p1, p2⟩ := par_again sub a
      rw [E']
      refine ⟨p1, fun r => ?_⟩
      rw [E', p2]
    rcases hs : subO xs I (nodeF xs t) with _ | l
    · have E' : ∀ a, patT xs I a t = (nameP (nodeF xs t).o ++ 35 :: Lib.itoa (numN a t), numA a t) := fun a => by rw [E, if_neg h2, if_neg h3, hs]
      rw [E']
      refine ⟨(num_again a [] t).1, fun r => ?_⟩
      rw [E', (num_again a r t).2.1, (num_again a r t).2.2]
    · have E' : ∀ a, patT xs I a t = (nameP (nodeF xs t).o ++ 35 :: (Lib.itoa (numN a t) ++ (parF (patT xs I) (numA a t) l).1), (parF (patT xs I) (numA a t) l).2) := fun a => by rw [E, if_neg h2, if_neg h3, hs]
      obtain ⟨⟨m, hm⟩, p2⟩ := par_again (g := patT xs I) (l := l) (fun x hx => sub x (sub_mem ok ht hs x hx)) (numA a t)
      obtain ⟨m1, hm1⟩ := (num_again a [] t).1
      rw [E']
      refine ⟨⟨m1 ++ m, by simp only; rw [hm, hm1, List.append_assoc]⟩, fun r => ?_⟩
      rw [E']
      simp only
      have e1 : (parF (patT xs I) (numA a t) l).2 ++ r = numA a t ++ (m ++ r) := by rw [hm, List.append_assoc]
      rw [e1, (num_again a _ t).2.1, (num_again a _ t).2.2, ← e1, p2]
theorem pats_app (xs : List ND) (I : Int → Bool) : ∀ (l m a : List Int), patsF xs I a (l ++ m) = ((patsF xs I a l).1 ++ (patsF xs I (patsF xs I a l).2 m).1, (patsF xs I (patsF xs I a l).2 m).2)
  | [], m, a => rfl
  | t :: l, m, a => by
    show ((patT xs I a t).1 :: (patsF xs I (patT xs I a t).2 (l ++ m)).1, (patsF xs I (patT xs I a t).2 (l ++ m)).2) = _
    rw [pats_app xs I l m]
    rfl
theorem pats_len (xs : List ND) (I : Int → Bool) : ∀ (l a : List Int), (patsF xs I a l).1.length = l.length
  | [], _ => rfl
  | t :: l, a => by show (patsF xs I _ l).1.length + 1 = l.length + 1; rw [pats_len xs I l]
theorem pats_again {xs : List ND} (ok : Okay xs) (I : Int → Bool) : ∀ (l a : List Int), (∀ x ∈ l, hasB xs x = true) → (∃ m, (patsF xs I a l).2 = a ++ m) ∧ ∀ r, patsF xs I ((patsF xs I a l).2 ++ r) l = ((patsF xs I a l).1, (patsF xs I a l).2 ++ r)
  | [], a, _ => ⟨⟨[], by simp [patsF]⟩, fun r => rfl⟩
  | t :: l, a, h => by
    obtain ⟨⟨m1, h1⟩, h2⟩ := pat_again ok I (t.toNat + 1) t (by omega) (h t (by simp)) a
    obtain ⟨⟨m3, h3⟩, h4⟩ := pats_again ok I l (patT xs I a t).2 fun x hx => h x (by simp [hx])
    show (∃ m, (patsF xs I (patT xs I a t).2 l).2 = a ++ m) ∧ ∀ r, patsF xs I ((patsF xs I (patT xs I a t).2 l).2 ++ r) (t :: l) = ((patT xs I a t).1 :: (patsF xs I (patT xs I a t).2 l).1, (patsF xs I (patT xs I a t).2 l).2 ++ r)
    refine ⟨⟨m1 ++ m3, by rw [h3, h1, List.append_assoc]⟩, fun r => ?_⟩
    have e : (patsF xs I (patT xs I a t).2 l).2 ++ r = (patT xs I a t).2 ++ (m3 ++ r) := by rw [h3, List.append_assoc]
    show ((patT xs I ((patsF xs I (patT xs I a t).2 l).2 ++ r) t).1 :: (patsF xs I (patT xs I ((patsF xs I (patT xs I a t).2 l).2 ++ r) t).2 l).1, (patsF xs I (patT xs I ((patsF xs I (patT xs I a t).2 l).2 ++ r) t).2 l).2) = _
    rw [e, h2, ← e, h4]
/-- A list twice looks like itself twice. -/
theorem pats_twice {xs : List ND} (ok : Okay xs) (I : Int → Bool) {l : List Int} (h : ∀ x ∈ l, hasB xs x = true) : (patsF xs I [] (l ++ l)).1 = (patsF xs I [] l).1 ++ (patsF xs I [] l).1 := by
  rw [pats_app]
  have := (pats_again ok I l [] h).2 []
  simp only [List.append_nil] at this
  rw [this]
/-! the same under other names -/
/-- The same nodes, but for the atoms' names. -/
def Ren (xs ys : List ND) : Prop := xs.length = ys.length ∧ ∀ t, (nodeF xs t).o = (nodeF ys t).o ∧ (nodeF xs t).s = (nodeF ys t).s ∧ (nodeF xs t).l = (nodeF ys t).l
theorem ren_has {xs ys : List ND} (h : Ren xs ys) (t : Int) : hasB xs t = hasB ys t := by unfold hasB; rw [h.1]
theorem ren_rule {xs ys : List ND} (h : Ren xs ys) {P : List Int} {c : Int} (hr : Rule xs P c) : Rule ys P c := by
  have e1 := fun t => (h.2 t).1
  have e3 := fun t => (h.2 t).2.2
  cases hr with
  | comp t hh ho => rw [e3]; exact .comp _ (ren_has h _ ▸ hh) (e1 _ ▸ ho)
  | list t x hh ho hx => exact .list _ _ (ren_has h _ ▸ hh) (e1 _ ▸ ho) (e3 _ ▸ hx)
  | opn t x hh ho hk hx => rw [e3, e3]; exact .opn _ _ (ren_has h _ ▸ hh) (e1 _ ▸ ho) (by rw [← e3, ← e1]; exact hk) (e3 _ ▸ hx)
  | enc t x hh ho hx => rw [e3]; exact .enc _ _ (ren_has h _ ▸ hh) (e1 _ ▸ ho) (e3 _ ▸ hx)
  | sig t hh ho => rw [e3]; exact .sig _ (ren_has h _ ▸ hh) (e1 _ ▸ ho)
  | unbl t u hh hu ho hb uo u0 u1 =>
    rw [e3, e3]
    exact .unbl _ _ (ren_has h _ ▸ hh) (ren_has h _ ▸ hu) (e1 _ ▸ ho) (by rw [← e3, ← e1]; exact hb) (e1 _ ▸ uo) (by rw [← e3, ← e3]; exact u0) (by rw [← e3, ← e3, ← e3]; exact u1)
  | blind t hh ho => rw [e3]; exact .blind _ (ren_has h _ ▸ hh) (e1 _ ▸ ho)
theorem Ren.symm {xs ys : List ND} (h : Ren xs ys) : Ren ys xs := ⟨h.1.symm, fun t => ⟨(h.2 t).1.symm, (h.2 t).2.1.symm, (h.2 t).2.2.symm⟩⟩
theorem ren_der {xs ys : List ND} (h : Ren xs ys) (l : List Int) (t : Int) : Der xs l t ↔ Der ys l t :=
  ⟨fun hd S hS hl => hd S (fun P c hr hp => hS P c (ren_rule h hr) hp) hl, fun hd S hS hl => hd S (fun P c hr hp => hS P c (ren_rule h.symm hr) hp) hl⟩
theorem ren_derB {xs ys : List ND} (h : Ren xs ys) (l : List Int) : derB xs l = derB ys l := by
  funext t
  unfold derB
  rw [Bool.eq_iff_iff]
  simp only [decide_eq_true_eq]
  exact ren_der h l t
theorem ren_sub {xs ys : List ND} (h : Ren xs ys) (I : Int → Bool) (t : Int) : subO xs I (nodeF xs t) = subO ys I (nodeF ys t) := by
  unfold subO
  rw [(h.2 t).1, (h.2 t).2.2, (h.2 _).1, (h.2 ((nodeF ys t).l.getD 0 0)).2.2]
theorem ren_patF {xs ys : List ND} (h : Ren xs ys) (I : Int → Bool) : ∀ f, patF xs I f = patF ys I f
  | 0 => rfl
  | f + 1 => by
    funext a t
    rw [patF, patF, ren_patF h I f, ren_sub h I t, (h.2 t).1, (h.2 t).2.1, (h.2 t).2.2]
theorem ren_patT {xs ys : List ND} (h : Ren xs ys) (I : Int → Bool) : patT xs I = patT ys I := by
  funext a t
  unfold patT
  rw [ren_patF h]
theorem ren_pats {xs ys : List ND} (h : Ren xs ys) (I : Int → Bool) : ∀ l a, patsF xs I a l = patsF ys I a l
  | [], _ => rfl
  | t :: l, a => by
    show ((patT xs I a t).1 :: (patsF xs I (patT xs I a t).2 l).1, (patsF xs I (patT xs I a t).2 l).2) = ((patT ys I a t).1 :: (patsF ys I (patT ys I a t).2 l).1, (patsF ys I (patT ys I a t).2 l).2)
    rw [ren_patT h, ren_pats h I l]
/-! how heavy -/
/-- So heavy is a term. -/
def wtF (xs : List ND) : Nat → Int → Nat
  | 0, _ => 1
  | f + 1, t => 1 + ((nodeF xs t).l.map (wtF xs f)).sum
end Go.KK

/- plain: how long a pattern is. -/
namespace Go.KK
open Go.RowKit
set_option linter.unusedVariables false
set_option linter.unusedSimpArgs false

def wtT (xs : List ND) (t : Int) : Nat := wtF xs (t.toNat + 1) t
theorem sum_congr {f g : Int → Nat} : ∀ {l : List Int}, (∀ x ∈ l, f x = g x) → (l.map f).sum = (l.map g).sum
  | [], _ => rfl
  | x :: l, h => by rw [List.map_cons, List.map_cons, List.sum_cons, List.sum_cons, h x (by simp), sum_congr fun y hy => h y (by simp [hy])]
theorem sum_le {f g : Int → Nat} : ∀ {l : List Int}, (∀ x ∈ l, f x ≤ g x) → (l.map f).sum ≤ (l.map g).sum
  | [], _ => Nat.le_refl _
  | x :: l, h => by
    have h1 := h x (by simp)
    have h2 := sum_le (l := l) (f := f) (g := g) fun y hy => h y (by simp [hy])
    simp only [List.map_cons, List.sum_cons]
    omega
theorem sum_mul {f : Int → Nat} (k : Nat) : ∀ (l : List Int), (l.map fun x => k * f x).sum = k * (l.map f).sum
  | [] => by simp
  | x :: l => by simp only [List.map_cons, List.sum_cons, sum_mul k l]; rw [Nat.mul_add]
theorem wt_fuel {xs : List ND} (ok : Okay xs) : ∀ (N : Nat) (t : Int), t.toNat < N → hasB xs t = true → ∀ f, t.toNat < f → wtF xs f t = wtT xs t := by
  intro N
  induction N with
  | zero => intro t h; omega
  | succ N ih =>
    intro t hN ht f hf
    obtain ⟨f, rfl⟩ : ∃ k, f = k + 1 := ⟨f - 1, by omega⟩
    unfold wtT
    rw [wtF, wtF]
    congr 1
    refine sum_congr fun x hx => ?_
    have hp := part_lt ok ht hx
    rw [ih x (by omega) hp.2.2 f (by omega), ih x (by omega) hp.2.2 t.toNat (by omega)]
theorem wt_eq {xs : List ND} (ok : Okay xs) {t : Int} (ht : hasB xs t = true) : wtT xs t = 1 + ((nodeF xs t).l.map (wtT xs)).sum := by
  show wtF xs (t.toNat + 1) t = _
  rw [wtF]
  congr 1
  refine sum_congr fun x hx => ?_
  have hp := part_lt ok ht hx
  exact wt_fuel ok (t.toNat + 1) x (by omega) hp.2.2 t.toNat (by omega)
/-- The numbers given are those of terms, each once. -/
def NumQ (xs : List ND) (a : List Int) : Prop := a.Nodup ∧ ∀ x ∈ a, hasB xs x = true
theorem numQ_nil (xs : List ND) : NumQ xs [] := ⟨.nil, fun x h => by simp at h⟩
theorem NumQ.len {xs : List ND} {a : List Int} (h : NumQ xs a) : a.length ≤ xs.length := nodup_le _ _ h.1 fun x hx => by
  have := has_iff.1 (h.2 x hx)
  omega
theorem NumQ.num {xs : List ND} {a : List Int} (h : NumQ xs a) {t : Int} (ht : hasB xs t = true) : NumQ xs (numA a t) := by
  unfold numA
  by_cases hm : t ∈ a
  · rw [if_pos hm]; exact h
  · rw [if_neg hm]
    refine ⟨?_, fun x hx => ?_⟩
    · rw [List.nodup_append]
      refine ⟨h.1, by simp, fun x hx y hy e => ?_⟩
      rw [List.mem_singleton] at hy
      exact hm (by rw [← hy, ← e]; exact hx)
    · rcases List.mem_append.1 hx with hx | hx
      · exact h.2 x hx
      · rw [List.mem_singleton] at hx; rw [hx]; exact ht
theorem numN_le (a : List Int) (t : Int) : numN a t ≤ a.length := by
  unfold numN
  split
  · rename_i h
    exact Nat.le_of_lt (List.idxOf_lt_length_iff.2 h)
  · exact Nat.le_refl _
theorem jn_len {g : List Int → Int → List UInt8 × List Int} (Q : List Int → Prop) (w : Int → Nat) : ∀ {l : List Int} (s : List UInt8 × List Int × Bool), (∀ x ∈ l, ∀ a, Q a → (g a x).1.length ≤ w x ∧ Q (g a x).2) → Q s.2.1 →
    (l.foldl (jn g) s).1.length ≤ s.1.length + l.length + (l.map w).sum ∧ Q (l.foldl (jn g) s).2.1
  | [], s, _, hs => ⟨by simp, hs⟩
  | x :: l, s, h, hs => by
    obtain ⟨h1, h2⟩ := h x (by simp) s.2.1 hs
    obtain ⟨k1, k2⟩ := jn_len Q w (l := l) (jn g s x) (fun y hy => h y (by simp [hy])) h2
    refine ⟨?_, k2⟩
    rw [List.foldl_cons]
    refine Nat.le_trans k1 ?_
    have : (jn g s x).1.length ≤ s.1.length + 1 + w x := by
      unfold jn
      simp only [List.length_append]
      split <;> simp <;> omega
    simp only [List.map_cons, List.sum_cons, List.length_cons]
    omega
theorem par_len {g : List Int → Int → List UInt8 × List Int} (Q : List Int → Prop) (w : Int → Nat) {l a : List Int} (h : ∀ x ∈ l, ∀ a, Q a → (g a x).1.length ≤ w x ∧ Q (g a x).2) (ha : Q a) :
    (parF g a l).1.length ≤ 2 + l.length + (l.map w).sum ∧ Q (parF g a l).2 := by
  obtain ⟨h1, h2⟩ := jn_len Q w ([], a, false) h ha
  unfold parF
  refine ⟨?_, h2⟩
  simp only [List.length_cons, List.length_append, List.length_nil] at h1 ⊢
  omega
theorem nameP_le (o : Int) : (nameP o).length ≤ 5 := by
  unfold nameP nameB
  repeat' split
  all_goals decide
theorem sub_sum {xs : List ND} (ok : Okay xs) {I : Int → Bool} {t : Int} (h : hasB xs t = true) {l : List Int} (e : subO xs I (nodeF xs t) = some l) (w : Int → Nat) : l.length ≤ (nodeF xs t).l.length ∧ (l.map w).sum ≤ ((nodeF xs t).l.map w).sum := by
  have dr : ∀ (k : Nat) (m : List Int), ((m.drop k).map w).sum ≤ (m.map w).sum := fun k m => by
    have := congrArg (fun z => (z.map w).sum) (List.take_append_drop k m)
    simp only [List.map_append, List.sum_append] at this
    omega
  have tk : ∀ (k : Nat) (m : List Int), ((m.take k).map w).sum ≤ (m.map w).sum := fun k m => by
    have := congrArg (fun z => (z.map w).sum) (List.take_append_drop k m)
    simp only [List.map_append, List.sum_append] at this
    omega
  unfold subO at e
  split at e
  · rename_i ho
    have hl := len_of ok h ho rfl
    injection e with e
    subst e
    refine ⟨by simp; omega, ?_⟩
    generalize (nodeF xs t).l = m at *
    match m, hl with
    | [a, b], _ => simp
  · split at e
    · split at e
      · injection e with e
        subst e
        exact ⟨by simp, dr _ _⟩
      · cases e
    · split at e
      · split at e
        · injection e with e
          subst e
          exact ⟨by simp; omega, Nat.le_trans (tk _ _) (dr _ _)⟩
        · cases e
      · cases e
theorem nd_le {xs : List ND} (ok : Okay xs) {t : Int} (h : hasB xs t = true) : (nodeF xs t).l.length ≤ 64 := by
  have := ok.may _ _ (nodeF_get h)
  unfold mayB shB at this
  simp only [Bool.and_eq_true, decide_eq_true_eq] at this
  exact this.1.1.1.1.1.1.2
theorem pat_len {xs : List ND} (ok : Okay xs) (hs : ∀ x ∈ xs, x.s.data.toList.length ≤ 60) (I : Int → Bool) : ∀ (N : Nat) (t : Int), t.toNat < N → hasB xs t = true → ∀ a, NumQ xs a → (patT xs I a t).1.length ≤ 100 * wtT xs t ∧ NumQ xs (patT xs I a t).2 := by
  intro N
  induction N with
  | zero => intro t h; omega
  | succ N ih =>
    intro t hN ht a ha
    have hit : ∀ b, NumQ xs b → (Lib.itoa ((numN b t : Nat) : Int)).length ≤ 21 := fun b hb => by
      have h1 := hb.len
      have h2 := numN_le b t
      have h3 := ok.len
      exact Lib.itoa_length_le _ (by omega) (by omega)
    have sub : ∀ x ∈ (nodeF xs t).l, ∀ a, NumQ xs a → (patT xs I a x).1.length ≤ 100 * wtT xs x ∧ NumQ xs (patT xs I a x).2 := fun x hx a ha => by
      have hp := part_lt ok ht hx
      exact ih x (by omega) hp.2.2 a ha
    have hn := nameP_le (nodeF xs t).o
    have hl := nd_le ok ht
    rw [pat_eq ok I ht a, wt_eq ok ht, Nat.mul_add, ← sum_mul]
    split
    · refine ⟨?_, ha⟩
      have := hs _ (List.mem_of_getElem? (nodeF_get ht))
      simp only [List.length_cons, List.length_append, List.length_nil]
      omega
    · split
      · obtain ⟨p1, p2⟩ := par_len (NumQ xs) (fun x => 100 * wtT xs x) sub ha
        refine ⟨?_, p2⟩
        simp only [List.length_append]
        omega
      · have hq := ha.num ht
        rcases hsb : subO xs I (nodeF xs t) with _ | l
        · refine ⟨?_, hq⟩
          have := hit a ha
          simp only [List.length_append, List.length_cons]
          omega
        · obtain ⟨p1, p2⟩ := par_len (NumQ xs) (fun x => 100 * wtT xs x) (l := l) (fun x hx => sub x (sub_mem ok ht hsb x hx)) hq
          obtain ⟨q1, q2⟩ := sub_sum ok ht hsb (fun x => 100 * wtT xs x)
          refine ⟨?_, p2⟩
          have := hit a ha
          simp only [List.length_append, List.length_cons]
          omega
theorem pats_len2 {xs : List ND} (ok : Okay xs) (hs : ∀ x ∈ xs, x.s.data.toList.length ≤ 60) (I : Int → Bool) : ∀ (l a : List Int), (∀ x ∈ l, hasB xs x = true) → NumQ xs a → (∀ p ∈ (patsF xs I a l).1, p.length ≤ 100 * (l.map (wtT xs)).sum) ∧ NumQ xs (patsF xs I a l).2
  | [], a, _, ha => ⟨fun p h => by simp [patsF] at h, ha⟩
  | t :: l, a, h, ha => by
    obtain ⟨h1, h2⟩ := pat_len ok hs I (t.toNat + 1) t (by omega) (h t (by simp)) a ha
    obtain ⟨k1, k2⟩ := pats_len2 ok hs I l (patT xs I a t).2 (fun x hx => h x (by simp [hx])) h2
    refine ⟨fun p hp => ?_, k2⟩
    simp only [List.map_cons, List.sum_cons, Nat.mul_add]
    rcases List.mem_cons.1 (show p ∈ (patT xs I a t).1 :: (patsF xs I (patT xs I a t).2 l).1 from hp) with e | e
    · rw [e]; omega
    · have := k1 p e; omega
/-! what the law reckons -/
def capW (n : Nat) : Nat := min n 100000
def lightN (xs : List ND) (l : List Int) : Nat := ((l.filter (hasB xs)).map fun t => capW (wtT xs t)).sum
def lightB (xs : List ND) (l : List Int) : Bool := decide (lightN xs l < 3000)
theorem light_wt {xs : List ND} : ∀ {l : List Int}, (∀ x ∈ l, hasB xs x = true) → lightN xs l < 3000 → (l.map (wtT xs)).sum < 3000
  | [], _, _ => by simp
  | t :: l, h, hl => by
    have e : lightN xs (t :: l) = capW (wtT xs t) + lightN xs l := by
      unfold lightN
      rw [List.filter_cons, if_pos (h t (by simp)), List.map_cons, List.sum_cons]
    rw [e] at hl
    have e2 : capW (wtT xs t) = wtT xs t := by unfold capW at hl ⊢; omega
    have := light_wt (l := l) (fun x hx => h x (by simp [hx]))
    -- the sum
    rw [List.map_cons, List.sum_cons]
    have h3 := light_le (xs := xs) (l := l) (fun x hx => h x (by simp [hx])) (by omega)
    omega
where
  light_le {xs : List ND} : ∀ {l : List Int}, (∀ x ∈ l, hasB xs x = true) → lightN xs l < 3000 → (l.map (wtT xs)).sum ≤ lightN xs l
  | [], _, _ => by simp
  | t :: l, h, hl => by
    have e : lightN xs (t :: l) = capW (wtT xs t) + lightN xs l := by
      unfold lightN
      rw [List.filter_cons, if_pos (h t (by simp)), List.map_cons, List.sum_cons]
    rw [e] at hl ⊢
    have e2 : capW (wtT xs t) = wtT xs t := by unfold capW at hl ⊢; omega
    have h3 := light_le (xs := xs) (l := l) (fun x hx => h x (by simp [hx])) (by omega)
    rw [List.map_cons, List.sum_cons]
    omega
end Go.KK

/- plain: what can be derived, computed; patterns of another test that answers alike. -/
namespace Go.KK
open Go.RowKit
set_option linter.unusedVariables false
set_option linter.unusedSimpArgs false

/-- A text in memory. -/
def strV (p : List UInt8) : Value := .string ⟨p.toArray⟩
/-- The worklist, as long as the fuel lasts. -/
def closeS (xs : List ND) : Nat → SD → SD
  | 0, s => s
  | f + 1, s => if h : s.o = [] then s else closeS xs f ((uses xs (s.o.getLast h)).foldl (visF xs) (apF xs ⟨s.i, s.o.dropLast⟩ (s.o.getLast h)))
theorem close_inv {xs : List ND} (ok : Okay xs) {known : List Int} : ∀ (f : Nat) (s : SD), Inv xs known s → Inv xs known (closeS xs f s)
  | 0, s, h => h
  | f + 1, s, h => by
    rw [closeS]
    split
    · exact h
    · rename_i hn
      refine close_inv ok f _ (Inv.pop ok ?_)
      rw [List.dropLast_concat_getLast hn]
      exact h
def derC (xs : List ND) (known : List Int) (f : Nat) : SD := closeS xs f (startS xs known)
theorem derC_der {xs : List ND} (ok : Okay xs) {known : List Int} (hk : ∀ x ∈ known, hasB xs x = true) {f : Nat} (ho : (derC xs known f).o = []) {t : Int} (ht : hasB xs t = true) : derB xs known t = inB (derC xs known f).i t := by
  have h := close_inv ok f _ (inv_start ok hk)
  change Inv xs known (derC xs known f) at h
  generalize derC xs known f = s at *
  obtain ⟨i, o⟩ := s
  simp only at ho
  subst ho
  rw [Bool.eq_iff_iff, derB_iff]
  exact (h.done ok hk ht).symm
/-- A pattern asks for terms alone. -/
theorem sub_congr {xs : List ND} (ok : Okay xs) {I J : Int → Bool} (h : ∀ t, hasB xs t = true → I t = J t) {t : Int} (ht : hasB xs t = true) : subO xs I (nodeF xs t) = subO xs J (nodeF xs t) := by
  unfold subO
  split
  · rfl
  · split
    · rename_i h9
      have hl := nd_len ok ht
      have : 0 < (nodeF xs t).l.length := by
        have := len_of ok ht h9 rfl
        omega
      rw [h _ (has_part ok ht (getD_mem this))]
    · split
      · rename_i h8
        have hl := len_of ok ht h8 rfl
        have h0 := has_part ok ht (getD_mem (l := (nodeF xs t).l) (k := 0) (by omega))
        by_cases h7 : (nodeF xs ((nodeF xs t).l.getD 0 0)).o = 7
        · have hl2 := len_of ok h0 h7 rfl
          rw [h _ (has_part ok h0 (getD_mem (by omega)))]
        · rw [if_neg fun e => h7 e.1, if_neg fun e => h7 e.1]
      · rfl
theorem all_congr {l : List Int} {I J : Int → Bool} (h : ∀ x ∈ l, I x = J x) : l.all I = l.all J := by
  rw [Bool.eq_iff_iff, List.all_eq_true, List.all_eq_true]
  exact ⟨fun k x hx => by rw [← h x hx]; exact k x hx, fun k x hx => by rw [h x hx]; exact k x hx⟩
theorem pat_congr {xs : List ND} (ok : Okay xs) {I J : Int → Bool} (h : ∀ t, hasB xs t = true → I t = J t) : ∀ (N : Nat) (t : Int), t.toNat < N → hasB xs t = true → ∀ a, patT xs I a t = patT xs J a t := by
  intro N
  induction N with
  | zero => intro t h; omega
  | succ N ih =>
    intro t hN ht a
    have sub : ∀ x ∈ (nodeF xs t).l, ∀ a, patT xs I a x = patT xs J a x := fun x hx a => by
      have hp := part_lt ok ht hx
      exact ih x (by omega) hp.2.2 a
    rw [pat_eq ok I ht a, pat_eq ok J ht a, sub_congr ok h ht, all_congr fun x hx => h x (has_part ok ht hx)]
    split
    · rfl
    · split
      · rw [parF_congr a sub]
      · rcases hs : subO xs J (nodeF xs t) with _ | l
        · rfl
        · simp only
          rw [parF_congr _ fun x hx => sub x (sub_mem ok ht hs x hx)]
theorem pats_congr {xs : List ND} (ok : Okay xs) {I J : Int → Bool} (h : ∀ t, hasB xs t = true → I t = J t) : ∀ (l a : List Int), (∀ x ∈ l, hasB xs x = true) → patsF xs I a l = patsF xs J a l
  | [], a, _ => rfl
  | t :: l, a, hl => by
    show ((patT xs I a t).1 :: (patsF xs I (patT xs I a t).2 l).1, (patsF xs I (patT xs I a t).2 l).2) = ((patT xs J a t).1 :: (patsF xs J (patT xs J a t).2 l).1, (patsF xs J (patT xs J a t).2 l).2)
    rw [pat_congr ok h (t.toNat + 1) t (by omega) (hl t (by simp)), pats_congr ok h l _ fun x hx => hl x (by simp [hx])]
end Go.KK

/- plain: layer 17's law TokenBlind, reckoned out: after so many rounds of asking, issuing and finishing. -/
namespace Go.KK
open Go.RowKit
set_option linter.unusedVariables false
set_option linter.unusedSimpArgs false
/-- The law's state behind so many rounds. -/
structure TbS where
  X : List ND
  m : MT
  s : List Int
  n : List Int
  t : List Int
  e : Int
def tbN (S : TbS) (i : Nat) : List ND × Int × Int := mk S.X (atN (1000 + i))
def tbA (S : TbS) (i : Nat) : List ND × Int × Int := askF (tbN S i).1 (tbN S i).2.1 (2000 + i)
def tbI (S : TbS) (i : Nat) : List ND × Int × MT × Int := issF (tbA S i).1 S.m (1 + i) (tbA S i).2.1
def tbF (S : TbS) (i : Nat) : List ND × Int × Int := finF (tbI S i).1 (tbI S i).2.1 (2000 + i)
def tbR : Nat → TbS
  | 0 => ⟨atoms 12, ⟨0, 50, [], []⟩, [], [], [], 0⟩
  | i + 1 => ⟨(tbF (tbR i) i).1, (tbI (tbR i) i).2.2.1, (tbR i).s ++ [1 + (i : Int), (tbA (tbR i) i).2.1, (tbI (tbR i) i).2.1], (tbR i).n ++ [(tbN (tbR i) i).2.1], (tbR i).t ++ [(tbF (tbR i) i).2.1], (tbA (tbR i) i).2.2 + (tbI (tbR i) i).2.2.2 + (tbF (tbR i) i).2.2⟩
theorem tb_e : (List.range 5).all (fun i => (tbA (tbR i) i).2.2 == 0 && (tbI (tbR i) i).2.2.2 == 0 && (tbF (tbR i) i).2.2 == 0) = true := by decide +kernel
def tbO (n i : Nat) : List Int := 0 :: ((tbR n).s ++ [(tbR n).n.getD i 0, (tbR n).t.getD i 0])
/-- A list's pattern, reckoned. -/
def paC (xs : List ND) (l : List Int) : List (List UInt8) := (patsF xs (inB (derC xs l 300).i) [] l).1
def tbB (n : Nat) : Bool := (List.range n).all fun i => (derC (tbR n).X (tbO n i) 300).o.isEmpty && (tbO n i).all (hasB (tbR n).X) && paC (tbR n).X (tbO n i) == paC (tbR n).X (tbO n 0) && (paC (tbR n).X (tbO n i)).all (fun p => decide (p.length ≤ 10000)) && (spF (tbR n).X (tbR n).m ((tbR n).n.getD i 0) ((tbR n).t.getD i 0)).2 == 0
theorem tb_b2 : tbB 2 = true := by decide +kernel
theorem tb_b3 : tbB 3 = true := by decide +kernel
theorem tb_b4 : tbB 4 = true := by decide +kernel
theorem tb_b5 : tbB 5 = true := by decide +kernel
/-- No nonce can be derived of what the mint has seen. -/
def tbD (n : Nat) : Bool := (0 :: (tbR n).s).all (hasB (tbR n).X) && (derC (tbR n).X (0 :: (tbR n).s) 300).o.isEmpty && (List.range n).all fun i => hasB (tbR n).X ((tbR n).n.getD i 0) && !inB (derC (tbR n).X (0 :: (tbR n).s) 300).i ((tbR n).n.getD i 0)
theorem tb_d : tbD 2 = true ∧ tbD 3 = true ∧ tbD 4 = true ∧ tbD 5 = true := by decide +kernel
end Go.KK

/- deduce: a space of terms in memory; add. -/
namespace Go.Proofs.YtgnbiolckhdfeaaDoor
open Go.RowKit Go.KK Go.Shelf Go.Maps
set_option linter.unusedVariables false
set_option linter.unusedSimpArgs false

/-- A space: its terms and what each is looked at for (which only read, in R), and which are in and open (all else of it in G). -/
structure SpA (W : World) (G R : Nat → Prop) (sp : Nat) (lv uv : Value) (xs : List ND) (s : SD) : Prop where
  go : ∃ iv ov, W.heap[sp]? = some (.cells #[lv, iv, uv, ov] 102 (0, 0)) ∧ W.ownsRow 0 4 1 iv s.i.length (s.i.map .bool) ∧ W.ownsRow 0 3 1 ov s.o.length (s.o.map (.int .i64)) ∧ (∀ b, iv.ownBlock = some b → G b ∧ b ≠ sp) ∧ (∀ b, ov.ownBlock = some b → G b ∧ b ≠ sp)
  gs : G sp
  glt : ∀ b, G b → b < W.heap.size
  gr : ∀ b, R b → ¬ G b
  rlt : ∀ b, R b → b < W.heap.size
  rdl : ∃ A c qs, lv = .slice A xs.length c ∧ qs.length = xs.length ∧ ∀ W' : World, (∀ b, R b → W'.heap[b]? = W.heap[b]?) → SlA W' 4 A xs.length c (nds xs qs) ∧ ∀ (j : Nat) x q, xs[j]? = some x → qs[j]? = some q → In1 W' q x.l
  rdu : ∃ A c qs, uv = .slice A xs.length c ∧ qs.length = xs.length ∧ ∀ W' : World, (∀ b, R b → W'.heap[b]? = W.heap[b]?) → SlA W' 1 A xs.length c qs ∧ ∀ (j : Nat) q, qs[j]? = some q → In1 W' q (uses xs (j : Int))
  ok : Okay xs
  len : s.i.length = xs.length
  ol : s.o.length + s.i.count false ≤ xs.length
/-- What a call on a space leaves. -/
def SpS (W : World) (G R : Nat → Prop) (sp : Nat) (lv uv : Value) (xs : List ND) (s : SD) (W' : World) : Prop := ∃ G', SpA W' G' R sp lv uv xs s ∧ Turn G W W' ∧ ∀ b, G' b → G b ∨ W.heap.size ≤ b
section
variable {W W' W'' : World} {G G' R : Nat → Prop} {sp : Nat} {lv uv : Value} {xs : List ND} {s s' : SD}
theorem rdl_kept (h : ∃ A c qs, lv = .slice A xs.length c ∧ qs.length = xs.length ∧ ∀ W' : World, (∀ b, R b → W'.heap[b]? = W.heap[b]?) → SlA W' 4 A xs.length c (nds xs qs) ∧ ∀ (j : Nat) x q, xs[j]? = some x → qs[j]? = some q → In1 W' q x.l) (hb : ∀ b, R b → W'.heap[b]? = W.heap[b]?) :
    ∃ A c qs, lv = .slice A xs.length c ∧ qs.length = xs.length ∧ ∀ W2 : World, (∀ b, R b → W2.heap[b]? = W'.heap[b]?) → SlA W2 4 A xs.length c (nds xs qs) ∧ ∀ (j : Nat) x q, xs[j]? = some x → qs[j]? = some q → In1 W2 q x.l := by
  obtain ⟨A, c, qs, h1, h2, h3⟩ := h
  exact ⟨A, c, qs, h1, h2, fun W2 hW => h3 W2 fun b hr => (hW b hr).trans (hb b hr)⟩
theorem rdu_kept (h : ∃ A c qs, uv = .slice A xs.length c ∧ qs.length = xs.length ∧ ∀ W' : World, (∀ b, R b → W'.heap[b]? = W.heap[b]?) → SlA W' 1 A xs.length c qs ∧ ∀ (j : Nat) q, qs[j]? = some q → In1 W' q (uses xs (j : Int))) (hb : ∀ b, R b → W'.heap[b]? = W.heap[b]?) :
    ∃ A c qs, uv = .slice A xs.length c ∧ qs.length = xs.length ∧ ∀ W2 : World, (∀ b, R b → W2.heap[b]? = W'.heap[b]?) → SlA W2 1 A xs.length c qs ∧ ∀ (j : Nat) q, qs[j]? = some q → In1 W2 q (uses xs (j : Int)) := by
  obtain ⟨A, c, qs, h1, h2, h3⟩ := h
  exact ⟨A, c, qs, h1, h2, fun W2 hW => h3 W2 fun b hr => (hW b hr).trans (hb b hr)⟩
theorem SpA.kept (h : SpA W G R sp lv uv xs s) (hb : ∀ b, G b ∨ R b → W'.heap[b]? = W.heap[b]?) (hs : W.heap.size ≤ W'.heap.size) : SpA W' G R sp lv uv xs s := by
  obtain ⟨iv, ov, h1, h2, h3, h4, h5⟩ := h.go
  exact ⟨⟨iv, ov, (hb _ (.inl h.gs)).trans h1, own_block h2 fun b e => hb b (.inl (h4 b e).1), own_block h3 fun b e => hb b (.inl (h5 b e).1), h4, h5⟩, h.gs, fun b hb' => Nat.lt_of_lt_of_le (h.glt b hb') hs, h.gr, fun b hb' => Nat.lt_of_lt_of_le (h.rlt b hb') hs,
    rdl_kept h.rdl fun b hr => hb b (.inr hr), rdu_kept h.rdu fun b hr => hb b (.inr hr), h.ok, h.len, h.ol⟩
theorem SpA.ext (h : SpA W G R sp lv uv xs s) (hb : Below W.heap.size W W') : SpA W' G R sp lv uv xs s :=
  h.kept (fun b hz => hb.block b (hz.elim (h.glt b) (h.rlt b))) hb.size
theorem SpA.turn {F : Nat → Prop} (h : SpA W G R sp lv uv xs s) (ht : Turn F W W') (hd : ∀ b, F b → ¬ G b ∧ ¬ R b) : SpA W' G R sp lv uv xs s :=
  h.kept (fun b hz => ht.block b (hz.elim (h.glt b) (h.rlt b)) fun hf => hz.elim (hd b hf).1 (hd b hf).2) ht.size
theorem SpA.stay (h : SpA W G R sp lv uv xs s) (hb : Below W.heap.size W W') : SpS W G R sp lv uv xs s W' := ⟨G, h.ext hb, .of_below hb, fun _ h => .inl h⟩
theorem SpS.chain (ht : Turn G W W') (hz : ∀ b, G' b → G b ∨ W.heap.size ≤ b) (h : SpS W' G' R sp lv uv xs s W'') : SpS W G R sp lv uv xs s W'' := by
  obtain ⟨G2, h1, h2, h3⟩ := h
  exact ⟨G2, h1, ht.trans h2 hz, fun b hb => (h3 b hb).elim (hz b) fun h => .inr (Nat.le_trans ht.size h)⟩
theorem SpS.first (hb : Below W.heap.size W W') (h : SpS W' G R sp lv uv xs s W'') : SpS W G R sp lv uv xs s W'' := .chain (.of_below hb) (fun _ h => .inl h) h
theorem SpS.next (h : SpS W G R sp lv uv xs s W') (hb : Below W'.heap.size W' W'') : SpS W G R sp lv uv xs s W'' := by
  obtain ⟨G2, h1, h2, h3⟩ := h
  exact ⟨G2, h1.ext hb, h2.trans (.of_below (F := G2) hb) h3, h3⟩
/-- The box's cells. -/
theorem SpA.cells (h : SpA W G R sp lv uv xs s) : ∃ iv ov, (W.cell? ⟨sp, 0, none⟩ = some lv ∧ W.cell? ⟨sp, 1, none⟩ = some iv ∧ W.cell? ⟨sp, 2, none⟩ = some uv ∧ W.cell? ⟨sp, 3, none⟩ = some ov) ∧ W.frozen? ⟨sp, 3, none⟩ = false ∧ W.ownsRow 0 4 1 iv s.i.length (s.i.map .bool) ∧ W.ownsRow 0 3 1 ov s.o.length (s.o.map (.int .i64)) ∧ (∀ b, iv.ownBlock = some b → G b ∧ b ≠ sp) ∧ (∀ b, ov.ownBlock = some b → G b ∧ b ≠ sp) := by
  obtain ⟨iv, ov, h1, h2, h3, h4, h5⟩ := h.go
  have hr : W.ownsRow 0 102 4 (.slice (some ⟨sp, 0, none⟩) 1 1) 1 [lv, iv, uv, ov] := ⟨by simp, .inr ⟨sp, 1, _, rfl, Nat.zero_le _, h1, Nat.le_refl _, by decide, rfl, by simp⟩⟩
  obtain ⟨hc, _, _, _, hf⟩ := box4 hr
  exact ⟨iv, ov, hc, hf, h2, h3, h4, h5⟩
/-- A term's cell among those that are in. -/
theorem in_cell {iv : Value} {I : List Bool} (h : W.ownsRow 0 4 1 iv I.length (I.map .bool)) {t : Nat} (ht : t < I.length) : ∃ ib cap, iv = .slice (some ⟨ib, 0, none⟩) I.length cap ∧ W.cell? ⟨ib, t, none⟩ = some (.bool (inB I t)) ∧ W.frozen? ⟨ib, t, none⟩ = false := by
  rcases h.2 with ⟨_, h0⟩ | ⟨g, cap, cur, rfl, _⟩
  · omega
  · refine ⟨g, cap, rfl, ?_, h.frozenAt t⟩
    have := h.cells rfl t (.bool I[t]) (by rw [List.getElem?_map, List.getElem?_eq_getElem ht]; rfl)
    rw [add_lit, Nat.zero_add] at this
    rw [this]
    unfold inB
    rw [Int.toNat_natCast, List.getD, List.getElem?_eq_getElem ht]
    rfl
/-- One more is in. -/
theorem SpA.mark (h : SpA W G R sp lv uv xs s) {iv : Value} (hc : W.cell? ⟨sp, 1, none⟩ = some iv) {ib cap t : Nat} (hiv : iv = .slice (some ⟨ib, 0, none⟩) s.i.length cap) (ht : t < xs.length) (hf : inB s.i t = false) :
    SpA (W.setCell ⟨ib, t, none⟩ (.bool true)) G R sp lv uv xs ⟨s.i.set t true, s.o⟩ ∧ s.o.length + 1 + (s.i.set t true).count false ≤ xs.length ∧ G ib := by
  obtain ⟨iv', ov', h1, h2, h3, h4, h5⟩ := h.go
  have e : iv' = iv := by
    have := cell_of_row W sp 1 _ _ (0, 0) h1
    rw [hc] at this
    injection this with this
    exact this.symm
  subst e
  subst hiv
  have hib := h4 ib rfl
  have hl := h.len
  have hne : ∀ b, b ≠ ib → (W.setCell ⟨ib, t, none⟩ (.bool true)).heap[b]? = W.heap[b]? := fun b hb => Below.heap_setCell W ⟨ib, t, none⟩ _ b hb
  have hov : ∀ b, ov'.ownBlock = some b → b ≠ ib := fun b hb e => own_apart h2 h3 (by decide) ib rfl (e ▸ hb)
  have hcnt : (s.i.set t true).count false + 1 = s.i.count false := by
    have hlt : t < s.i.length := by omega
    have hf' : s.i[t] = false := by
      unfold inB at hf
      rw [Int.toNat_natCast, List.getD, List.getElem?_eq_getElem hlt] at hf
      simpa using hf
    rw [List.count_set (h := hlt), hf']
    have := List.count_pos_iff.2 (hf' ▸ List.getElem_mem hlt)
    simp; omega
  have hol := h.ol
  refine ⟨⟨⟨_, ov', (hne sp hib.2.symm).trans h1, ?_, own_block h3 fun b hb => hne b (hov b hb), h4, h5⟩, h.gs, fun b hb => by simpa using h.glt b hb, h.gr, fun b hb => by simpa using h.rlt b hb, rdl_kept h.rdl fun b hb => hne b fun e => h.gr b hb (e ▸ hib.1), rdu_kept h.rdu fun b hb => hne b fun e => h.gr b hb (e ▸ hib.1), h.ok, by simp [hl], by show s.o.length + (s.i.set t true).count false ≤ _; omega⟩, by omega, hib.1⟩
  have := (h2.stored t (.bool true)).1
  rw [← List.map_set] at this
  simpa using this
/-- One more is open. -/
theorem SpA.push (h : SpA W G R sp lv uv xs s) {ov ov' : Value} {t : Int} (hc : W.cell? ⟨sp, 3, none⟩ = some ov) (hb1 : Below W.heap.size W W') (hg : W'.grownBy W'' ov.ownBlock) (hr : W''.ownsRow 0 3 1 ov' (s.o.length + 1) ((s.o ++ [t]).map (.int .i64))) (hl : ov'.ownBlock = ov.ownBlock ∨ ov'.ownBlock = some W'.heap.size) (hol : s.o.length + 1 + s.i.count false ≤ xs.length) :
    SpS W G R sp lv uv xs ⟨s.i, s.o ++ [t]⟩ (W''.setCell ⟨sp, 3, none⟩ ov') := by
  obtain ⟨iv, ov2, h1, h2, h3, h4, h5⟩ := h.go
  have e : ov2 = ov := by
    have := cell_of_row W sp 3 _ _ (0, 0) h1
    rw [hc] at this
    injection this with this
    exact this.symm
  subst e
  have hsl := h.glt sp h.gs
  have hs1 := hb1.size
  have hs2 := hg.size
  have old : ∀ b, b < W.heap.size → ov2.ownBlock ≠ some b → b ≠ sp → (W''.setCell ⟨sp, 3, none⟩ ov').heap[b]? = W.heap[b]? := fun b hb hn hsp => by
    rw [Below.heap_setCell W'' ⟨sp, 3, none⟩ _ b hsp, hg.block b (by omega) (fun e => hn e.symm), hb1.block b hb]
  have hbox : W''.heap[sp]? = some (.cells #[lv, iv, uv, ov2] 102 (0, 0)) := by
    rw [hg.block sp (by omega) (fun e => (h5 sp e.symm).2 rfl), hb1.block sp hsl]
    exact h1
  have hvn : ∀ b, ov'.ownBlock = some b → b ≠ sp ∧ (G b ∨ (W.heap.size ≤ b ∧ b < W''.heap.size)) := fun b hb => by
    have hlt := (hr.lt b hb).2
    rcases hl with e | e
    · rw [e] at hb
      exact ⟨(h5 b hb).2, .inl (h5 b hb).1⟩
    · rw [e] at hb
      injection hb with hb
      exact ⟨by omega, .inr ⟨by omega, by omega⟩⟩
  refine ⟨fun b => G b ∨ (W.heap.size ≤ b ∧ b < W''.heap.size), ⟨⟨iv, ov', ?_, own_block h2 fun b hb => old b (h.glt b (h4 b hb).1) (fun e => own_apart h2 h3 (by decide) b hb e) (h4 b hb).2, ?_, fun b hb => ⟨.inl (h4 b hb).1, (h4 b hb).2⟩, fun b hb => ⟨(hvn b hb).2, (hvn b hb).1⟩⟩, .inl h.gs, fun b hb => ?_, fun b hb hb' => ?_, fun b hb => ?_, rdl_kept h.rdl fun b hb => old b (h.rlt b hb) (fun e => h.gr b hb (h5 b e).1) (fun e => h.gr b hb (e ▸ h.gs)), rdu_kept h.rdu fun b hb => old b (h.rlt b hb) (fun e => h.gr b hb (h5 b e).1) (fun e => h.gr b hb (e ▸ h.gs)), h.ok, h.len, by show (s.o ++ [t]).length + _ ≤ _; rw [List.length_append]; simpa using hol⟩, ?_, fun b hb => hb.imp id fun h => h.1⟩
  · rw [heap_setCell_same W'' sp 3 _ _ ov' hbox]; rfl
  · rw [show (s.o ++ [t]).length = s.o.length + 1 by simp]
    exact own_block hr fun b hb => Below.heap_setCell W'' ⟨sp, 3, none⟩ _ b (hvn b hb).1
  · have : (W''.setCell ⟨sp, 3, none⟩ ov').heap.size = W''.heap.size := by simp
    rw [this]
    rcases hb with hb | hb
    · have := h.glt b hb; omega
    · exact hb.2
  · rcases hb' with hb' | hb'
    · exact h.gr b hb hb'
    · have := h.rlt b hb; omega
  · have : (W''.setCell ⟨sp, 3, none⟩ ov').heap.size = W''.heap.size := by simp
    rw [this]
    have := h.rlt b hb; omega
  · have t1 : Turn G W W'' := (Turn.of_below (F := G) hb1).trans (Turn.grown (F := G) hg fun b e => .inl (h5 b e).1) (fun _ h => .inl h)
    exact t1.trans (Turn.setCell (F := G) (w := W'') (a := ⟨sp, 3, none⟩) ov' (.inl h.gs)) (fun _ h => .inl h)
end
/-- A list that reads, whatever turns in G. -/
def KeepL (W : World) (G : Nat → Prop) (A : Option Addr) (n c : Nat) (l : List Int) : Prop := ∀ W' : World, W.heap.size ≤ W'.heap.size → (∀ b, b < W.heap.size → ¬ G b → W'.heap[b]? = W.heap[b]?) → SlA W' 1 A n c (l.map (.int .i64))
section
variable {W W' : World} {G G' R : Nat → Prop} {sp : Nat} {lv uv : Value} {xs : List ND} {s : SD} {A : Option Addr} {n c : Nat} {l : List Int}
theorem KeepL.here (h : KeepL W G A n c l) : SlA W 1 A n c (l.map (.int .i64)) := h W (Nat.le_refl _) fun _ _ _ => rfl
theorem KeepL.turn (h : KeepL W G A n c l) (ht : Turn G W W') : SlA W' 1 A n c (l.map (.int .i64)) := h W' ht.size ht.block
/-- A list whose cells lie where nothing turns. -/
theorem keepL_of (h : SlA W 1 A n c (l.map (.int .i64))) (hg : ∀ b o, A = some ⟨b, o, none⟩ → ¬ G b) : KeepL W G A n c l := fun W' _ hk =>
  ⟨h.nc, h.cm, h.len, fun j u hj => by
    obtain ⟨b, off, e, hc⟩ := h.cells j u hj
    refine ⟨b, off, e, ?_⟩
    rw [World.cell?_of_block (a := ⟨b, off + j, none⟩) (hk b (block_lt_of_cell hc) (hg b off e))]
    exact hc⟩
theorem keepL_new (x : Int) (hg : ∀ b, G b → b < W.heap.size) : KeepL (W.alloc (.cells #[.int .i64 x] 3)) G (some ⟨W.heap.size, 0, none⟩) 1 1 [x] :=
  keepL_of (SlA.lit1 _) fun b o e hb => by injection e with e; injection e with e _; have := hg b hb; omega
/-- A term's list. -/
theorem SpA.keep (h : SpA W G R sp lv uv xs s) {t : Nat} {x : ND} (hx : xs[t]? = some x) : ∃ bn on c0 A' c', lv = .slice (some ⟨bn, on, none⟩) xs.length c0 ∧ (∀ W' : World, W.heap.size ≤ W'.heap.size → (∀ b, b < W.heap.size → ¬ G b → W'.heap[b]? = W.heap[b]?) →
    W'.cell? ⟨bn, on + t * 4, none⟩ = some (.int .i64 x.o) ∧ W'.cell? ⟨bn, on + t * 4 + 1, none⟩ = some (.int .i64 x.n) ∧ W'.cell? ⟨bn, on + t * 4 + 2, none⟩ = some (.string x.s) ∧ W'.cell? ⟨bn, on + t * 4 + 3, none⟩ = some (.slice A' x.l.length c')) ∧ KeepL W G A' x.l.length c' x.l := by
  have ht := (List.getElem?_eq_some_iff.1 hx).1
  obtain ⟨A, c0, qs, rfl, hq, hrd⟩ := h.rdl
  have hqt : qs[t]? = some (qs[t]'(by omega)) := List.getElem?_eq_getElem (by omega)
  generalize qs[t]'(by omega) = q at hqt
  obtain ⟨hs0, hi0⟩ := hrd W fun _ _ => rfl
  obtain ⟨A', c', rfl, -⟩ := hi0 t x q hx hqt
  obtain ⟨bn, on, rfl, -⟩ := hs0.cells (t * 4 + 0) _ (nds_get hx hqt (by decide))
  have all : ∀ W' : World, (∀ b, b < W.heap.size → ¬ G b → W'.heap[b]? = W.heap[b]?) → (W'.cell? ⟨bn, on + t * 4, none⟩ = some (.int .i64 x.o) ∧ W'.cell? ⟨bn, on + t * 4 + 1, none⟩ = some (.int .i64 x.n) ∧ W'.cell? ⟨bn, on + t * 4 + 2, none⟩ = some (.string x.s) ∧ W'.cell? ⟨bn, on + t * 4 + 3, none⟩ = some (.slice A' x.l.length c')) ∧ SlA W' 1 A' x.l.length c' (x.l.map (.int .i64)) := fun W' hk => by
    obtain ⟨hs, hi⟩ := hrd W' fun b hb => hk b (h.rlt b hb) (h.gr b hb)
    obtain ⟨A2, c2, e2, hs2⟩ := hi t x _ hx hqt
    injection e2 with e2 _ e3
    subst e2; subst e3
    have cell : ∀ k, k < 4 → ∀ u, (x.cells (.slice A' x.l.length c'))[k]? = some u → W'.cell? ⟨bn, on + (t * 4 + k), none⟩ = some u := fun k hk u hu => by
      obtain ⟨b, off, e, hc⟩ := hs.cells (t * 4 + k) u ((nds_get hx hqt hk).trans hu)
      injection e with e
      injection e with e e'
      subst e; subst e'
      exact hc
    exact ⟨⟨cell 0 (by decide) _ rfl, by have := cell 1 (by decide) _ rfl; rwa [← Nat.add_assoc] at this, by have := cell 2 (by decide) _ rfl; rwa [← Nat.add_assoc] at this, by have := cell 3 (by decide) _ rfl; rwa [← Nat.add_assoc] at this⟩, hs2⟩
  exact ⟨bn, on, c0, A', c', rfl, fun W' _ hk => (all W' hk).1, fun W' _ hk => (all W' hk).2⟩
/-- What a term is looked at again for. -/
theorem SpA.keepU (h : SpA W G R sp lv uv xs s) {t : Nat} (ht : t < xs.length) : ∃ bu ou c0 A' c', uv = .slice (some ⟨bu, ou, none⟩) xs.length c0 ∧ (∀ W' : World, W.heap.size ≤ W'.heap.size → (∀ b, b < W.heap.size → ¬ G b → W'.heap[b]? = W.heap[b]?) → W'.cell? ⟨bu, ou + t, none⟩ = some (.slice A' (uses xs (t : Int)).length c')) ∧ KeepL W G A' (uses xs (t : Int)).length c' (uses xs (t : Int)) := by
  obtain ⟨A, c0, qs, rfl, hq, hrd⟩ := h.rdu
  have hqt : qs[t]? = some (qs[t]'(by omega)) := List.getElem?_eq_getElem (by omega)
  generalize qs[t]'(by omega) = q at hqt
  obtain ⟨hs0, hi0⟩ := hrd W fun _ _ => rfl
  obtain ⟨A', c', rfl, -⟩ := hi0 t q hqt
  obtain ⟨bn, on, rfl, -⟩ := hs0.cells t _ hqt
  have all : ∀ W' : World, (∀ b, b < W.heap.size → ¬ G b → W'.heap[b]? = W.heap[b]?) → W'.cell? ⟨bn, on + t, none⟩ = some (.slice A' (uses xs (t : Int)).length c') ∧ SlA W' 1 A' (uses xs (t : Int)).length c' ((uses xs (t : Int)).map (.int .i64)) := fun W' hk => by
    obtain ⟨hs, hi⟩ := hrd W' fun b hb => hk b (h.rlt b hb) (h.gr b hb)
    obtain ⟨A2, c2, e2, hs2⟩ := hi t _ hqt
    injection e2 with e2 _ e3
    subst e2; subst e3
    obtain ⟨b, off, e, hc⟩ := hs.cells t _ hqt
    injection e with e
    injection e with e e'
    subst e; subst e'
    exact ⟨hc, hs2⟩
  exact ⟨bn, on, c0, A', c', rfl, fun W' _ hk => (all W' hk).1, fun W' _ hk => (all W' hk).2⟩
end
set_option maxHeartbeats 4000000 in
set_option maxRecDepth 100000 in
theorem add_any (W : World) (G R : Nat → Prop) (sp : Nat) (lv uv : Value) (xs : List ND) (s : SD) (A : Option Addr) (n c : Nat) (l : List Int) (h : SpA W G R sp lv uv xs s) (hl : KeepL W G A n c l) (hh : ∀ t ∈ l, hasB xs t = true) (hn : n ≤ 1000000) :
    Calls Tryd.prog 94 #[.pointer (some ⟨sp, 0, none⟩), .slice A n c] W fun e w' => e = .returned (.tuple #[]) ∧ SpS W G R sp lv uv xs (addL s l) w' := by
  obtain ⟨i0, hi, hz0, hz1, hz2⟩ := info_parts Tryd.infoInt
  have H := hid h; have HL := hid hl; have HH := hid hh
  have hln := hl.here.lenI
  clear h hl hh
  go_enter Tryd.func94, Tryd.ntmps94
  go_wp2_with fail
  go_loopw [8] (fun v wr => ∃ (j : Nat) (G' : Nat → Prop), v = .int .i64 j ∧ j ≤ n ∧ Hid (SpA wr G' R sp lv uv xs (addL s (l.take j)) ∧ Turn G W wr ∧ ∀ b, G' b → G b ∨ W.heap.size ≤ b)) (fun v _ => n - (intOf v).toNat)
  case atStart => exact ⟨0, G, rfl, Nat.zero_le _, hid ⟨H.out, Turn.refl _ _, fun _ h => .inl h⟩⟩
  case round =>
    obtain ⟨j, G', hv, hj, HR⟩ := hrel
    subst hv
    obtain ⟨hs, ht, hg⟩ := HR.out
    have HS := hid hs; have HT := hid ht; have HG := hid hg
    clear hs ht hg HR
    by_cases hlt : j < n
    · obtain ⟨b1, o1, t, rfl, htj, hct⟩ := (HL.out.turn HT.out).elemI hlt
      have hth := HH.out t (List.mem_of_getElem? htj)
      have HLT := hid (show addL s (l.take (j + 1)) = add1 (addL s (l.take j)) t by rw [take_one htj]; unfold addL; rw [List.foldl_append]; rfl)
      have hlt' : (j : Int) < (n : Int) := by omega
      have h2 := has_iff.1 hth
      obtain ⟨k, rfl⟩ := Int.eq_ofNat_of_zero_le h2.1
      have hkx : k < xs.length := by omega
      have hlen := HS.out.len
      have hxn : xs.length ≤ 100000 := HS.out.ok.len
      have hol := HS.out.ol
      generalize addL s (l.take j) = sj at *
      obtain ⟨iv, ov, ⟨c0, c1, c2, c3⟩, f3, own1, own3, -, g3⟩ := HS.out.cells
      obtain ⟨ib, cap, rfl, hcb, hfb⟩ := in_cell own1 (t := k) (by omega)
      have hki : (k : Int) < (sj.i.length : Int) := by omega
      have HO3 := hid own3
      rcases hb : inB sj.i (k : Int) with _ | _
      · rw [hb] at hcb
        have HM := hid (HS.out.mark c1 rfl hkx hb)
        have HAD := hid (show add1 sj (k : Int) = ⟨sj.i.set k true, sj.o ++ [(k : Int)]⟩ by unfold add1; rw [hb, if_neg (by decide), Int.toNat_natCast])
        clear hth h2 htj own1 own3 hb
        go_upto_region 5 with fail
        obtain ⟨hm1, hm2, hm3⟩ := HM.out
        refine forget (R := fun V => SpA V G' R sp lv uv xs ⟨sj.i.set k true, sj.o⟩ ∧ Turn G' wr V) ?_ ⟨hm1, Turn.setCell (F := G') (w := wr) (a := ⟨ib, k, none⟩) _ (.inl hm3)⟩
        clear c0 c1 c2 c3 f3 hcb hfb hm1 hm3 HM HO3 g3 hct
        rintro V ⟨hv1, hv2⟩
        have HV := hid hv1; have HVT := hid hv2
        clear hv1 hv2
        obtain ⟨iv2, ov2, ⟨c0, c1, c2, c3⟩, f3, -, own3, -, g3⟩ := HV.out.cells
        obtain ⟨Ao, co, rfl, -⟩ := SlA.owned own3
        have HO3 := hid own3; have HG3 := hid g3
        have hspl := HV.out.glt sp HV.out.gs
        have c3' : (V.alloc (.cells #[.int .i64 k] 3)).cell? ⟨sp, 3, none⟩ = some (.slice Ao sj.o.length co) := (World.cell?_alloc_past _ _ _ hspl).trans c3
        have C3 := hid c3
        have hboxV : ∀ V' : World, V'.heap[sp]? = V.heap[sp]? → V'.cell? ⟨sp, 3, none⟩ = some (.slice Ao sj.o.length co) ∧ V'.frozen? ⟨sp, 3, none⟩ = false := fun V' hV => by
          obtain ⟨iv3, ov3, h31, -⟩ := HV.out.go
          have h32 := cell_of_row V sp 3 _ _ (0, 0) h31
          rw [C3.out] at h32
          injection h32 with h32
          subst h32
          have hr : V'.ownsRow 0 102 4 (.slice (some ⟨sp, 0, none⟩) 1 1) 1 [lv, iv3, uv, .slice Ao sj.o.length co] := ⟨by simp, .inr ⟨sp, 1, _, rfl, Nat.zero_le _, hV.trans h31, Nat.le_refl _, by decide, rfl, by simp⟩⟩
          exact ⟨(box4 hr).1.2.2.2, (box4 hr).2.2.2.2⟩
        have HBV := hid hboxV
        have hne3 : (Value.slice Ao sj.o.length co).ownBlock ≠ some sp := fun e => (HG3.out sp e).2 rfl
        have HN3 := hid hne3
        clear own3 g3 hboxV hne3
        go_wp2_with (first
          | (at_builtin; refine wpList_append_sl _ rfl _ _ 29 rfl 0 3 i0 (.int .i64 0) 1 8 Tryd.underlying29 hi hz0 hz1 hz2 rfl (by decide) (.slice Ao sj.o.length co) sj.o.length (sj.o.map (.int .i64)) rfl (HO3.out.alloc _) _ 1 1 [.int .i64 k] rfl (SlA.lit1 _) (one_int _ _) (by unfold maxLen; omega) (by omega) (Nat.zero_le _) ?_; intro v5 w5 own5 gr5 loc5; obtain ⟨A5, c5, rfl, -⟩ := SlA.owned own5; have HP := hid (HV.out.push (t := (k : Int)) C3.out ((Below.refl _ _).alloc (Nat.le_refl _) (.cells #[.int .i64 k] 3)) gr5 (by rw [List.map_append]; exact own5) loc5 hm2); have hq5 := HBV.out w5 ((gr5.block sp (by simp; omega) (fun e => HN3.out e.symm)).trans (heap_alloc_old _ _ hspl)); obtain ⟨q5, qf5⟩ := hq5; clear own5 gr5 loc5)
          | fail)
        obtain ⟨G2, p1, p2, p3⟩ := HP.out
        have hvs := HVT.out.size
        go_roundw
        case rel =>
          refine ⟨j + 1, G2, by go_num, by omega, hid ⟨by rw [HLT.out, HAD.out]; exact p1, (HT.out.trans (HVT.out.trans p2 (fun _ h => .inl h)) HG.out), fun b hb => ?_⟩⟩
          have := HT.out.size
          rcases p3 b hb with h' | h'
          · exact HG.out b h'
          · exact .inr (by omega)
        case measure => simp [intOf]; omega
      · rw [hb] at hcb
        have HAD := hid (show add1 sj (k : Int) = sj by unfold add1; rw [hb]; rfl)
        clear hth h2 htj own1 own3 hb
        go_wp2_with fail
        go_roundw
        case rel => exact ⟨j + 1, G', by go_num, by omega, hid ⟨by rw [HLT.out, HAD.out]; exact HS.out, HT.out, HG.out⟩⟩
        case measure => simp [intOf]; omega
    · have hjn : j = n := by omega
      have HTK := hid (show l.take j = l from List.take_of_length_le (by omega))
      have hlt' : ¬ (j : Int) < (n : Int) := by omega
      go_wp2_with fail
      go_end0
      exact ⟨rfl, G', by rw [← HTK.out]; exact HS.out, HT.out, HG.out⟩
end Go.Proofs.YtgnbiolckhdfeaaDoor

