import Derived.Test.YtfmkniakfgpgjaaGreatDoorY16
import Derived.Test.YtfmkniakfgpgjaaGreatDoorY01
import Derived.Test.YtfmkniakfgpgjaaGreatDoorY13
import Derived.Test.YtfmkniakfgpgjaaGreatDoorY04
/- plain: what of what was told can be derived (Known), and that more tells no less (DeduceMore). -/
namespace Go.KK
open Go.RowKit Classical
set_option linter.unusedVariables false
set_option linter.unusedSimpArgs false

/-- Some of these is made of it. -/
def Met (xs : List ND) (l : List Int) (t : Int) : Prop := ∃ k ∈ l, Rch xs k t
noncomputable def derB (xs : List ND) (l : List Int) (t : Int) : Bool := decide (Der xs l t)
theorem derB_iff {xs : List ND} {l : List Int} {t : Int} : derB xs l t = true ↔ Der xs l t := by unfold derB; rw [decide_eq_true_eq]
theorem met_part {xs : List ND} {l : List Int} {t x : Int} (h : Met xs l t) (hx : x ∈ (nodeF xs t).l) : Met xs l x := by
  obtain ⟨k, h1, h2⟩ := h
  exact ⟨k, h1, .step h2 hx⟩
section
variable {xs : List ND} (ok : Okay xs) {l m : List Int}
set_option linter.unusedSectionVars false
include ok
omit ok
/-- What was met, once all terms from k on have been gone through. -/
structure Mt (xs : List ND) (l : List Int) (I : List Bool) (k : Nat) : Prop where
  len : I.length = xs.length
  snd : ∀ t, hasB xs t = true → inB I t = true → Met xs l t
  kn : ∀ t ∈ l, inB I t = true
  clo : ∀ j : Nat, k ≤ j → j < xs.length → inB I (j : Int) = true → ∀ x ∈ (nodeF xs (j : Int)).l, inB I x = true
def setsB (I : List Bool) (l : List Int) : List Bool := l.foldl (fun I x => I.set x.toNat true) I
theorem setsB_len : ∀ (l : List Int) (I : List Bool), (setsB I l).length = I.length
  | [], _ => rfl
  | x :: l, I => by
    show (setsB (I.set x.toNat true) l).length = I.length
    rw [setsB_len l, List.length_set]
theorem setsB_in : ∀ (l : List Int) (I : List Bool), (∀ x ∈ l, 0 ≤ x ∧ x.toNat < I.length) → ∀ u : Int, 0 ≤ u → (inB (setsB I l) u = true ↔ inB I u = true ∨ u ∈ l)
  | [], _, _, u, _ => by simp [setsB]
  | x :: l, I, h, u, hu => by
    show inB (setsB (I.set x.toNat true) l) u = true ↔ _
    rw [setsB_in l _ (fun y hy => ⟨(h y (by simp [hy])).1, by rw [List.length_set]; exact (h y (by simp [hy])).2⟩) u hu, inB_set (h x (by simp)).1 hu (h x (by simp)).2]
    simp only [Bool.or_eq_true, decide_eq_true_eq, List.mem_cons]
    constructor
    · rintro ((h | h) | h)
      · exact .inr (.inl h)
      · exact .inl h
      · exact .inr (.inr h)
    · rintro (h | h | h)
      · exact .inl (.inr h)
      · exact .inl (.inl h)
      · exact .inr h
theorem Mt.step (ok : Okay xs) {I : List Bool} {k : Nat} (h : Mt xs l I (k + 1)) (hk : k < xs.length) : Mt xs l (if inB I (k : Int) = true then setsB I (nodeF xs (k : Int)).l else I) k := by
  have hh : hasB xs (k : Int) = true := has_iff.2 ⟨by omega, by omega⟩
  split
  · rename_i hi
    have hr : ∀ x ∈ (nodeF xs (k : Int)).l, 0 ≤ x ∧ x.toNat < I.length := fun x hx => by
      have := has_iff.1 (has_part ok hh hx)
      rw [h.len]; omega
    refine ⟨by rw [setsB_len]; exact h.len, fun t ht hi' => ?_, fun t ht => ?_, fun j h1 h2 hj x hx => ?_⟩
    · rcases (setsB_in _ _ hr t (has0 ht)).1 hi' with h' | h'
      · exact h.snd t ht h'
      · exact met_part (h.snd _ hh hi) h'
    · by_cases h0 : 0 ≤ t
      · exact (setsB_in _ _ hr t h0).2 (.inl (h.kn t ht))
      · have e : inB (setsB I (nodeF xs (k : Int)).l) t = inB (setsB I (nodeF xs (k : Int)).l) 0 := by unfold inB; rw [show t.toNat = (0 : Int).toNat by omega]
        rw [e]
        have e2 : inB I t = inB I 0 := by unfold inB; rw [show t.toNat = (0 : Int).toNat by omega]
        exact (setsB_in _ _ hr 0 (by omega)).2 (.inl (e2 ▸ h.kn t ht))
    · have hjh : hasB xs (j : Int) = true := has_iff.2 ⟨by omega, by omega⟩
      have hx0 := has0 (has_part ok hjh hx)
      by_cases e : j = k
      · subst e
        exact (setsB_in _ _ hr x hx0).2 (.inr hx)
      · rcases (setsB_in _ _ hr (j : Int) (by omega)).1 hj with h' | h'
        · exact (setsB_in _ _ hr x hx0).2 (.inl (h.clo j (by omega) h2 h' x hx))
        · have := (part_lt ok hh h').2.1
          omega
  · rename_i hi
    refine ⟨h.len, h.snd, h.kn, fun j h1 h2 hj x hx => ?_⟩
    by_cases e : j = k
    · subst e; exact absurd hj hi
    · exact h.clo j (by omega) h2 hj x hx
theorem Mt.done (ok : Okay xs) (hl : ∀ x ∈ l, hasB xs x = true) {I : List Bool} (h : Mt xs l I 0) {t : Int} (ht : hasB xs t = true) : inB I t = true ↔ Met xs l t := by
  refine ⟨h.snd t ht, ?_⟩
  rintro ⟨k, hk, hr⟩
  clear ht
  induction hr with
  | self _ => exact h.kn _ hk
  | step hr hy ih =>
    have hx := (hr.has ok).2.1
    have h2 := has_iff.1 hx
    rename_i x y
    have e : ((x.toNat : Nat) : Int) = x := by omega
    exact h.clo x.toNat (by omega) (by omega) (by rw [e]; exact ih) y (by rw [e]; exact hy)
end
end Go.KK

/- plain: what terms look like (Pattern), once more the same, and under other names. -/
namespace Go.KK
open Go.RowKit
set_option linter.unusedVariables false
set_option linter.unusedSimpArgs false

/-- The name of a kind, in a pattern. -/
def nameP (o : Int) : List UInt8 := if o = 1 then [97, 116, 111, 109] else nameB o
/-- A term's number, and the numbers behind it. -/
def numN (a : List Int) (t : Int) : Nat := if t ∈ a then a.idxOf t else a.length
def numA (a : List Int) (t : Int) : List Int := if t ∈ a then a else a ++ [t]
/-- One part more. -/
def jn (g : List Int → Int → List UInt8 × List Int) (s : List UInt8 × List Int × Bool) (x : Int) : List UInt8 × List Int × Bool := (s.1 ++ (if s.2.2 then [44] else []) ++ (g s.2.1 x).1, (g s.2.1 x).2, true)
def parF (g : List Int → Int → List UInt8 × List Int) (a : List Int) (l : List Int) : List UInt8 × List Int := (40 :: ((l.foldl (jn g) ([], a, false)).1 ++ [41]), (l.foldl (jn g) ([], a, false)).2.1)
/-- Which parts are shown of a term that is numbered. -/
def subO (xs : List ND) (I : Int → Bool) (n : ND) : Option (List Int) :=
  if n.o = 10 then some [n.l.getD 1 0]
  else if n.o = 9 then (if I (n.l.getD 0 0) then some (n.l.drop 1) else none)
  else if n.o = 8 then (if (nodeF xs (n.l.getD 0 0)).o = 7 ∧ I ((nodeF xs (n.l.getD 0 0)).l.getD 0 0) = true then some ((n.l.drop 1).take 2) else none)
  else none
def patF (xs : List ND) (I : Int → Bool) : Nat → List Int → Int → List UInt8 × List Int
  | 0, a, _ => ([], a)
  | f + 1, a, t =>
    if (nodeF xs t).o = 2 then (34 :: ((nodeF xs t).s.data.toList ++ [34]), a)
    else if (nodeF xs t).o = 3 ∨ ((nodeF xs t).o ≠ 1 ∧ (nodeF xs t).l.all I = true) then
      (nameP (nodeF xs t).o ++ (parF (Go.KK.patF xs I f) a (nodeF xs t).l).1, (parF (Go.KK.patF xs I f) a (nodeF xs t).l).2)
    else match subO xs I (nodeF xs t) with
      | none => (nameP (nodeF xs t).o ++ 35 :: Lib.itoa (numN a t), numA a t)
      | some l => (nameP (nodeF xs t).o ++ 35 :: (Lib.itoa (numN a t) ++ (parF (Go.KK.patF xs I f) (numA a t) l).1), (parF (Go.KK.patF xs I f) (numA a t) l).2)
/-- A term's pattern. -/
def patT (xs : List ND) (I : Int → Bool) (a : List Int) (t : Int) : List UInt8 × List Int := Go.KK.patF xs I (t.toNat + 1) a t
def patsF (xs : List ND) (I : Int → Bool) : List Int → List Int → List (List UInt8) × List Int
  | a, [] => ([], a)
  | a, t :: l => ((patT xs I a t).1 :: (patsF xs I (patT xs I a t).2 l).1, (patsF xs I (patT xs I a t).2 l).2)
theorem sub_mem {xs : List ND} (ok : Okay xs) {I : Int → Bool} {t : Int} (h : hasB xs t = true) {l : List Int} (e : subO xs I (nodeF xs t) = some l) : ∀ x ∈ l, x ∈ (nodeF xs t).l := by
  unfold subO at e
  split at e
  · rename_i ho
    have hl := len_of ok h ho rfl
    injection e with e
    subst e
    intro x hx
    rw [List.mem_singleton] at hx
    subst hx
    exact getD_mem (by omega)
  · split at e
    · split at e
      · injection e with e
        subst e
        exact fun x hx => List.mem_of_mem_drop hx
      · cases e
    · split at e
      · split at e
        · injection e with e
          subst e
          exact fun x hx => List.mem_of_mem_drop (List.mem_of_mem_take hx)
        · cases e
      · cases e
theorem jn_congr {g g' : List Int → Int → List UInt8 × List Int} : ∀ {l : List Int} (s : List UInt8 × List Int × Bool), (∀ x ∈ l, ∀ a, g a x = g' a x) → l.foldl (jn g) s = l.foldl (jn g') s
  | [], s, _ => rfl
  | x :: l, s, h => by
    rw [List.foldl_cons, List.foldl_cons, show jn g s x = jn g' s x by unfold jn; rw [h x (by simp)]]
    exact jn_congr _ fun y hy => h y (by simp [hy])
theorem parF_congr {g g' : List Int → Int → List UInt8 × List Int} {l : List Int} (a : List Int) (h : ∀ x ∈ l, ∀ a, g a x = g' a x) : parF g a l = parF g' a l := by unfold parF; rw [jn_congr _ h]
/-- More fuel changes nothing. -/
theorem pat_fuel {xs : List ND} (ok : Okay xs) (I : Int → Bool) : ∀ (N : Nat) (t : Int), t.toNat < N → hasB xs t = true → ∀ f, t.toNat < f → ∀ a, Go.KK.patF xs I f a t = patT xs I a t := by
  intro N
  induction N with
  | zero => intro t h; omega
  | succ N ih =>
    intro t hN ht f hf a
    obtain ⟨f, rfl⟩ : ∃ k, f = k + 1 := ⟨f - 1, by omega⟩
    have sub : ∀ x ∈ (nodeF xs t).l, ∀ a, Go.KK.patF xs I f a x = Go.KK.patF xs I t.toNat a x := fun x hx a => by
      have hp := part_lt ok ht hx
      rw [ih x (by omega) hp.2.2 f (by omega), ih x (by omega) hp.2.2 t.toNat (by omega)]
    unfold patT
    rw [Go.KK.patF, Go.KK.patF]
    split
    · rfl
    · split
      · rw [parF_congr a sub]
      · rcases hs : subO xs I (nodeF xs t) with _ | l
        · rfl
        · simp only
          rw [parF_congr _ fun x hx => sub x (sub_mem ok ht hs x hx)]
/-- A pattern in words of its parts' patterns. -/
theorem pat_eq {xs : List ND} (ok : Okay xs) (I : Int → Bool) {t : Int} (ht : hasB xs t = true) (a : List Int) : patT xs I a t =
    if (nodeF xs t).o = 2 then (34 :: ((nodeF xs t).s.data.toList ++ [34]), a)
    else if (nodeF xs t).o = 3 ∨ ((nodeF xs t).o ≠ 1 ∧ (nodeF xs t).l.all I = true) then
      (nameP (nodeF xs t).o ++ (parF (patT xs I) a (nodeF xs t).l).1, (parF (patT xs I) a (nodeF xs t).l).2)
    else match subO xs I (nodeF xs t) with
      | none => (nameP (nodeF xs t).o ++ 35 :: Lib.itoa (numN a t), numA a t)
      | some l => (nameP (nodeF xs t).o ++ 35 :: (Lib.itoa (numN a t) ++ (parF (patT xs I) (numA a t) l).1), (parF (patT xs I) (numA a t) l).2) := by
  have sub : ∀ x ∈ (nodeF xs t).l, ∀ a, Go.KK.patF xs I t.toNat a x = patT xs I a x := fun x hx a => by
    have hp := part_lt ok ht hx
    exact pat_fuel ok I t.toNat x (by omega) hp.2.2 t.toNat (by omega) a
  unfold patT at sub ⊢
  rw [Go.KK.patF]
  split
  · rfl
  · split
    · rw [parF_congr a sub]
    · rcases hs : subO xs I (nodeF xs t) with _ | l
      · rfl
      · simp only
        rw [parF_congr _ fun x hx => sub x (sub_mem ok ht hs x hx)]
theorem pats_app (xs : List ND) (I : Int → Bool) : ∀ (l m a : List Int), patsF xs I a (l ++ m) = ((patsF xs I a l).1 ++ (patsF xs I (patsF xs I a l).2 m).1, (patsF xs I (patsF xs I a l).2 m).2)
  | [], m, a => rfl
  | t :: l, m, a => by
    show ((patT xs I a t).1 :: (patsF xs I (patT xs I a t).2 (l ++ m)).1, (patsF xs I (patT xs I a t).2 (l ++ m)).2) = _
    rw [pats_app xs I l m]
    rfl
/-- The same nodes, but for the atoms' names. -/
def Ren (xs ys : List ND) : Prop := xs.length = ys.length ∧ ∀ t, (nodeF xs t).o = (nodeF ys t).o ∧ (nodeF xs t).s = (nodeF ys t).s ∧ (nodeF xs t).l = (nodeF ys t).l
theorem Ren.symm {xs ys : List ND} (h : Ren xs ys) : Ren ys xs := ⟨h.1.symm, fun t => ⟨(h.2 t).1.symm, (h.2 t).2.1.symm, (h.2 t).2.2.symm⟩⟩
end Go.KK

/- plain: what was locked looks the same to who has no key (NodesHide). -/
namespace Go.KK
open Go.RowKit
set_option linter.unusedVariables false
set_option linter.unusedSimpArgs false

/-- What was told, and what is made of it. -/
inductive Pub (X : List ND) (l : List Int) : Int → Prop
  | known (t : Int) (h : t ∈ l) : Pub X l t
  | made (t : Int) (h : hasB X t = true) (ho : (nodeF X t).o ≠ 1) (hp : ∀ x ∈ (nodeF X t).l, Pub X l x) : Pub X l t
section
variable {X : List ND} {l : List Int}
theorem Pub.parts (h9 : ∀ t ∈ l, (nodeF X t).o = 9) {t : Int} (ht : Pub X l t) (ho : (nodeF X t).o ≠ 9) : (nodeF X t).o ≠ 1 ∧ ∀ x ∈ (nodeF X t).l, Pub X l x := by
  cases ht with
  | known _ h => exact absurd (h9 t h) ho
  | made _ a b c => exact ⟨b, c⟩
theorem mem_two {l : List Int} (h : l.length = 2) {x : Int} (hx : x ∈ l) : x = l.getD 0 0 ∨ x = l.getD 1 0 := by
  match l, h with
  | [a, b], _ =>
    simp only [List.mem_cons, List.mem_nil_iff, or_false] at hx
    exact hx
/-- Terms that are locked, whose keys are made of nothing that was told. -/
structure Opq (X : List ND) (l : List Int) : Prop where
  has : ∀ t ∈ l, hasB X t = true
  o9 : ∀ t ∈ l, (nodeF X t).o = 9
  key : ∀ t ∈ l, ¬ Pub X l ((nodeF X t).l.getD 0 0)
theorem pub_cl (ok : Okay X) (h : Opq X l) : Cl X (Pub X l) := by
  intro P c hr hp
  cases hr with
  | comp _ ht ho => exact .made c ht ho hp
  | list t x ht ho hx => exact ((hp t (by simp)).parts h.o9 (by omega)).2 c hx
  | opn t x ht ho hk hx => exact ((hp t (by simp)).parts h.o9 (by omega)).2 c (List.mem_of_mem_drop (List.mem_of_mem_take hx))
  | enc t x ht ho hx =>
    have hk : Pub X l ((nodeF X t).l.getD 0 0) := hp _ (by simp)
    cases hp t (by simp) with
    | known _ h' => exact absurd hk (h.key t h')
    | made _ _ _ c' => exact c' c (List.mem_of_mem_drop hx)
  | sig t ht ho => exact ((hp t (by simp)).parts h.o9 (by omega)).2 _ (getD_mem (by rw [len_of ok ht ho rfl]; decide))
  | unbl t u ht hu ho hb uo u0 u1 =>
    have pt := ((hp t (by simp)).parts h.o9 (by omega)).2
    have l2 := len_of ok ht ho (k := 2) rfl
    have p1 := pt _ (getD_mem (k := 1) (by omega))
    have h1 := has_part ok ht (getD_mem (l := (nodeF X t).l) (k := 1) (by omega))
    have p2 := (p1.parts h.o9 (by omega)).2 _ (getD_mem (k := 0) (by rw [len_of ok h1 hb rfl]; decide))
    refine .made _ hu (by omega) fun x hx => ?_
    rcases mem_two (len_of ok hu uo rfl) hx with e | e
    · rw [e, u0]; exact pt _ (getD_mem (k := 0) (by omega))
    · rw [e, u1]; exact p2
  | blind t ht ho => exact ((hp t (by simp)).parts h.o9 (by omega)).2 _ (getD_mem (by rw [len_of ok ht ho rfl]; decide))
variable (h9 : ∀ t ∈ l, (nodeF X t).o = 9)
include h9
theorem pub_atom {i n : Int} (h : At X i (atN n)) : ¬ Pub X l i := fun hp => (hp.parts h9 (by rw [nodeF_at h]; show (1 : Int) ≠ 9; decide)).1 (by rw [nodeF_at h]; rfl)
theorem pub_nd {i o : Int} {m : List Int} (h : At X i (ndN o m)) (ho : o ≠ 9) (hp : Pub X l i) : ∀ x ∈ m, Pub X l x := by
  have := (hp.parts h9 (by rw [nodeF_at h]; exact ho)).2
  rwa [nodeF_at h] at this
theorem pub_key {i s c : Int} {lab : ByteArray} (h : KeyAt X i s lab c) (hp : Pub X l i) : Pub X l s := by
  obtain ⟨t, -, h2⟩ := h
  exact pub_nd h9 h2 (by decide) hp s (by simp)
theorem pub_dv {i s : Int} {lab : ByteArray} (h : DvAt X i s lab) (hp : Pub X l i) : Pub X l s := by
  obtain ⟨t, -, h2⟩ := h
  exact pub_key h9 h2 hp
theorem pub_nx {i c x : Int} {ls ep : List Int} (h : NxAt X i c x ls ep) (hp : Pub X l (ep.getD 5 0)) : Pub X l i := by
  obtain ⟨u, p, a, h1, h2, h3, h4, h5⟩ := h.go
  have hd := h5.d 2 (by decide)
  rw [show ep.getD 5 0 = a.getD 5 0 by rw [h1]; rfl] at hp
  have p2 := pub_key h9 h5.e (pub_dv h9 hd hp)
  have p3 := pub_nd h9 h5.m (by decide) p2 (ep.getD 0 0) (by simp)
  exact pub_nd h9 h2 (by decide) (pub_key h9 h3 p3) i (by simp)
theorem pub_xp {ex i c x cx : Int} {ls ep : List Int} {lab : ByteArray} (hn : NxAt X i c x ls ep) (h : XpAt X ex ep lab cx) (hp : Pub X l ex) : Pub X l i := by
  obtain ⟨y, h1, h2⟩ := h
  exact pub_nx h9 hn (pub_dv h9 h1 (pub_key h9 h2 hp))
omit h9
/-- Locked terms of an epoch whose first secret is an atom. -/
theorem lkd_opq {X0 : List ND} {ep : List Int} {cx ex i c x n : Int} {ls : List Int} {t : List TN} (h : Lkd X0 ep cx t X l ex) (hn : NxAt X i c x ls ep) (hi : At X i (atN n)) : Opq X l := by
  have go : ∀ y ∈ l, ∃ k : Nat, k < t.length ∧ y = l.getD k 0 := fun y hy => by
    obtain ⟨k, hk, rfl⟩ := List.mem_iff_getElem.1 hy
    exact ⟨k, by rw [← h.ll]; exact hk, by rw [List.getD_eq_getElem?_getD, List.getElem?_eq_getElem hk]; rfl⟩
  have h9 : ∀ y ∈ l, (nodeF X y).o = 9 := fun y hy => by
    obtain ⟨k, hk, rfl⟩ := go y hy
    obtain ⟨_, _, _, _, _, _, _, _, _, _, h3⟩ := h.at' k hk
    rw [nodeF_at h3]; rfl
  refine ⟨fun y hy => ?_, h9, fun y hy hp => ?_⟩
  · obtain ⟨k, hk, rfl⟩ := go y hy
    obtain ⟨_, _, _, _, _, _, _, _, _, _, h3⟩ := h.at' k hk
    exact h3.has
  · obtain ⟨k, hk, rfl⟩ := go y hy
    obtain ⟨_, key, _, _, _, _, _, _, h1, _, h3⟩ := h.at' k hk
    rw [nodeF_at h3] at hp
    exact pub_atom h9 hi (pub_xp h9 hn h.xp (pub_key h9 h1.hk hp))
/-- What is locked at two places is two terms. -/
theorem lkd_nodup {X0 : List ND} {ep : List Int} {cx ex : Int} {t : List TN} (h : Lkd X0 ep cx t X l ex) : l.Nodup := by
  rw [List.nodup_iff_pairwise_ne, List.pairwise_iff_getElem]
  intro i j hi hj hij e
  obtain ⟨_, _, _, _, _, _, _, _, h1, _, h3⟩ := h.at' i (by rw [← h.ll]; omega)
  obtain ⟨_, _, _, _, _, _, _, _, k1, _, k3⟩ := h.at' j (by rw [← h.ll]; omega)
  rw [List.getD_eq_getElem?_getD, List.getElem?_eq_getElem (by omega)] at h3
  rw [List.getD_eq_getElem?_getD, List.getElem?_eq_getElem hj] at k3
  simp only [Option.getD_some] at h3 k3
  rw [e] at h3
  have e2 := congrArg ND.l (h3.eq k3)
  simp only [ndN, List.cons.injEq] at e2
  have e3 := e2.1
  rw [e3] at h1
  have := digB_inj (ky_place h1 k1)
  omega
/-- The patterns of locked terms: so many numbers. -/
def encP (k : Nat) : List UInt8 := nameP 9 ++ 35 :: Lib.itoa (k : Int)
theorem pats_opq (ok : Okay X) {I : Int → Bool} : ∀ (m a : List Int), (∀ t ∈ m, hasB X t = true ∧ (nodeF X t).o = 9 ∧ I ((nodeF X t).l.getD 0 0) = false) → (a ++ m).Nodup → patsF X I a m = ((List.range m.length).map (fun k => encP (a.length + k)), a ++ m)
  | [], a, _, _ => by simp [patsF]
  | t :: m, a, h, hn => by
    obtain ⟨h1, h2, h3⟩ := h t (by simp)
    have hta : t ∉ a := fun hh => by
      rw [List.nodup_append] at hn
      exact hn.2.2 t hh t (by simp) rfl
    have hlen := len_of ok h1 h2 (k := 4) rfl
    have hall : (nodeF X t).l.all I = false := by
      rw [List.all_eq_false]
      exact ⟨_, getD_mem (k := 0) (by omega), by rw [h3]; decide⟩
    have e : patT X I a t = (encP a.length, a ++ [t]) := by
      rw [pat_eq ok I h1, if_neg (by omega), if_neg (by rintro (h | ⟨_, h⟩); · omega
                                                        · rw [hall] at h; cases h)]
      have : subO X I (nodeF X t) = none := by
        unfold subO
        rw [if_neg (by omega), if_pos h2, h3]; rfl
      rw [this]
      unfold numN numA encP
      rw [if_neg hta, if_neg hta, h2]
    have ih := pats_opq ok m (a ++ [t]) (fun x hx => h x (by simp [hx])) (by rw [List.append_assoc]; exact hn)
    show ((patT X I a t).1 :: (patsF X I (patT X I a t).2 m).1, (patsF X I (patT X I a t).2 m).2) = _
    rw [e]
    dsimp only
    rw [ih, List.length_cons, List.range_succ_eq_map, List.map_cons, List.map_map, List.append_assoc]
    congr 2
    refine List.map_congr_left fun k _ => ?_
    show encP ((a ++ [t]).length + k) = encP (a.length + (k + 1))
    rw [List.length_append, List.length_singleton, Nat.add_assoc, Nat.add_comm 1 k]
theorem opq_pats (ok : Okay X) (h : Opq X l) (hn : l.Nodup) : (patsF X (derB X l) [] l).1 = (List.range l.length).map encP := by
  have := pats_opq ok (I := derB X l) l [] (fun t ht => ⟨h.has t ht, h.o9 t ht, by
    rcases hd : derB X l ((nodeF X t).l.getD 0 0) with _ | _
    · rfl
    · exact absurd (der_least (pub_cl ok h) (fun x hx => .known x hx) (derB_iff.1 hd)) (h.key t ht)⟩) (by simpa using hn)
  rw [this]
  simp
theorem encP_len (k : Nat) (hk : k ≤ 1000) : (encP k).length ≤ 100 := by
  unfold encP
  have := Lib.itoa_length_le (k : Int) (by omega) (by omega)
  rw [List.length_append, List.length_cons]
  have : (nameP 9).length = 3 := by decide
  omega
theorem opq_atom (ok : Okay X) (h : Opq X l) {g : Int} (hg : (nodeF X g).o = 1) : derB X l g = false := by
  rcases hd : derB X l g with _ | _
  · rfl
  · have := der_least (pub_cl ok h) (fun x hx => .known x hx) (derB_iff.1 hd)
    exact absurd hg (this.parts h.o9 (by omega)).1
end
end Go.KK

/- deduce: a space of terms in memory; add. -/
namespace Go.Proofs.YtfmkniakfgpgjaaGreatDoor
open Go.RowKit Go.KK Go.Shelf Go.Maps
set_option linter.unusedVariables false
set_option linter.unusedSimpArgs false

/-- A space: its terms and what each is looked at for (which only read, in R), and which are in and open (all else of it in G). -/
structure SpA (W : World) (G R : Nat → Prop) (sp : Nat) (lv uv : Value) (xs : List ND) (s : SD) : Prop where
  go : ∃ iv ov, W.heap[sp]? = some (.cells #[lv, iv, uv, ov] 120 (0, 0)) ∧ W.ownsRow 0 4 1 iv s.i.length (s.i.map .bool) ∧ W.ownsRow 0 3 1 ov s.o.length (s.o.map (.int .i64)) ∧ (∀ b, iv.ownBlock = some b → G b ∧ b ≠ sp) ∧ (∀ b, ov.ownBlock = some b → G b ∧ b ≠ sp)
  gs : G sp
  glt : ∀ b, G b → b < W.heap.size
  gr : ∀ b, R b → ¬ G b
  rlt : ∀ b, R b → b < W.heap.size
  rdl : ∃ A c qs, lv = .slice A xs.length c ∧ qs.length = xs.length ∧ ∀ W' : World, (∀ b, R b → W'.heap[b]? = W.heap[b]?) → SlA W' 4 A xs.length c (nds xs qs) ∧ ∀ (j : Nat) x q, xs[j]? = some x → qs[j]? = some q → In1 W' q x.l
  rdu : ∃ A c qs, uv = .slice A xs.length c ∧ qs.length = xs.length ∧ ∀ W' : World, (∀ b, R b → W'.heap[b]? = W.heap[b]?) → SlA W' 1 A xs.length c qs ∧ ∀ (j : Nat) q, qs[j]? = some q → In1 W' q (uses xs (j : Int))
  ok : Okay xs
  len : s.i.length = xs.length
  ol : s.o.length + s.i.count false ≤ xs.length
/-- What a call on a space leaves. -/
def SpS (W : World) (G R : Nat → Prop) (sp : Nat) (lv uv : Value) (xs : List ND) (s : SD) (W' : World) : Prop := ∃ G', SpA W' G' R sp lv uv xs s ∧ Turn G W W' ∧ ∀ b, G' b → G b ∨ W.heap.size ≤ b
section
variable {W W' W'' : World} {G G' R : Nat → Prop} {sp : Nat} {lv uv : Value} {xs : List ND} {s s' : SD}
theorem rdl_kept (h : ∃ A c qs, lv = .slice A xs.length c ∧ qs.length = xs.length ∧ ∀ W' : World, (∀ b, R b → W'.heap[b]? = W.heap[b]?) → SlA W' 4 A xs.length c (nds xs qs) ∧ ∀ (j : Nat) x q, xs[j]? = some x → qs[j]? = some q → In1 W' q x.l) (hb : ∀ b, R b → W'.heap[b]? = W.heap[b]?) :
    ∃ A c qs, lv = .slice A xs.length c ∧ qs.length = xs.length ∧ ∀ W2 : World, (∀ b, R b → W2.heap[b]? = W'.heap[b]?) → SlA W2 4 A xs.length c (nds xs qs) ∧ ∀ (j : Nat) x q, xs[j]? = some x → qs[j]? = some q → In1 W2 q x.l := by
  obtain ⟨A, c, qs, h1, h2, h3⟩ := h
  exact ⟨A, c, qs, h1, h2, fun W2 hW => h3 W2 fun b hr => (hW b hr).trans (hb b hr)⟩
theorem rdu_kept (h : ∃ A c qs, uv = .slice A xs.length c ∧ qs.length = xs.length ∧ ∀ W' : World, (∀ b, R b → W'.heap[b]? = W.heap[b]?) → SlA W' 1 A xs.length c qs ∧ ∀ (j : Nat) q, qs[j]? = some q → In1 W' q (uses xs (j : Int))) (hb : ∀ b, R b → W'.heap[b]? = W.heap[b]?) :
    ∃ A c qs, uv = .slice A xs.length c ∧ qs.length = xs.length ∧ ∀ W2 : World, (∀ b, R b → W2.heap[b]? = W'.heap[b]?) → SlA W2 1 A xs.length c qs ∧ ∀ (j : Nat) q, qs[j]? = some q → In1 W2 q (uses xs (j : Int)) := by
  obtain ⟨A, c, qs, h1, h2, h3⟩ := h
  exact ⟨A, c, qs, h1, h2, fun W2 hW => h3 W2 fun b hr => (hW b hr).trans (hb b hr)⟩
theorem SpA.kept (h : SpA W G R sp lv uv xs s) (hb : ∀ b, G b ∨ R b → W'.heap[b]? = W.heap[b]?) (hs : W.heap.size ≤ W'.heap.size) : SpA W' G R sp lv uv xs s := by
  obtain ⟨iv, ov, h1, h2, h3, h4, h5⟩ := h.go
  exact ⟨⟨iv, ov, (hb _ (.inl h.gs)).trans h1, own_block h2 fun b e => hb b (.inl (h4 b e).1), own_block h3 fun b e => hb b (.inl (h5 b e).1), h4, h5⟩, h.gs, fun b hb' => Nat.lt_of_lt_of_le (h.glt b hb') hs, h.gr, fun b hb' => Nat.lt_of_lt_of_le (h.rlt b hb') hs,
    rdl_kept h.rdl fun b hr => hb b (.inr hr), rdu_kept h.rdu fun b hr => hb b (.inr hr), h.ok, h.len, h.ol⟩
theorem SpA.ext (h : SpA W G R sp lv uv xs s) (hb : Below W.heap.size W W') : SpA W' G R sp lv uv xs s :=
  h.kept (fun b hz => hb.block b (hz.elim (h.glt b) (h.rlt b))) hb.size
theorem SpA.turn {F : Nat → Prop} (h : SpA W G R sp lv uv xs s) (ht : Turn F W W') (hd : ∀ b, F b → ¬ G b ∧ ¬ R b) : SpA W' G R sp lv uv xs s :=
  h.kept (fun b hz => ht.block b (hz.elim (h.glt b) (h.rlt b)) fun hf => hz.elim (hd b hf).1 (hd b hf).2) ht.size
theorem SpA.stay (h : SpA W G R sp lv uv xs s) (hb : Below W.heap.size W W') : SpS W G R sp lv uv xs s W' := ⟨G, h.ext hb, .of_below hb, fun _ h => .inl h⟩
theorem SpS.chain (ht : Turn G W W') (hz : ∀ b, G' b → G b ∨ W.heap.size ≤ b) (h : SpS W' G' R sp lv uv xs s W'') : SpS W G R sp lv uv xs s W'' := by
  obtain ⟨G2, h1, h2, h3⟩ := h
  exact ⟨G2, h1, ht.trans h2 hz, fun b hb => (h3 b hb).elim (hz b) fun h => .inr (Nat.le_trans ht.size h)⟩
theorem SpS.first (hb : Below W.heap.size W W') (h : SpS W' G R sp lv uv xs s W'') : SpS W G R sp lv uv xs s W'' := .chain (.of_below hb) (fun _ h => .inl h) h
theorem SpS.next (h : SpS W G R sp lv uv xs s W') (hb : Below W'.heap.size W' W'') : SpS W G R sp lv uv xs s W'' := by
  obtain ⟨G2, h1, h2, h3⟩ := h
  exact ⟨G2, h1.ext hb, h2.trans (.of_below (F := G2) hb) h3, h3⟩
/-- The box's cells. -/
theorem SpA.cells (h : SpA W G R sp lv uv xs s) : ∃ iv ov, (W.cell? ⟨sp, 0, none⟩ = some lv ∧ W.cell? ⟨sp, 1, none⟩ = some iv ∧ W.cell? ⟨sp, 2, none⟩ = some uv ∧ W.cell? ⟨sp, 3, none⟩ = some ov) ∧ W.frozen? ⟨sp, 3, none⟩ = false ∧ W.ownsRow 0 4 1 iv s.i.length (s.i.map .bool) ∧ W.ownsRow 0 3 1 ov s.o.length (s.o.map (.int .i64)) ∧ (∀ b, iv.ownBlock = some b → G b ∧ b ≠ sp) ∧ (∀ b, ov.ownBlock = some b → G b ∧ b ≠ sp) := by
  obtain ⟨iv, ov, h1, h2, h3, h4, h5⟩ := h.go
  have hr : W.ownsRow 0 120 4 (.slice (some ⟨sp, 0, none⟩) 1 1) 1 [lv, iv, uv, ov] := ⟨by simp, .inr ⟨sp, 1, _, rfl, Nat.zero_le _, h1, Nat.le_refl _, by decide, rfl, by simp⟩⟩
  obtain ⟨hc, _, _, _, hf⟩ := box4 hr
  exact ⟨iv, ov, hc, hf, h2, h3, h4, h5⟩
/-- A term's cell among those that are in. -/
theorem in_cell {iv : Value} {I : List Bool} (h : W.ownsRow 0 4 1 iv I.length (I.map .bool)) {t : Nat} (ht : t < I.length) : ∃ ib cap, iv = .slice (some ⟨ib, 0, none⟩) I.length cap ∧ W.cell? ⟨ib, t, none⟩ = some (.bool (inB I t)) ∧ W.frozen? ⟨ib, t, none⟩ = false := by
  rcases h.2 with ⟨_, h0⟩ | ⟨g, cap, cur, rfl, _⟩
  · omega
  · refine ⟨g, cap, rfl, ?_, h.frozenAt t⟩
    have := h.cells rfl t (.bool I[t]) (by rw [List.getElem?_map, List.getElem?_eq_getElem ht]; rfl)
    rw [add_lit, Nat.zero_add] at this
    rw [this]
    unfold inB
    rw [Int.toNat_natCast, List.getD, List.getElem?_eq_getElem ht]
    rfl
/-- One more is in. -/
theorem SpA.mark (h : SpA W G R sp lv uv xs s) {iv : Value} (hc : W.cell? ⟨sp, 1, none⟩ = some iv) {ib cap t : Nat} (hiv : iv = .slice (some ⟨ib, 0, none⟩) s.i.length cap) (ht : t < xs.length) (hf : inB s.i t = false) :
    SpA (W.setCell ⟨ib, t, none⟩ (.bool true)) G R sp lv uv xs ⟨s.i.set t true, s.o⟩ ∧ s.o.length + 1 + (s.i.set t true).count false ≤ xs.length ∧ G ib := by
  obtain ⟨iv', ov', h1, h2, h3, h4, h5⟩ := h.go
  have e : iv' = iv := by
    have := cell_of_row W sp 1 _ _ (0, 0) h1
    rw [hc] at this
    injection this with this
    exact this.symm
  subst e
  subst hiv
  have hib := h4 ib rfl
  have hl := h.len
  have hne : ∀ b, b ≠ ib → (W.setCell ⟨ib, t, none⟩ (.bool true)).heap[b]? = W.heap[b]? := fun b hb => Below.heap_setCell W ⟨ib, t, none⟩ _ b hb
  have hov : ∀ b, ov'.ownBlock = some b → b ≠ ib := fun b hb e => own_apart h2 h3 (by decide) ib rfl (e ▸ hb)
  have hcnt : (s.i.set t true).count false + 1 = s.i.count false := by
    have hlt : t < s.i.length := by omega
    have hf' : s.i[t] = false := by
      unfold inB at hf
      rw [Int.toNat_natCast, List.getD, List.getElem?_eq_getElem hlt] at hf
      simpa using hf
    rw [List.count_set (h := hlt), hf']
    have := List.count_pos_iff.2 (hf' ▸ List.getElem_mem hlt)
    simp; omega
  have hol := h.ol
  refine ⟨⟨⟨_, ov', (hne sp hib.2.symm).trans h1, ?_, own_block h3 fun b hb => hne b (hov b hb), h4, h5⟩, h.gs, fun b hb => by simpa using h.glt b hb, h.gr, fun b hb => by simpa using h.rlt b hb, rdl_kept h.rdl fun b hb => hne b fun e => h.gr b hb (e ▸ hib.1), rdu_kept h.rdu fun b hb => hne b fun e => h.gr b hb (e ▸ hib.1), h.ok, by simp [hl], by show s.o.length + (s.i.set t true).count false ≤ _; omega⟩, by omega, hib.1⟩
  have := (h2.stored t (.bool true)).1
  rw [← List.map_set] at this
  simpa using this
/-- One more is open. -/
theorem SpA.push (h : SpA W G R sp lv uv xs s) {ov ov' : Value} {t : Int} (hc : W.cell? ⟨sp, 3, none⟩ = some ov) (hb1 : Below W.heap.size W W') (hg : W'.grownBy W'' ov.ownBlock) (hr : W''.ownsRow 0 3 1 ov' (s.o.length + 1) ((s.o ++ [t]).map (.int .i64))) (hl : ov'.ownBlock = ov.ownBlock ∨ ov'.ownBlock = some W'.heap.size) (hol : s.o.length + 1 + s.i.count false ≤ xs.length) :
    SpS W G R sp lv uv xs ⟨s.i, s.o ++ [t]⟩ (W''.setCell ⟨sp, 3, none⟩ ov') := by
  obtain ⟨iv, ov2, h1, h2, h3, h4, h5⟩ := h.go
  have e : ov2 = ov := by
    have := cell_of_row W sp 3 _ _ (0, 0) h1
    rw [hc] at this
    injection this with this
    exact this.symm
  subst e
  have hsl := h.glt sp h.gs
  have hs1 := hb1.size
  have hs2 := hg.size
  have old : ∀ b, b < W.heap.size → ov2.ownBlock ≠ some b → b ≠ sp → (W''.setCell ⟨sp, 3, none⟩ ov').heap[b]? = W.heap[b]? := fun b hb hn hsp => by
    rw [Below.heap_setCell W'' ⟨sp, 3, none⟩ _ b hsp, hg.block b (by omega) (fun e => hn e.symm), hb1.block b hb]
  have hbox : W''.heap[sp]? = some (.cells #[lv, iv, uv, ov2] 120 (0, 0)) := by
    rw [hg.block sp (by omega) (fun e => (h5 sp e.symm).2 rfl), hb1.block sp hsl]
    exact h1
  have hvn : ∀ b, ov'.ownBlock = some b → b ≠ sp ∧ (G b ∨ (W.heap.size ≤ b ∧ b < W''.heap.size)) := fun b hb => by
    have hlt := (hr.lt b hb).2
    rcases hl with e | e
    · rw [e] at hb
      exact ⟨(h5 b hb).2, .inl (h5 b hb).1⟩
    · rw [e] at hb
      injection hb with hb
      exact ⟨by omega, .inr ⟨by omega, by omega⟩⟩
  refine ⟨fun b => G b ∨ (W.heap.size ≤ b ∧ b < W''.heap.size), ⟨⟨iv, ov', ?_, own_block h2 fun b hb => old b (h.glt b (h4 b hb).1) (fun e => own_apart h2 h3 (by decide) b hb e) (h4 b hb).2, ?_, fun b hb => ⟨.inl (h4 b hb).1, (h4 b hb).2⟩, fun b hb => ⟨(hvn b hb).2, (hvn b hb).1⟩⟩, .inl h.gs, fun b hb => ?_, fun b hb hb' => ?_, fun b hb => ?_, rdl_kept h.rdl fun b hb => old b (h.rlt b hb) (fun e => h.gr b hb (h5 b e).1) (fun e => h.gr b hb (e ▸ h.gs)), rdu_kept h.rdu fun b hb => old b (h.rlt b hb) (fun e => h.gr b hb (h5 b e).1) (fun e => h.gr b hb (e ▸ h.gs)), h.ok, h.len, by show (s.o ++ [t]).length + _ ≤ _; rw [List.length_append]; simpa using hol⟩, ?_, fun b hb => hb.imp id fun h => h.1⟩
  · rw [heap_setCell_same W'' sp 3 _ _ ov' hbox]; rfl
  · rw [show (s.o ++ [t]).length = s.o.length + 1 by simp]
    exact own_block hr fun b hb => Below.heap_setCell W'' ⟨sp, 3, none⟩ _ b (hvn b hb).1
  · have : (W''.setCell ⟨sp, 3, none⟩ ov').heap.size = W''.heap.size := by simp
    rw [this]
    rcases hb with hb | hb
    · have := h.glt b hb; omega
    · exact hb.2
  · rcases hb' with hb' | hb'
    · exact h.gr b hb hb'
    · have := h.rlt b hb; omega
  · have : (W''.setCell ⟨sp, 3, none⟩ ov').heap.size = W''.heap.size := by simp
    rw [this]
    have := h.rlt b hb; omega
  · have t1 : Turn G W W'' := (Turn.of_below (F := G) hb1).trans (Turn.grown (F := G) hg fun b e => .inl (h5 b e).1) (fun _ h => .inl h)
    exact t1.trans (Turn.setCell (F := G) (w := W'') (a := ⟨sp, 3, none⟩) ov' (.inl h.gs)) (fun _ h => .inl h)
end
/-- A list that reads, whatever turns in G. -/
def KeepL (W : World) (G : Nat → Prop) (A : Option Addr) (n c : Nat) (l : List Int) : Prop := ∀ W' : World, W.heap.size ≤ W'.heap.size → (∀ b, b < W.heap.size → ¬ G b → W'.heap[b]? = W.heap[b]?) → SlA W' 1 A n c (l.map (.int .i64))
section
variable {W W' : World} {G G' R : Nat → Prop} {sp : Nat} {lv uv : Value} {xs : List ND} {s : SD} {A : Option Addr} {n c : Nat} {l : List Int}
theorem KeepL.here (h : KeepL W G A n c l) : SlA W 1 A n c (l.map (.int .i64)) := h W (Nat.le_refl _) fun _ _ _ => rfl
theorem KeepL.turn (h : KeepL W G A n c l) (ht : Turn G W W') : SlA W' 1 A n c (l.map (.int .i64)) := h W' ht.size ht.block
/-- A list whose cells lie where nothing turns. -/
theorem keepL_of (h : SlA W 1 A n c (l.map (.int .i64))) (hg : ∀ b o, A = some ⟨b, o, none⟩ → ¬ G b) : KeepL W G A n c l := fun W' _ hk =>
  ⟨h.nc, h.cm, h.len, fun j u hj => by
    obtain ⟨b, off, e, hc⟩ := h.cells j u hj
    refine ⟨b, off, e, ?_⟩
    rw [World.cell?_of_block (a := ⟨b, off + j, none⟩) (hk b (block_lt_of_cell hc) (hg b off e))]
    exact hc⟩
theorem keepL_new (x : Int) (hg : ∀ b, G b → b < W.heap.size) : KeepL (W.alloc (.cells #[.int .i64 x] 3)) G (some ⟨W.heap.size, 0, none⟩) 1 1 [x] :=
  keepL_of (SlA.lit1 _) fun b o e hb => by injection e with e; injection e with e _; have := hg b hb; omega
/-- A term's list. -/
theorem SpA.keep (h : SpA W G R sp lv uv xs s) {t : Nat} {x : ND} (hx : xs[t]? = some x) : ∃ bn on c0 A' c', lv = .slice (some ⟨bn, on, none⟩) xs.length c0 ∧ (∀ W' : World, W.heap.size ≤ W'.heap.size → (∀ b, b < W.heap.size → ¬ G b → W'.heap[b]? = W.heap[b]?) →
    W'.cell? ⟨bn, on + t * 4, none⟩ = some (.int .i64 x.o) ∧ W'.cell? ⟨bn, on + t * 4 + 1, none⟩ = some (.int .i64 x.n) ∧ W'.cell? ⟨bn, on + t * 4 + 2, none⟩ = some (.string x.s) ∧ W'.cell? ⟨bn, on + t * 4 + 3, none⟩ = some (.slice A' x.l.length c')) ∧ KeepL W G A' x.l.length c' x.l := by
  have ht := (List.getElem?_eq_some_iff.1 hx).1
  obtain ⟨A, c0, qs, rfl, hq, hrd⟩ := h.rdl
  have hqt : qs[t]? = some (qs[t]'(by omega)) := List.getElem?_eq_getElem (by omega)
  generalize qs[t]'(by omega) = q at hqt
  obtain ⟨hs0, hi0⟩ := hrd W fun _ _ => rfl
  obtain ⟨A', c', rfl, -⟩ := hi0 t x q hx hqt
  obtain ⟨bn, on, rfl, -⟩ := hs0.cells (t * 4 + 0) _ (nds_get hx hqt (by decide))
  have all : ∀ W' : World, (∀ b, b < W.heap.size → ¬ G b → W'.heap[b]? = W.heap[b]?) → (W'.cell? ⟨bn, on + t * 4, none⟩ = some (.int .i64 x.o) ∧ W'.cell? ⟨bn, on + t * 4 + 1, none⟩ = some (.int .i64 x.n) ∧ W'.cell? ⟨bn, on + t * 4 + 2, none⟩ = some (.string x.s) ∧ W'.cell? ⟨bn, on + t * 4 + 3, none⟩ = some (.slice A' x.l.length c')) ∧ SlA W' 1 A' x.l.length c' (x.l.map (.int .i64)) := fun W' hk => by
    obtain ⟨hs, hi⟩ := hrd W' fun b hb => hk b (h.rlt b hb) (h.gr b hb)
    obtain ⟨A2, c2, e2, hs2⟩ := hi t x _ hx hqt
    injection e2 with e2 _ e3
    subst e2; subst e3
    have cell : ∀ k, k < 4 → ∀ u, (x.cells (.slice A' x.l.length c'))[k]? = some u → W'.cell? ⟨bn, on + (t * 4 + k), none⟩ = some u := fun k hk u hu => by
      obtain ⟨b, off, e, hc⟩ := hs.cells (t * 4 + k) u ((nds_get hx hqt hk).trans hu)
      injection e with e
      injection e with e e'
      subst e; subst e'
      exact hc
    exact ⟨⟨cell 0 (by decide) _ rfl, by have := cell 1 (by decide) _ rfl; rwa [← Nat.add_assoc] at this, by have := cell 2 (by decide) _ rfl; rwa [← Nat.add_assoc] at this, by have := cell 3 (by decide) _ rfl; rwa [← Nat.add_assoc] at this⟩, hs2⟩
  exact ⟨bn, on, c0, A', c', rfl, fun W' _ hk => (all W' hk).1, fun W' _ hk => (all W' hk).2⟩
/-- What a term is looked at again for. -/
theorem SpA.keepU (h : SpA W G R sp lv uv xs s) {t : Nat} (ht : t < xs.length) : ∃ bu ou c0 A' c', uv = .slice (some ⟨bu, ou, none⟩) xs.length c0 ∧ (∀ W' : World, W.heap.size ≤ W'.heap.size → (∀ b, b < W.heap.size → ¬ G b → W'.heap[b]? = W.heap[b]?) → W'.cell? ⟨bu, ou + t, none⟩ = some (.slice A' (uses xs (t : Int)).length c')) ∧ KeepL W G A' (uses xs (t : Int)).length c' (uses xs (t : Int)) := by
  obtain ⟨A, c0, qs, rfl, hq, hrd⟩ := h.rdu
  have hqt : qs[t]? = some (qs[t]'(by omega)) := List.getElem?_eq_getElem (by omega)
  generalize qs[t]'(by omega) = q at hqt
  obtain ⟨hs0, hi0⟩ := hrd W fun _ _ => rfl
  obtain ⟨A', c', rfl, -⟩ := hi0 t q hqt
  obtain ⟨bn, on, rfl, -⟩ := hs0.cells t _ hqt
  have all : ∀ W' : World, (∀ b, b < W.heap.size → ¬ G b → W'.heap[b]? = W.heap[b]?) → W'.cell? ⟨bn, on + t, none⟩ = some (.slice A' (uses xs (t : Int)).length c') ∧ SlA W' 1 A' (uses xs (t : Int)).length c' ((uses xs (t : Int)).map (.int .i64)) := fun W' hk => by
    obtain ⟨hs, hi⟩ := hrd W' fun b hb => hk b (h.rlt b hb) (h.gr b hb)
    obtain ⟨A2, c2, e2, hs2⟩ := hi t _ hqt
    injection e2 with e2 _ e3
    subst e2; subst e3
    obtain ⟨b, off, e, hc⟩ := hs.cells t _ hqt
    injection e with e
    injection e with e e'
    subst e; subst e'
    exact ⟨hc, hs2⟩
  exact ⟨bn, on, c0, A', c', rfl, fun W' _ hk => (all W' hk).1, fun W' _ hk => (all W' hk).2⟩
end
set_option maxHeartbeats 4000000 in
set_option maxRecDepth 100000 in
theorem add_any (W : World) (G R : Nat → Prop) (sp : Nat) (lv uv : Value) (xs : List ND) (s : SD) (A : Option Addr) (n c : Nat) (l : List Int) (h : SpA W G R sp lv uv xs s) (hl : KeepL W G A n c l) (hh : ∀ t ∈ l, hasB xs t = true) (hn : n ≤ 1000000) :
    Calls Tryz.prog 139 #[.pointer (some ⟨sp, 0, none⟩), .slice A n c] W fun e w' => e = .returned (.tuple #[]) ∧ SpS W G R sp lv uv xs (Go.KK.addL s l) w' := by
  obtain ⟨i0, hi, hz0, hz1, hz2⟩ := info_parts Tryz.infoInt
  have H := hid h; have HL := hid hl; have HH := hid hh
  have hln := hl.here.lenI
  clear h hl hh
  go_enter Tryz.func139, Tryz.ntmps139
  go_wp2_with fail
  go_loopw [8] (fun v wr => ∃ (j : Nat) (G' : Nat → Prop), v = .int .i64 j ∧ j ≤ n ∧ Hid (SpA wr G' R sp lv uv xs (Go.KK.addL s (l.take j)) ∧ Turn G W wr ∧ ∀ b, G' b → G b ∨ W.heap.size ≤ b)) (fun v _ => n - (intOf v).toNat)
  case atStart => exact ⟨0, G, rfl, Nat.zero_le _, hid ⟨H.out, Turn.refl _ _, fun _ h => .inl h⟩⟩
  case round =>
    obtain ⟨j, G', hv, hj, HR⟩ := hrel
    subst hv
    obtain ⟨hs, ht, hg⟩ := HR.out
    have HS := hid hs; have HT := hid ht; have HG := hid hg
    clear hs ht hg HR
    by_cases hlt : j < n
    · obtain ⟨b1, o1, t, rfl, htj, hct⟩ := (HL.out.turn HT.out).elemI hlt
      have hth := HH.out t (List.mem_of_getElem? htj)
      have HLT := hid (show Go.KK.addL s (l.take (j + 1)) = add1 (Go.KK.addL s (l.take j)) t by rw [take_one htj]; unfold Go.KK.addL; rw [List.foldl_append]; rfl)
      have hlt' : (j : Int) < (n : Int) := by omega
      have h2 := has_iff.1 hth
      obtain ⟨k, rfl⟩ := Int.eq_ofNat_of_zero_le h2.1
      have hkx : k < xs.length := by omega
      have hlen := HS.out.len
      have hxn : xs.length ≤ 100000 := HS.out.ok.len
      have hol := HS.out.ol
      generalize Go.KK.addL s (l.take j) = sj at *
      obtain ⟨iv, ov, ⟨c0, c1, c2, c3⟩, f3, own1, own3, -, g3⟩ := HS.out.cells
      obtain ⟨ib, cap, rfl, hcb, hfb⟩ := in_cell own1 (t := k) (by omega)
      have hki : (k : Int) < (sj.i.length : Int) := by omega
      have HO3 := hid own3
      rcases hb : inB sj.i (k : Int) with _ | _
      · rw [hb] at hcb
        have HM := hid (HS.out.mark c1 rfl hkx hb)
        have HAD := hid (show add1 sj (k : Int) = ⟨sj.i.set k true, sj.o ++ [(k : Int)]⟩ by unfold add1; rw [hb, if_neg (by decide), Int.toNat_natCast])
        clear hth h2 htj own1 own3 hb
        go_upto_region 5 with fail
        obtain ⟨hm1, hm2, hm3⟩ := HM.out
        refine forget (R := fun V => SpA V G' R sp lv uv xs ⟨sj.i.set k true, sj.o⟩ ∧ Turn G' wr V) ?_ ⟨hm1, Turn.setCell (F := G') (w := wr) (a := ⟨ib, k, none⟩) _ (.inl hm3)⟩
        clear c0 c1 c2 c3 f3 hcb hfb hm1 hm3 HM HO3 g3 hct
        rintro V ⟨hv1, hv2⟩
        have HV := hid hv1; have HVT := hid hv2
        clear hv1 hv2
        obtain ⟨iv2, ov2, ⟨c0, c1, c2, c3⟩, f3, -, own3, -, g3⟩ := HV.out.cells
        obtain ⟨Ao, co, rfl, -⟩ := SlA.owned own3
        have HO3 := hid own3; have HG3 := hid g3
        have hspl := HV.out.glt sp HV.out.gs
        have c3' : (V.alloc (.cells #[.int .i64 k] 3)).cell? ⟨sp, 3, none⟩ = some (.slice Ao sj.o.length co) := (World.cell?_alloc_past _ _ _ hspl).trans c3
        have C3 := hid c3
        have hboxV : ∀ V' : World, V'.heap[sp]? = V.heap[sp]? → V'.cell? ⟨sp, 3, none⟩ = some (.slice Ao sj.o.length co) ∧ V'.frozen? ⟨sp, 3, none⟩ = false := fun V' hV => by
          obtain ⟨iv3, ov3, h31, -⟩ := HV.out.go
          have h32 := cell_of_row V sp 3 _ _ (0, 0) h31
          rw [C3.out] at h32
          injection h32 with h32
          subst h32
          have hr : V'.ownsRow 0 120 4 (.slice (some ⟨sp, 0, none⟩) 1 1) 1 [lv, iv3, uv, .slice Ao sj.o.length co] := ⟨by simp, .inr ⟨sp, 1, _, rfl, Nat.zero_le _, hV.trans h31, Nat.le_refl _, by decide, rfl, by simp⟩⟩
          exact ⟨(box4 hr).1.2.2.2, (box4 hr).2.2.2.2⟩
        have HBV := hid hboxV
        have hne3 : (Value.slice Ao sj.o.length co).ownBlock ≠ some sp := fun e => (HG3.out sp e).2 rfl
        have HN3 := hid hne3
        clear own3 g3 hboxV hne3
        go_wp2_with (first
          | (at_builtin; refine wpList_append_sl _ rfl _ _ 33 rfl 0 3 i0 (.int .i64 0) 1 8 Tryz.underlying33 hi hz0 hz1 hz2 rfl (by decide) (.slice Ao sj.o.length co) sj.o.length (sj.o.map (.int .i64)) rfl (HO3.out.alloc _) _ 1 1 [.int .i64 k] rfl (SlA.lit1 _) (one_int _ _) (by unfold maxLen; omega) (by omega) (Nat.zero_le _) ?_; intro v5 w5 own5 gr5 loc5; obtain ⟨A5, c5, rfl, -⟩ := SlA.owned own5; have HP := hid (HV.out.push (t := (k : Int)) C3.out ((Below.refl _ _).alloc (Nat.le_refl _) (.cells #[.int .i64 k] 3)) gr5 (by rw [List.map_append]; exact own5) loc5 hm2); have hq5 := HBV.out w5 ((gr5.block sp (by simp; omega) (fun e => HN3.out e.symm)).trans (heap_alloc_old _ _ hspl)); obtain ⟨q5, qf5⟩ := hq5; clear own5 gr5 loc5)
          | fail)
        obtain ⟨G2, p1, p2, p3⟩ := HP.out
        have hvs := HVT.out.size
        go_roundw
        case rel =>
          refine ⟨j + 1, G2, by go_num, by omega, hid ⟨by rw [HLT.out, HAD.out]; exact p1, (HT.out.trans (HVT.out.trans p2 (fun _ h => .inl h)) HG.out), fun b hb => ?_⟩⟩
          have := HT.out.size
          rcases p3 b hb with h' | h'
          · exact HG.out b h'
          · exact .inr (by omega)
        case measure => simp [intOf]; omega
      · rw [hb] at hcb
        have HAD := hid (show add1 sj (k : Int) = sj by unfold add1; rw [hb]; rfl)
        clear hth h2 htj own1 own3 hb
        go_wp2_with fail
        go_roundw
        case rel => exact ⟨j + 1, G', by go_num, by omega, hid ⟨by rw [HLT.out, HAD.out]; exact HS.out, HT.out, HG.out⟩⟩
        case measure => simp [intOf]; omega
    · have hjn : j = n := by omega
      have HTK := hid (show l.take j = l from List.take_of_length_le (by omega))
      have hlt' : ¬ (j : Int) < (n : Int) := by omega
      go_wp2_with fail
      go_end0
      exact ⟨rfl, G', by rw [← HTK.out]; exact HS.out, HT.out, HG.out⟩
end Go.Proofs.YtfmkniakfgpgjaaGreatDoor

/- deduce: all; unblind. -/
namespace Go.Proofs.YtfmkniakfgpgjaaGreatDoor
open Go.RowKit Go.KK Go.Shelf Go.Maps
set_option linter.unusedVariables false
set_option linter.unusedSimpArgs false

section
variable (W : World) (G R : Nat → Prop) (sp : Nat) (lv uv : Value) (xs : List ND) (s : SD)
theorem all1_any (b : Nat) (t : Int) (h : SpA W G R sp lv uv xs s) (hb : W.cell? ⟨b, 0, none⟩ = some (.pointer (some ⟨sp, 0, none⟩))) (ht : hasB xs t = true) :
    Calls Tryz.prog 147 #[.int .i64 t, .pointer (some ⟨b, 0, none⟩)] W fun e w' => e = .returned (.bool (!inB s.i t)) ∧ w' = W := by
  have h2 := has_iff.1 ht
  obtain ⟨k, rfl⟩ := Int.eq_ofNat_of_zero_le h2.1
  have hlen := h.len
  have hkx : k < xs.length := by omega
  obtain ⟨iv, ov, ⟨c0, c1, c2, c3⟩, f3, own1, own3, -, g3⟩ := h.cells
  obtain ⟨ib, cap, rfl, hcb, hfb⟩ := in_cell own1 (t := k) (by omega)
  have hki : (k : Int) < (s.i.length : Int) := by omega
  clear h own1 own3 g3 h2
  go_enter Tryz.func147, Tryz.ntmps147
  go_wp2_with fail
  go_ret
  exact ⟨rfl, rfl⟩
set_option maxHeartbeats 1000000 in
theorem ixf_all (b : Nat) (A : Option Addr) (n c : Nat) (l : List Int) (h : SpA W G R sp lv uv xs s) (hb : W.cell? ⟨b, 0, none⟩ = some (.pointer (some ⟨sp, 0, none⟩))) (hl : SlA W 1 A n c (l.map (.int .i64))) (hh : ∀ t ∈ l, hasB xs t = true) (hn : n ≤ 2147483648) :
    Calls Tryz.prog 78 #[.slice A n c, .func (.func 147) #[] #[.pointer (some ⟨b, 0, none⟩)]] W fun e w' => (∃ k : Int, e = .returned (.int .i64 k) ∧ decide (0 ≤ k) = !l.all (inB s.i)) ∧ w' = W := by
  have H := hid h; have HB := hid hb; have HS := hid hl; have HL := hid hl.lenI; have HH := hid hh
  clear h hb hl hh
  go_enter Tryz.func78, Tryz.ntmps78
  go_wp2
  go_loopw [8] (fun i wr => ∃ j : Nat, i = .int .i64 j ∧ j ≤ n ∧ Hid (l.all (inB s.i) = (l.drop j).all (inB s.i)) ∧ wr = W) (fun i _ => n - (intOf i).toNat)
  case atStart => exact ⟨0, rfl, by omega, hid rfl, rfl⟩
  case round =>
    obtain ⟨j, hi, hj, HJ, hw⟩ := hrel
    subst hi; subst hw
    by_cases hlt : j < n
    · obtain ⟨b1, o, z, rfl, hz, hc⟩ := HS.out.elemI hlt
      have HZH := hid (HH.out z (List.mem_of_getElem? hz))
      have HD := hid (drop_get hz); clear hz
      rcases hh : inB s.i z with _ | _
      · have HF := hid (show l.all (inB s.i) = false by rw [HJ.out, HD.out, List.all_cons, hh]; rfl)
        go_wp2_with (go_at_call 147; refine (all1_any _ G R sp lv uv xs s b z H.out HB.out HZH.out).mono ?_; rintro e w' ⟨rfl, hw'⟩; subst hw'; rw [hh])
        go_ret
        exact ⟨⟨j, rfl, by rw [HF.out, decide_eq_true (by omega)]; rfl⟩, rfl⟩
      · have HF := hid (show l.all (inB s.i) = (l.drop (j + 1)).all (inB s.i) by rw [HJ.out, HD.out, List.all_cons, hh]; rfl)
        go_wp2_with (go_at_call 147; refine (all1_any _ G R sp lv uv xs s b z H.out HB.out HZH.out).mono ?_; rintro e w' ⟨rfl, hw'⟩; subst hw'; rw [hh])
        go_roundw
        case rel => exact ⟨j + 1, by go_num, by omega, HF, by first | rfl | trivial⟩
        case measure => simp [intOf]; omega
    · have HF := hid (show l.all (inB s.i) = true by rw [HJ.out, List.drop_of_length_le (by have := HL.out; omega)]; rfl)
      go_wp2
      go_ret
      exact ⟨⟨-1, rfl, by rw [HF.out]; rfl⟩, rfl⟩
theorem ctf_all (b : Nat) (A : Option Addr) (n c : Nat) (l : List Int) (h : SpA W G R sp lv uv xs s) (hb : W.cell? ⟨b, 0, none⟩ = some (.pointer (some ⟨sp, 0, none⟩))) (hl : SlA W 1 A n c (l.map (.int .i64))) (hh : ∀ t ∈ l, hasB xs t = true) (hn : n ≤ 2147483648) :
    Calls Tryz.prog 38 #[.slice A n c, .func (.func 147) #[] #[.pointer (some ⟨b, 0, none⟩)]] W fun e w' => e = .returned (.bool (!l.all (inB s.i))) ∧ w' = W := by
  have HX := hid (ixf_all W G R sp lv uv xs s b A n c l h hb hl hh hn)
  clear h hb hl hh
  go_enter Tryz.func38, Tryz.ntmps38
  go_wp2_with fail
  refine HX.out.mono ?_
  rintro e w' ⟨⟨k, rfl, hk⟩, hw⟩
  subst hw
  have HK := hid hk
  clear hk
  go_wp2
  go_ret
  exact ⟨by rw [← HK.out]; rfl, rfl⟩
theorem all_any (A : Option Addr) (n c : Nat) (l : List Int) (h : SpA W G R sp lv uv xs s) (hl : SlA W 1 A n c (l.map (.int .i64))) (hh : ∀ t ∈ l, hasB xs t = true) (hn : n ≤ 2147483648) :
    Calls Tryz.prog 136 #[.pointer (some ⟨sp, 0, none⟩), .slice A n c] W fun e w' => e = .returned (.bool (l.all (inB s.i))) ∧ Below W.heap.size W w' := by
  have B0 := hid (show Below W.heap.size W (W.alloc (.cells #[.pointer (some ⟨sp, 0, none⟩)] 114)) from (Below.refl _ _).alloc (Nat.le_refl _) _)
  have HX := hid (ctf_all (W.alloc (.cells #[.pointer (some ⟨sp, 0, none⟩)] 114)) G R sp lv uv xs s W.heap.size A n c l (h.ext B0.out) (by rw [World.cell?_alloc_at _ _ _ _ rfl]; rfl) (hl.ext B0.out) hh hn)
  clear h hl
  go_enter Tryz.func136, Tryz.ntmps136
  go_wp2_with fail
  refine HX.out.mono ?_
  rintro e w' ⟨rfl, hw⟩
  subst hw
  go_wp2
  go_ret
  exact ⟨by simp, B0.out⟩
end
theorem two_of_len {l : List Int} (h : l.length = 2) : ∃ a b, l = [a, b] := by
  rcases l with _ | ⟨a, _ | ⟨b, _ | ⟨c, l⟩⟩⟩
  · cases h
  · cases h
  · exact ⟨a, b, rfl⟩
  · simp at h
/-- Which of a list are such signatures. -/
def sigB (xs : List ND) (sk m t : Int) : Bool := (nodeF xs t).o == 10 && (nodeF xs t).l.getD 0 0 == sk && (nodeF xs t).l.getD 1 0 == m
theorem filt_take {f : Int → Bool} {U : List Int} {j : Nat} {u : Int} (h : U[j]? = some u) : (U.take (j + 1)).filter f = (U.take j).filter f ++ (if f u then [u] else []) := by
  rw [take_one h, List.filter_append]
  by_cases hf : f u = true
  · simp [hf]
  · simp [hf]
theorem addL_app (s : SD) (l m : List Int) : Go.KK.addL s (l ++ m) = Go.KK.addL (Go.KK.addL s l) m := by unfold Go.KK.addL; rw [List.foldl_append]
set_option maxHeartbeats 4000000 in
set_option maxRecDepth 100000 in
theorem unblind_any (W : World) (G R : Nat → Prop) (sp : Nat) (lv uv : Value) (xs : List ND) (s : SD) (sk m : Int) (h : SpA W G R sp lv uv xs s) (hm : hasB xs m = true) (hul : (uses xs m).length ≤ 100000000) :
    Calls Tryz.prog 149 #[.pointer (some ⟨sp, 0, none⟩), .int .i64 sk, .int .i64 m] W fun e w' => e = .returned (.tuple #[]) ∧ SpS W G R sp lv uv xs (unbF xs s sk m) w' := by
  have H := hid h
  have h2 := has_iff.1 hm
  obtain ⟨k, rfl⟩ := Int.eq_ofNat_of_zero_le h2.1
  have hkx : k < xs.length := by omega
  obtain ⟨bu, ou, cu, Au, ku, rfl, hcu, hku⟩ := h.keepU hkx
  have HKU := hid hku
  have hcu0 := hcu W (Nat.le_refl _) fun _ _ _ => rfl
  obtain ⟨iv, ov, ⟨c0, c1, c2, c3⟩, -⟩ := h.cells
  have hkx' : (k : Int) < (xs.length : Int) := by omega
  have HUN := hid (show unbF xs s sk (k : Int) = Go.KK.addL s ((uses xs (k : Int)).filter (sigB xs sk (k : Int))) from rfl)
  have HUM := hid (fun u (hu : u ∈ uses xs (k : Int)) => (uses_mem.1 hu).1)
  have hok := hid h.ok
  generalize uses xs (k : Int) = U at *
  clear h hm h2 hku hcu
  go_enter Tryz.func149, Tryz.ntmps149
  go_wp2_with fail
  go_loopw [17] (fun v wr => ∃ (j : Nat) (G' : Nat → Prop), v = .int .i64 j ∧ j ≤ U.length ∧ Hid (SpA wr G' R sp lv (.slice (some ⟨bu, ou, none⟩) xs.length cu) xs (Go.KK.addL s ((U.take j).filter (sigB xs sk (k : Int)))) ∧ Turn G W wr ∧ ∀ b, G' b → G b ∨ W.heap.size ≤ b)) (fun v _ => U.length - (intOf v).toNat)
  case atStart => exact ⟨0, G, rfl, Nat.zero_le _, hid ⟨H.out, Turn.refl _ _, fun _ h => .inl h⟩⟩
  case round =>
    clear hcu0 c0 c1 c2 c3
    obtain ⟨j, G', hv, hj, HR⟩ := hrel
    subst hv
    obtain ⟨hs, ht, hg⟩ := HR.out
    have HS := hid hs; have HT := hid ht; have HG := hid hg
    clear hs ht hg HR
    by_cases hlt : j < U.length
    · obtain ⟨b1, o1, u, rfl, huj, hct⟩ := (HKU.out.turn HT.out).elemI hlt
      have huh := HUM.out u (List.mem_of_getElem? huj)
      have HFT := hid (filt_take (f := sigB xs sk (k : Int)) huj)
      have hlt' : (j : Int) < (U.length : Int) := by omega
      have h2 := has_iff.1 huh
      obtain ⟨q, rfl⟩ := Int.eq_ofNat_of_zero_le h2.1
      have hqx : (q : Int) < (xs.length : Int) := by omega
      have hx := nodeF_get huh
      rw [Int.toNat_natCast] at hx
      have HLE := hid (fun ho => len_of hok.out huh (o := 10) (k := 2) ho rfl)
      have HSG := hid (show sigB xs sk (k : Int) (q : Int) = ((nodeF xs (q : Int)).o == 10 && (nodeF xs (q : Int)).l.getD 0 0 == sk && (nodeF xs (q : Int)).l.getD 1 0 == (k : Int)) from rfl)
      have HUH := hid huh
      generalize nodeF xs (q : Int) = x at *
      obtain ⟨bn, on, cn, A', c', rfl, hcell, hkl⟩ := HS.out.keep hx
      obtain ⟨y0, y1, y2, y3⟩ := hcell wr (Nat.le_refl _) fun _ _ _ => rfl
      obtain ⟨iv, ov, ⟨c0, c1, c2, c3⟩, -⟩ := HS.out.cells
      have HKL := hid hkl
      have HAL := hid (show Below wr.heap.size wr (wr.alloc (.cells #[.int .i64 x.o, .int .i64 x.n, .string x.s, .slice A' x.l.length c'] 64)) from (Below.refl _ _).alloc (Nat.le_refl _) _)
      clear huh h2 hx hcell hkl huj
      by_cases ho : x.o = 10
      · obtain ⟨a, b, hl⟩ := two_of_len (HLE.out ho)
        obtain ⟨xo, xn, xstr, xl⟩ := x
        simp only at ho hl
        subst ho; subst hl
        have hsl := (HKL.out.here).ext HAL.out
        obtain ⟨ba, oa, z0, rfl, hz0', e0⟩ := hsl.elemI (k := 0) (by simp)
        obtain ⟨ba2, oa2, z1, eA, hz1', e1⟩ := hsl.elemI (k := 1) (by simp)
        injection eA with eA
        injection eA with eA eA2
        subst eA; subst eA2
        have hz0'' : a = z0 := by simpa using hz0'
        have hz1'' : b = z1 := by simpa using hz1'
        subst hz0''; subst hz1''
        rw [Nat.add_zero] at e0
        have e0' : (wr.alloc (.cells #[.int .i64 10, .int .i64 xn, .string xstr, .slice (some ⟨ba, oa, none⟩) 2 c'] 64)).cell? ⟨ba, oa, none⟩ = some (.int .i64 a) := e0
        have e1' : (wr.alloc (.cells #[.int .i64 10, .int .i64 xn, .string xstr, .slice (some ⟨ba, oa, none⟩) 2 c'] 64)).cell? ⟨ba, oa + 1, none⟩ = some (.int .i64 b) := e1
        have y3' : wr.cell? ⟨bn, on + q * 4 + 3, none⟩ = some (.slice (some ⟨ba, oa, none⟩) 2 c') := y3
        replace HAL : Hid (Below wr.heap.size wr (wr.alloc (.cells #[.int .i64 10, .int .i64 xn, .string xstr, .slice (some ⟨ba, oa, none⟩) 2 c'] 64))) := HAL
        clear hz0' hz1' hsl e0 e1 y3
        by_cases h1 : a = sk ∧ b = (k : Int)
        · obtain ⟨ha, hb⟩ := h1
          subst ha; subst hb
          have HSB := hid (show sigB xs a (k : Int) (q : Int) = true by rw [HSG.out]; simp)
          go_upto_region 5 with fail
          refine forget (R := fun V => Below wr.heap.size wr V) ?_ HAL.out
          clear HAL e0' e1' y0 y1 y2 y3' c0 c1 c2 c3
          intro V hV
          have HVB := hid hV
          have HAD := hid (add_any (V.alloc (.cells #[.int .i64 (q : Int)] 3)) G' R sp _ _ xs _ _ 1 1 [(q : Int)] ((HS.out.ext hV).ext ((Below.refl _ _).alloc (Nat.le_refl _) _)) (keepL_new (q : Int) fun b hb => Nat.lt_of_lt_of_le (HS.out.glt b hb) hV.size) (fun t ht => by rw [List.mem_singleton] at ht; subst ht; exact HUH.out) (by decide))
          clear hV
          go_wp2_with fail
          refine HAD.out.mono ?_
          rintro e w5 ⟨rfl, hs5⟩
          obtain ⟨G5, p1, p2, p3⟩ := (hs5.first ((Below.refl _ _).alloc (Nat.le_refl _) _)).first HVB.out
          have P1 := hid p1; have P2 := hid p2; have P3 := hid p3
          clear p1 p2 p3 hs5
          go_wp2_with fail
          go_roundw
          case rel =>
            refine ⟨j + 1, G5, by go_num, by omega, hid ⟨by rw [HFT.out, HSB.out, if_pos rfl, addL_app]; exact P1.out, HT.out.trans P2.out HG.out, fun b hb => ?_⟩⟩
            have := HT.out.size
            rcases P3.out b hb with h' | h'
            · exact HG.out b h'
            · exact .inr (by omega)
          case measure => simp [intOf]; omega
        · have HSB := hid (show sigB xs sk (k : Int) (q : Int) = false by
            rw [HSG.out, Bool.eq_false_iff]
            intro e
            simp only [Bool.and_eq_true, beq_iff_eq] at e
            exact h1 ⟨by simpa using e.1.2, by simpa using e.2⟩)
          have h1' : (a == sk) = false ∨ ((a == sk) = true ∧ (b == (k : Int)) = false) := by
            by_cases ha : a = sk
            · exact .inr ⟨beq_iff_eq.2 ha, beq_eq_false_iff_ne.2 fun hb => h1 ⟨ha, hb⟩⟩
            · exact .inl (beq_eq_false_iff_ne.2 ha)
          clear h1
          rcases h1' with h1' | ⟨h1', h1''⟩
          all_goals
            go_wp2_with fail
            go_roundw
            case rel => exact ⟨j + 1, G', by go_num, by omega, hid ⟨by rw [HFT.out, HSB.out, if_neg (by decide), List.append_nil]; exact HS.out.ext HAL.out, HT.out.trans (Turn.of_below (F := fun _ => False) HAL.out) (fun _ h => h.elim), fun b hb => HG.out b hb⟩⟩
            case measure => simp [intOf]; omega
      · have ho' : (x.o == 10) = false := beq_eq_false_iff_ne.2 ho
        have HSB := hid (show sigB xs sk (k : Int) (q : Int) = false by rw [HSG.out, ho']; rfl)
        clear ho
        go_wp2_with fail
        go_roundw
        case rel => exact ⟨j + 1, G', by go_num, by omega, hid ⟨by rw [HFT.out, HSB.out, if_neg (by decide), List.append_nil]; exact HS.out.ext HAL.out, HT.out.trans (Turn.of_below (F := fun _ => False) HAL.out) (fun _ h => h.elim), fun b hb => HG.out b hb⟩⟩
        case measure => simp [intOf]; omega
    · have hjn : j = U.length := by omega
      have HTK := hid (show U.take j = U from List.take_of_length_le (by omega))
      have hlt' : ¬ (j : Int) < (U.length : Int) := by omega
      go_wp2_with fail
      go_end0
      exact ⟨rfl, G', by rw [HUN.out, ← HTK.out]; exact HS.out, HT.out, HG.out⟩
end Go.Proofs.YtfmkniakfgpgjaaGreatDoor

