/- plain: what of what was told can be derived (Known), and that more tells no less (DeduceMore). -/
import Derived.Test.YtadbgmfdbahcbaaGreatDoorD1
namespace Go.KK
open Go.RowKit Classical
set_option linter.unusedVariables false
set_option linter.unusedSimpArgs false

/-- Some of these is made of it. -/
def Met (xs : List ND) (l : List Int) (t : Int) : Prop := ∃ k ∈ l, Rch xs k t
noncomputable def derB (xs : List ND) (l : List Int) (t : Int) : Bool := decide (Der xs l t)
noncomputable def knF (xs : List ND) (l : List Int) : List Int := ((List.range xs.length).filter fun (t : Nat) => decide (Met xs l (t : Int)) && derB xs l (t : Int)).map fun (t : Nat) => (t : Int)
theorem derB_iff {xs : List ND} {l : List Int} {t : Int} : derB xs l t = true ↔ Der xs l t := by unfold derB; rw [decide_eq_true_eq]
theorem knF_mem {xs : List ND} {l : List Int} {t : Int} : t ∈ knF xs l ↔ hasB xs t = true ∧ Met xs l t ∧ Der xs l t := by
  unfold knF
  simp only [List.mem_map, List.mem_filter, List.mem_range, Bool.and_eq_true, decide_eq_true_eq, derB_iff]
  rw [has_iff]
  constructor
  · rintro ⟨j, ⟨hj, h1, h2⟩, rfl⟩
    exact ⟨⟨by omega, by omega⟩, h1, h2⟩
  · rintro ⟨h0, h1, h2⟩
    have e : ((t.toNat : Nat) : Int) = t := by omega
    exact ⟨t.toNat, ⟨by omega, by rw [e]; exact h1, by rw [e]; exact h2⟩, e⟩
theorem met_has {xs : List ND} (ok : Okay xs) {l : List Int} {t : Int} (h : Met xs l t) : hasB xs t = true := by
  obtain ⟨k, _, hr⟩ := h
  exact (hr.has ok).2.1
theorem met_self {xs : List ND} {l : List Int} {t : Int} (h : t ∈ l) (hh : hasB xs t = true) : Met xs l t := ⟨t, h, .self hh⟩
theorem met_part {xs : List ND} {l : List Int} {t x : Int} (h : Met xs l t) (hx : x ∈ (nodeF xs t).l) : Met xs l x := by
  obtain ⟨k, h1, h2⟩ := h
  exact ⟨k, h1, .step h2 hx⟩
theorem met_mono {xs : List ND} {l m : List Int} (h : ∀ x ∈ l, Met xs m x) {t : Int} (ht : Met xs l t) : Met xs m t := by
  obtain ⟨k, h1, h2⟩ := ht
  obtain ⟨k', h3, h4⟩ := h k h1
  exact ⟨k', h3, h4.trans h2⟩
theorem knF_congr {xs : List ND} {l m : List Int} (hd : ∀ t, Der xs m t ↔ Der xs l t) (hm : ∀ t, Met xs m t ↔ Met xs l t) : knF xs m = knF xs l := by
  unfold knF derB
  congr 1
  refine List.filter_congr fun t _ => ?_
  rw [decide_eq_decide.2 (hm t), decide_eq_decide.2 (hd t)]
section
variable {xs : List ND} (ok : Okay xs) {l m : List Int}
set_option linter.unusedSectionVars false
include ok
theorem kn_sub (hl : ∀ x ∈ l, hasB xs x = true) {t : Int} (h : t ∈ l) : t ∈ knF xs l := knF_mem.2 ⟨hl t h, met_self h (hl t h), der_known h⟩
theorem kn_more (hl : ∀ x ∈ l, hasB xs x = true) {t : Int} (h : t ∈ knF xs l) : t ∈ knF xs (l ++ m) := by
  obtain ⟨h1, h2, h3⟩ := knF_mem.1 h
  refine knF_mem.2 ⟨h1, met_mono (fun x hx => met_self (by simp [hx]) (hl x hx)) h2, der_mono (fun x hx => der_known (by simp [hx])) h3⟩
theorem der_kn (hl : ∀ x ∈ l, hasB xs x = true) (t : Int) : Der xs (knF xs l) t ↔ Der xs l t :=
  ⟨der_mono fun x hx => (knF_mem.1 hx).2.2, der_mono fun x hx => der_known (kn_sub ok hl hx)⟩
theorem derB_kn (hl : ∀ x ∈ l, hasB xs x = true) (t : Int) : derB xs (knF xs l) t = derB xs l t := by
  unfold derB
  rw [decide_eq_decide]
  exact der_kn ok hl t
theorem kn_app (hl : ∀ x ∈ l, hasB xs x = true) : knF xs (l ++ knF xs l) = knF xs l := by
  have hd : ∀ t, Der xs (l ++ knF xs l) t ↔ Der xs l t := fun t =>
    ⟨der_mono fun x hx => by
      rcases List.mem_append.1 hx with hx | hx
      · exact der_known hx
      · exact (knF_mem.1 hx).2.2,
     der_mono fun x hx => der_known (by simp [hx])⟩
  have hm : ∀ t, Met xs (l ++ knF xs l) t ↔ Met xs l t := fun t =>
    ⟨met_mono fun x hx => by
      rcases List.mem_append.1 hx with hx | hx
      · exact met_self hx (hl x hx)
      · exact (knF_mem.1 hx).2.1,
     met_mono fun x hx => met_self (by simp [hx]) (hl x hx)⟩
  exact knF_congr hd hm
omit ok
/-- What was met, once all terms from k on have been gone through. -/
structure Mt (xs : List ND) (l : List Int) (I : List Bool) (k : Nat) : Prop where
  len : I.length = xs.length
  snd : ∀ t, hasB xs t = true → inB I t = true → Met xs l t
  kn : ∀ t ∈ l, inB I t = true
  clo : ∀ j : Nat, k ≤ j → j < xs.length → inB I (j : Int) = true → ∀ x ∈ (nodeF xs (j : Int)).l, inB I x = true
def setsB (I : List Bool) (l : List Int) : List Bool := l.foldl (fun I x => I.set x.toNat true) I
theorem setsB_len : ∀ (l : List Int) (I : List Bool), (setsB I l).length = I.length
  | [], _ => rfl
  | x :: l, I => by
    show (setsB (I.set x.toNat true) l).length = I.length
    rw [setsB_len l, List.length_set]
theorem setsB_in : ∀ (l : List Int) (I : List Bool), (∀ x ∈ l, 0 ≤ x ∧ x.toNat < I.length) → ∀ u : Int, 0 ≤ u → (inB (setsB I l) u = true ↔ inB I u = true ∨ u ∈ l)
  | [], _, _, u, _ => by simp [setsB]
  | x :: l, I, h, u, hu => by
    show inB (setsB (I.set x.toNat true) l) u = true ↔ _
    rw [setsB_in l _ (fun y hy => ⟨(h y (by simp [hy])).1, by rw [List.length_set]; exact (h y (by simp [hy])).2⟩) u hu, inB_set (h x (by simp)).1 hu (h x (by simp)).2]
    simp only [Bool.or_eq_true, decide_eq_true_eq, List.mem_cons]
    constructor
    · rintro ((h | h) | h)
      · exact .inr (.inl h)
      · exact .inl h
      · exact .inr (.inr h)
    · rintro (h | h | h)
      · exact .inl (.inr h)
      · exact .inl (.inl h)
      · exact .inr h
theorem setsB_snoc (I : List Bool) (l : List Int) (x : Int) : setsB I (l ++ [x]) = (setsB I l).set x.toNat true := by unfold setsB; rw [List.foldl_append]; rfl
theorem mt_start (hl : ∀ x ∈ l, hasB xs x = true) : Mt xs l (setsB (List.replicate xs.length false) l) xs.length := by
  have hr : ∀ x ∈ l, 0 ≤ x ∧ x.toNat < (List.replicate xs.length false).length := fun x hx => by
    have := has_iff.1 (hl x hx)
    simp; omega
  refine ⟨by rw [setsB_len]; simp, fun t ht hi => ?_, fun t ht => ?_, fun j h1 h2 => by omega⟩
  · rw [setsB_in _ _ hr t (has0 ht), inB_rep] at hi
    rcases hi with hi | hi
    · cases hi
    · exact met_self hi ht
  · rw [setsB_in _ _ hr t (has0 (hl t ht))]
    exact .inr ht
theorem Mt.step (ok : Okay xs) {I : List Bool} {k : Nat} (h : Mt xs l I (k + 1)) (hk : k < xs.length) : Mt xs l (if inB I (k : Int) = true then setsB I (nodeF xs (k : Int)).l else I) k := by
  have hh : hasB xs (k : Int) = true := has_iff.2 ⟨by omega, by omega⟩
  split
  · rename_i hi
    have hr : ∀ x ∈ (nodeF xs (k : Int)).l, 0 ≤ x ∧ x.toNat < I.length := fun x hx => by
      have := has_iff.1 (has_part ok hh hx)
      rw [h.len]; omega
    refine ⟨by rw [setsB_len]; exact h.len, fun t ht hi' => ?_, fun t ht => ?_, fun j h1 h2 hj x hx => ?_⟩
    · rcases (setsB_in _ _ hr t (has0 ht)).1 hi' with h' | h'
      · exact h.snd t ht h'
      · exact met_part (h.snd _ hh hi) h'
    · by_cases h0 : 0 ≤ t
      · exact (setsB_in _ _ hr t h0).2 (.inl (h.kn t ht))
      · have e : inB (setsB I (nodeF xs (k : Int)).l) t = inB (setsB I (nodeF xs (k : Int)).l) 0 := by unfold inB; rw [show t.toNat = (0 : Int).toNat by omega]
        rw [e]
        have e2 : inB I t = inB I 0 := by unfold inB; rw [show t.toNat = (0 : Int).toNat by omega]
        exact (setsB_in _ _ hr 0 (by omega)).2 (.inl (e2 ▸ h.kn t ht))
    · have hjh : hasB xs (j : Int) = true := has_iff.2 ⟨by omega, by omega⟩
      have hx0 := has0 (has_part ok hjh hx)
      by_cases e : j = k
      · subst e
        exact (setsB_in _ _ hr x hx0).2 (.inr hx)
      · rcases (setsB_in _ _ hr (j : Int) (by omega)).1 hj with h' | h'
        · exact (setsB_in _ _ hr x hx0).2 (.inl (h.clo j (by omega) h2 h' x hx))
        · have := (part_lt ok hh h').2.1
          omega
  · rename_i hi
    refine ⟨h.len, h.snd, h.kn, fun j h1 h2 hj x hx => ?_⟩
    by_cases e : j = k
    · subst e; exact absurd hj hi
    · exact h.clo j (by omega) h2 hj x hx
theorem Mt.done (ok : Okay xs) (hl : ∀ x ∈ l, hasB xs x = true) {I : List Bool} (h : Mt xs l I 0) {t : Int} (ht : hasB xs t = true) : inB I t = true ↔ Met xs l t := by
  refine ⟨h.snd t ht, ?_⟩
  rintro ⟨k, hk, hr⟩
  clear ht
  induction hr with
  | self _ => exact h.kn _ hk
  | step hr hy ih =>
    have hx := (hr.has ok).2.1
    have h2 := has_iff.1 hx
    rename_i x y
    have e : ((x.toNat : Nat) : Int) = x := by omega
    exact h.clo x.toNat (by omega) (by omega) (by rw [e]; exact ih) y (by rw [e]; exact hy)
/-- The numbers below k that are in both. -/
def pickB (I J : List Bool) (k : Nat) : List Int := ((List.range k).filter fun (t : Nat) => inB I (t : Int) && inB J (t : Int)).map fun (t : Nat) => (t : Int)
theorem pickB_succ (I J : List Bool) (k : Nat) : pickB I J (k + 1) = if inB I (k : Int) && inB J (k : Int) then pickB I J k ++ [(k : Int)] else pickB I J k := by
  unfold pickB
  rw [List.range_succ, List.filter_append, List.map_append]
  by_cases h : (inB I (k : Int) && inB J (k : Int)) = true
  · rw [if_pos h]; simp [h]
  · rw [if_neg h]; simp [h]
theorem pickB_kn (ok : Okay xs) (hl : ∀ x ∈ l, hasB xs x = true) {I J : List Bool} (h : Mt xs l I 0) (k : ∀ t, hasB xs t = true → (inB J t = true ↔ Der xs l t)) : pickB I J xs.length = knF xs l := by
  unfold pickB knF
  congr 1
  refine List.filter_congr fun t ht => ?_
  have hh : hasB xs (t : Int) = true := has_iff.2 ⟨by omega, by have := List.mem_range.1 ht; omega⟩
  have e1 : inB I (t : Int) = decide (Met xs l (t : Int)) := by rw [Bool.eq_iff_iff, decide_eq_true_eq]; exact h.done ok hl hh
  have e2 : inB J (t : Int) = derB xs l (t : Int) := by rw [Bool.eq_iff_iff, derB_iff]; exact k _ hh
  rw [e1, e2]
end
end Go.KK
