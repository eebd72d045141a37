/- plain: RatchetMay's law, no program in sight. -/
import Derived.Test.YtimdohjlhbpmhaaDoorP7
namespace Go.Proofs.YtimdohjlhbpmhaaDoor
open Go.RowKit Go.KK Go.Shelf
set_option linter.unusedVariables false
set_option linter.unusedSimpArgs false

theorem some_iff {xs : List TN} {a b : Nat} : someB xs a b = true ↔ ∃ m, a ≤ m ∧ m < b ∧ kd xs (2 * m) = 1 := by
  unfold someB
  rw [List.any_eq_true]
  constructor
  · rintro ⟨m, hm, h⟩
    simp only [Bool.and_eq_true, decide_eq_true_eq, beq_iff_eq] at h
    exact ⟨m, h.1, List.mem_range.1 hm, h.2⟩
  · rintro ⟨m, a1, a2, a3⟩
    exact ⟨m, List.mem_range.2 a2, by rw [a3, decide_eq_true a1]; rfl⟩
theorem half_iff {K : Nat} {xs : List TN} (h : Sound K xs) : halfB xs = false ↔ ∃ m, 2 ^ K / 2 ≤ m ∧ m < 2 ^ K ∧ kd xs (2 * m) = 1 := by
  rw [half_some, Sound.lv h.len, Bool.not_eq_false', some_iff]
theorem pres_iff {K : Nat} {xs : List TN} (h : Sound K xs) {i : Int} : pres xs i = true ↔ ∃ m : Nat, i = (m : Int) ∧ m < 2 ^ K ∧ kd xs (2 * m) = 1 := by
  have hlv := Sound.lv h.len
  constructor
  · intro hp
    obtain ⟨p0, p1⟩ := pres_in hp
    obtain ⟨m, rfl⟩ := Int.eq_ofNat_of_zero_le p0
    rw [pres_nat (by omega), beq_iff_eq] at hp
    exact ⟨m, rfl, by omega, hp⟩
  · rintro ⟨m, rfl, hm, hk⟩
    rw [pres_nat (by omega), hk]; rfl
def ndx (xs : List TN) (j : Nat) : TN := (xs[j]?).getD zeroN
theorem ndx_of {xs ys : List TN} {j : Nat} (h : xs[j]? = ys[j]?) : ndx xs j = ndx ys j := by unfold ndx; rw [h]
theorem kd_ndx (xs : List TN) (j : Nat) : kd xs j = (ndx xs j).k := by
  unfold kd ndx
  rcases xs[j]? with _ | x <;> rfl
theorem ndx_out {xs : List TN} {j : Nat} (h : xs.length ≤ j) : ndx xs j = zeroN := by unfold ndx; rw [List.getElem?_eq_none h]; rfl
theorem ndx_even {K : Nat} {xs : List TN} (h : Sound K xs) {m : Nat} (hk : kd xs (2 * m) ≠ 1) : ndx xs (2 * m) = zeroN := by
  rcases hx : xs[2 * m]? with _ | x
  · unfold ndx; rw [hx]; rfl
  · rw [kd_some hx] at hk
    unfold ndx
    rw [hx]
    rcases h.all _ x hx with a | ⟨_, a, _⟩ | ⟨a, _⟩
    · exact a
    · exact absurd a hk
    · omega
/-- The same leaves, but for one. -/
def othB (xs ys : List TN) (but : Int) : Bool := (List.range (max xs.length ys.length / 2 + 1)).all fun i : Nat => ((i : Int) == but) || sameN (ndx xs (2 * i)) (ndx ys (2 * i))
theorem oth_of {xs ys : List TN} {but : Int} (h : ∀ m : Nat, (m : Int) ≠ but → ndx xs (2 * m) = ndx ys (2 * m)) : othB xs ys but = true := by
  unfold othB
  rw [List.all_eq_true]
  intro i _
  by_cases hi : (i : Int) = but
  · rw [beq_iff_eq.2 hi]; rfl
  · rw [h i hi, sameN_self, Bool.or_true]
theorem way_ndx {K i : Nat} {ys : List TN} {f : TN → TN} {l : TN} (hl : ys.length + 1 = 2 ^ (K + 1)) (hK : K ≤ 8) (hi : i < 2 ^ K) {m : Nat} (hmi : m ≠ i) :
    ndx (updAll f (ys.set (2 * i) l) (pathL (2 * (i : Int)) (lvN ys.length))) (2 * m) = ndx ys (2 * m) := by
  have hp : 2 ^ (K + 1) = 2 * 2 ^ K := by rw [Nat.pow_succ]; omega
  by_cases hm : m < 2 ^ K
  · exact ndx_of (way_get hl hK hi hm hmi)
  · rw [ndx_out (by rw [updAll_len, List.length_set]; omega), ndx_out (by omega)]
theorem way_at {K i : Nat} {ys : List TN} {f : TN → TN} {l : TN} (hl : ys.length + 1 = 2 ^ (K + 1)) (hK : K ≤ 8) (hi : i < 2 ^ K) :
    (updAll f (ys.set (2 * i) l) (pathL (2 * (i : Int)) (lvN ys.length)))[2 * i]? = some l := by
  rw [way_eq hl hK hi, if_pos rfl]
def W5 (x : TN) : Prop := W64 x.k ∧ W64 x.i ∧ W64 x.e ∧ W64 x.s ∧ W64 x.h
theorem zero_w5 : W5 zeroN := by unfold W5 W64 zeroN; decide
theorem way_wf {K i : Nat} {ys : List TN} {f : TN → TN} {l : TN} (hl : ys.length + 1 = 2 ^ (K + 1)) (hK : K ≤ 8) (hi : i < 2 ^ K) (hf : ∀ x, W5 x → W5 (f x)) (hw : WfT ys) (hl5 : W5 l) :
    WfT (updAll f (ys.set (2 * i) l) (pathL (2 * (i : Int)) (lvN ys.length))) := by
  intro z x hx
  rw [way_eq hl hK hi] at hx
  split at hx
  · injection hx with hx; subst hx; exact hl5
  · split at hx
    · rcases hy : ys[z]? with _ | y
      · rw [hy] at hx; cases hx
      · rw [hy] at hx; injection hx with hx; subst hx; exact hf y (hw z y hy)
    · exact hw z x hx
theorem chg_eq (ys : List TN) (i : Nat) (l : TN) : chgL ys (i : Int) l = updAll blankN (ys.set (2 * i) l) (pathL (2 * (i : Int)) (lvN ys.length)) := by
  unfold chgL; rw [show (2 * (i : Int)).toNat = 2 * i by omega]

/-! Update -/
theorem chg_may {xs : List TN} {i : Int} {l : TN} (hc : chkB xs = true) (hw : WfT xs) (hp : pres xs i = true) (hl : l.k = 1 ∧ l.u = []) (hl5 : W5 l) :
    chkB (chgL xs i l) = true ∧ othB xs (chgL xs i l) i = true ∧ (chgL xs i l)[(2 * i).toNat]? = some l ∧ WfT (chgL xs i l) := by
  obtain ⟨K, h, hh⟩ := chk_sound hc hw
  obtain ⟨i, rfl, hi, hki⟩ := (pres_iff h).1 hp
  have hs := sound_chg (l := l) h hi (.inr hl)
  refine ⟨sound_chk hs ((half_iff hs).2 ?_), oth_of fun m hm => ?_, ?_, ?_⟩
  · obtain ⟨m, a, b, c⟩ := (half_iff h).1 hh
    refine ⟨m, a, b, ?_⟩
    rw [chg_eq, way_kd h.len h.le hi b]
    split
    · exact hl.1
    · exact c
  · rw [chg_eq, way_ndx h.len h.le hi (by omega)]
  · rw [chg_eq, show (2 * (i : Int)).toNat = 2 * i by omega, way_at h.len h.le hi]
  · rw [chg_eq]
    exact way_wf h.len h.le hi (fun _ _ => zero_w5) hw hl5

/-! Add -/
theorem first_no : ∀ (N : Nat) (p : Nat → Bool), p N = false → ∃ j, j ≤ N ∧ (∀ k, k < j → p k = true) ∧ p j = false
  | 0, p, h => ⟨0, Nat.le_refl _, fun k hk => by omega, h⟩
  | N + 1, p, h => by
    rcases h0 : p 0 with _ | _
    · exact ⟨0, by omega, fun k hk => by omega, h0⟩
    · obtain ⟨j, a, b, c⟩ := first_no N (fun k => p (k + 1)) h
      refine ⟨j + 1, by omega, fun k hk => ?_, c⟩
      rcases k with _ | k
      · exact h0
      · exact b k (by omega)
theorem free_spec (xs : List TN) : freeN xs ≤ lvN xs.length ∧ (∀ k, k < freeN xs → pres xs (k : Int) = true) ∧ pres xs (freeN xs : Int) = false := by
  obtain ⟨j, a, b, c⟩ := first_no (lvN xs.length) (fun k => pres xs (k : Int)) (pres_ge (Nat.le_refl _))
  have := freeN_is b c a
  rw [this]
  exact ⟨a, b, c⟩
theorem addN_w5 (i : Int) {x : TN} (h : W5 x) : W5 (addN i x) := by
  unfold addN
  split
  · exact h
  · exact h
theorem add_may {xs : List TN} {l : TN} (hc : chkB xs = true) (hw : WfT xs) (hx : xs.length ≤ 140) (hl : l.k = 1 ∧ l.u = []) (hl5 : W5 l) :
    chkB (addL xs l) = true ∧ othB xs (addL xs l) (freeN xs : Int) = true ∧ (addL xs l)[2 * freeN xs]? = some l ∧ WfT (addL xs l) := by
  obtain ⟨K, h, hh⟩ := chk_sound hc hw
  obtain ⟨f1, f2, f3⟩ := free_spec xs
  have hlv := Sound.lv h.len
  rw [hlv] at f1
  have e0 : addL xs l = updAll (addN (freeN xs)) ((growL xs (freeN xs)).set (2 * freeN xs) l) (pathL (2 * (freeN xs : Int)) (lvN (growL xs (freeN xs)).length)) := rfl
  have hg : ∃ K', Sound K' (growL xs (freeN xs)) ∧ freeN xs < 2 ^ K' ∧ kd (growL xs (freeN xs)) (2 * freeN xs) ≠ 1 ∧ (∀ m, ndx (growL xs (freeN xs)) (2 * m) = ndx xs (2 * m)) ∧ WfT (growL xs (freeN xs)) ∧ (2 ^ K' / 2 ≤ freeN xs ∨ K' = K) := by
    unfold growL
    rw [hlv]
    by_cases hf : freeN xs = 2 ^ K
    · rw [if_pos hf, hf]
      have hK : K + 1 ≤ 8 := by
        rcases Nat.lt_or_ge (K + 1) 8 with hh | hh
        · omega
        · have : 2 ^ 8 ≤ 2 ^ (K + 1) := Nat.pow_le_pow_right (by omega) hh
          have := h.len
          omega
      have hp : 2 ^ (K + 1) = 2 * 2 ^ K := by rw [Nat.pow_succ]; omega
      have hg := sound_grow h hK
      have hn : ∀ m, ndx (xs ++ List.replicate (2 * 2 ^ K) zeroN) (2 * m) = ndx xs (2 * m) := by
        intro m
        by_cases hm : 2 * m < xs.length
        · exact ndx_of (List.getElem?_append_left hm)
        · rw [ndx_out (xs := xs) (by omega)]
          unfold ndx
          rcases hz : (xs ++ List.replicate (2 * 2 ^ K) zeroN)[2 * m]? with _ | x
          · rfl
          · rcases grown_get hz with ⟨a, _⟩ | ⟨_, rfl⟩
            · exact absurd a hm
            · rfl
      refine ⟨K + 1, hg, by have := Nat.two_pow_pos K; omega, ?_, hn, ?_, .inl (by omega)⟩
      · rw [kd_ndx, hn, ndx_out (by have := h.len; omega)]; decide
      · intro z x hx
        rcases grown_get hx with ⟨_, hx'⟩ | ⟨_, rfl⟩
        · exact hw z x hx'
        · exact zero_w5
    · rw [if_neg hf]
      refine ⟨K, h, by omega, fun e => ?_, fun m => rfl, hw, .inr rfl⟩
      rw [pres_nat (by rw [hlv]; omega), e] at f3
      exact absurd f3 (by decide)
  obtain ⟨K', g1, g2, g3, g4, g5, g6⟩ := hg
  have hs := sound_put g1 g2 g3 hl
  rw [e0]
  refine ⟨sound_chk hs ((half_iff hs).2 ?_), oth_of fun m hm => ?_, way_at g1.len g1.le g2, way_wf g1.len g1.le g2 (fun _ h => addN_w5 _ h) g5 hl5⟩
  · rcases g6 with g6 | rfl
    · exact ⟨freeN xs, g6, g2, by rw [way_kd g1.len g1.le g2 g2, if_pos rfl]; exact hl.1⟩
    · obtain ⟨m, a, b, c⟩ := (half_iff h).1 hh
      refine ⟨m, a, b, ?_⟩
      rw [way_kd g1.len g1.le g2 b]
      split
      · exact hl.1
      · rw [kd_ndx, g4, ← kd_ndx]; exact c
  · rw [way_ndx g1.len g1.le g2 (by omega), g4]

/-! Remove -/
theorem cut_sound : ∀ (f K : Nat) (zs ys : List TN), Sound K zs → cutF f zs = some ys → ∃ K', Sound K' ys ∧ halfB ys = false ∧ ∀ m, ndx ys (2 * m) = ndx zs (2 * m)
  | 0, _, _, _, _, h => by cases h
  | f + 1, K, zs, ys, hs, h => by
    rw [cutF] at h
    split at h
    · rename_i hh
      split at h
      · cases h
      · rename_i h1
        rcases K with _ | K
        · have := hs.len; simp at this; omega
        · obtain ⟨K', a, b, c⟩ := cut_sound f K _ ys (sound_cut hs) h
          refine ⟨K', a, b, fun m => ?_⟩
          rw [c m]
          by_cases hm : 2 * m < zs.length / 2
          · exact ndx_of (List.getElem?_take_of_lt hm)
          · rw [ndx_out (xs := zs.take (zs.length / 2)) (by rw [List.length_take]; omega)]
            refine (ndx_even hs fun hk => ?_).symm
            obtain ⟨x, hx⟩ := kd_ne (show kd zs (2 * m) ≠ 0 by rw [hk]; decide)
            have hz := (List.getElem?_eq_some_iff.1 hx).1
            have hl := hs.len
            have hp : 2 ^ (K + 1 + 1) = 2 * 2 ^ (K + 1) := by rw [Nat.pow_succ]; omega
            have hp2 : 2 ^ (K + 1) = 2 * 2 ^ K := by rw [Nat.pow_succ]; omega
            have : halfB zs = false := (half_iff hs).2 ⟨m, by omega, by omega, hk⟩
            rw [this] at hh; cases hh
    · rename_i hh
      injection h with h
      subst h
      exact ⟨K, hs, by simpa using hh, fun m => rfl⟩
theorem cut_some : ∀ (f K : Nat) (zs : List TN), Sound K zs → K < f → (∃ m, m < 2 ^ K ∧ kd zs (2 * m) = 1) → ∃ ys, cutF f zs = some ys
  | 0, _, _, _, h, _ => by omega
  | f + 1, K, zs, hs, hf, ⟨m, hm, hk⟩ => by
    rw [cutF]
    split
    · rename_i hh
      have hhm : m < 2 ^ K / 2 := by
        rcases Nat.lt_or_ge m (2 ^ K / 2) with h | h
        · exact h
        · have : halfB zs = false := (half_iff hs).2 ⟨m, h, hm, hk⟩
          rw [this] at hh; cases hh
      have hl := hs.len
      rcases K with _ | K
      · simp at hhm
      · have hp : 2 ^ (K + 1 + 1) = 2 * 2 ^ (K + 1) := by rw [Nat.pow_succ]; omega
        have hp2 : 2 ^ (K + 1) = 2 * 2 ^ K := by rw [Nat.pow_succ]; omega
        have hpk := Nat.two_pow_pos K
        rw [if_neg (by omega)]
        exact cut_some f K _ (sound_cut hs) (by omega) ⟨m, by omega, by rw [kd_of (List.getElem?_take_of_lt (by omega))]; exact hk⟩
    · exact ⟨zs, rfl⟩
theorem rem_may {xs ys : List TN} {i : Int} (hc : chkB xs = true) (hw : WfT xs) (hp : pres xs i = true) (ho : remO xs i = some ys) :
    chkB ys = true ∧ othB xs ys i = true ∧ pres ys i = false ∧ WfT ys := by
  obtain ⟨K, h, hh⟩ := chk_sound hc hw
  obtain ⟨i, rfl, hi, hki⟩ := (pres_iff h).1 hp
  have hs := sound_chg (l := zeroN) h hi (.inl rfl)
  obtain ⟨p, hpt⟩ := cut_take _ _ _ ho
  obtain ⟨K', a, b, c⟩ := cut_sound _ _ _ _ hs ho
  refine ⟨sound_chk a b, oth_of fun m hm => ?_, ?_, ?_⟩
  · rw [c m, chg_eq, way_ndx h.len h.le hi (by omega)]
  · rw [Bool.eq_false_iff]
    intro hh
    obtain ⟨m, e, _, hk⟩ := (pres_iff a).1 hh
    obtain rfl : m = i := by omega
    rw [kd_ndx, c, ← kd_ndx, chg_eq, way_kd h.len h.le hi hi, if_pos rfl] at hk
    exact absurd hk (by decide)
  · intro z x hx
    rw [hpt] at hx
    have := (take_get2 hx).2
    rw [chg_eq] at this
    exact way_wf h.len h.le hi (fun _ _ => zero_w5) hw zero_w5 z x this
theorem mem_mems {xs : List TN} (hc : chkB xs = true) {i : Int} : i ∈ mems xs ↔ pres xs i = true := by
  unfold mems memL
  rw [if_pos hc, List.mem_filter]
  constructor
  · exact fun h => h.2
  · intro h
    obtain ⟨p0, p1⟩ := pres_in h
    obtain ⟨m, rfl⟩ := Int.eq_ofNat_of_zero_le p0
    exact ⟨List.mem_map.2 ⟨m, List.mem_range.2 (by omega), rfl⟩, h⟩
theorem in_mems {xs : List TN} (hc : chkB xs = true) (i : Int) : inB (mems xs) i = pres xs i := by
  unfold inB
  rw [Bool.eq_iff_iff, List.contains_iff_mem, mem_mems hc]
theorem mems_nodup (xs : List TN) : (mems xs).Nodup := by
  unfold mems memL
  split
  · refine List.Pairwise.filter _ ?_
    rw [List.pairwise_map]
    exact List.nodup_range.imp fun h e => h (by omega)
  · exact List.nodup_nil
theorem two_iff {l : List Int} (hn : l.Nodup) {i : Int} (hi : i ∈ l) : 1 < l.length ↔ ∃ m ∈ l, m ≠ i := by
  rcases l with _ | ⟨a, _ | ⟨b, l⟩⟩
  · cases hi
  · simp at hi; subst hi; simp
  · refine ⟨fun _ => ?_, fun _ => by simp⟩
    by_cases ha : a = i
    · refine ⟨b, by simp, fun e => ?_⟩
      have := (List.nodup_cons.1 hn).1
      exact this (by rw [ha, ← e]; simp)
    · exact ⟨a, by simp, ha⟩
theorem rem_some {xs : List TN} {i : Int} (hc : chkB xs = true) (hw : WfT xs) (hp : pres xs i = true) : (remO xs i).isSome = decide (1 < (mems xs).length) := by
  obtain ⟨K, h, hh⟩ := chk_sound hc hw
  have hi0 := (mem_mems hc).2 hp
  obtain ⟨i, rfl, hi, hki⟩ := (pres_iff h).1 hp
  have hs := sound_chg (l := zeroN) h hi (.inl rfl)
  have hfull := pow_full h.le
  by_cases h2 : 1 < (mems xs).length
  · obtain ⟨m', hm, hne⟩ := (two_iff (mems_nodup xs) hi0).1 h2
    obtain ⟨m, rfl, hm2, hk⟩ := (pres_iff h).1 ((mem_mems hc).1 hm)
    obtain ⟨ys, e⟩ := cut_some 10 K _ hs (by have := h.le; omega) ⟨m, hm2, by rw [chg_eq, way_kd h.len h.le hi hm2, if_neg (by omega)]; exact hk⟩
    unfold remO
    rw [e, decide_eq_true h2]; rfl
  · have hno : someB (chgL xs (i : Int) zeroN) 0 (2 ^ K) = false := by
      rw [Bool.eq_false_iff]
      intro hso
      obtain ⟨m, _, m2, m3⟩ := some_iff.1 hso
      rw [chg_eq, way_kd h.len h.le hi m2] at m3
      split at m3
      · exact absurd m3 (by decide)
      · rename_i hmi
        exact h2 ((two_iff (mems_nodup xs) hi0).2 ⟨(m : Int), (mem_mems hc).2 ((pres_iff h).2 ⟨m, rfl, m2, m3⟩), by omega⟩)
    unfold remO
    rw [cut_none 10 _ (2 ^ K) hfull (by rw [chgL_len]; have := h.len; rw [Nat.pow_succ] at this; omega) hno, decide_eq_false h2]; rfl
end Go.Proofs.YtimdohjlhbpmhaaDoor
