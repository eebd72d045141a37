/- plain: a tree that may be, changed, may be. -/
import Derived.Test.YtimdohjlhbpmhaaDoorP6
namespace Go.Proofs.YtimdohjlhbpmhaaDoor
open Go.RowKit Go.KK Go.Shelf
set_option linter.unusedVariables false
set_option linter.unusedSimpArgs false

theorem upd_eq (f : TN → TN) (xs : List TN) (j z : Nat) : (upd f xs j)[z]? = if z = j then xs[z]?.map f else xs[z]? := by
  unfold upd
  split
  · rename_i x hx
    by_cases h : z = j
    · subst h
      rw [if_pos rfl, hx, List.getElem?_set_self (List.getElem?_eq_some_iff.1 hx).1]; rfl
    · rw [if_neg h, List.getElem?_set_ne (fun e => h e.symm)]
  · rename_i hx
    by_cases h : z = j
    · subst h; rw [if_pos rfl, hx]; rfl
    · rw [if_neg h]
theorem updAll_eq (f : TN → TN) : ∀ (l : List Int) (xs : List TN), l.Nodup → (∀ y ∈ l, 0 ≤ y) → ∀ z : Nat, (updAll f xs l)[z]? = if (z : Int) ∈ l then xs[z]?.map f else xs[z]?
  | [], xs, _, _, z => by rw [if_neg (by simp)]; rfl
  | y :: l, xs, hn, h0, z => by
    obtain ⟨n1, n2⟩ := List.nodup_cons.1 hn
    have hy := h0 y (by simp)
    rw [updAll, updAll_eq f l _ n2 (fun y hy => h0 y (by simp [hy])) z, upd_eq]
    by_cases hz : (z : Int) ∈ l
    · have hne : ¬ z = y.toNat := fun e => n1 (by rw [show y = (z : Int) by omega]; exact hz)
      rw [if_pos hz, if_neg hne, if_pos (List.mem_cons_of_mem _ hz)]
    · rw [if_neg hz]
      by_cases hzy : z = y.toNat
      · rw [if_pos hzy, if_pos (show (z : Int) ∈ y :: l by rw [show (z : Int) = y by omega]; simp)]
      · have hm : ¬ (z : Int) ∈ y :: l := by
          intro hm
          rcases List.mem_cons.1 hm with e | e
          · exact hzy (by omega)
          · exact hz e
        rw [if_neg hzy, if_neg hm]
/-- On the way up from a leaf. -/
def onP (i z : Nat) : Prop := 1 ≤ lvl (z : Int) ∧ z = nd i (lvl (z : Int))
instance (i z : Nat) : Decidable (onP i z) := inferInstanceAs (Decidable (_ ∧ _))
theorem path_mem {K i z : Nat} (hK : K ≤ 8) (hi : i < 2 ^ K) (hz : z + 1 < 2 ^ (K + 1)) : (z : Int) ∈ pathL (2 * (i : Int)) ((2 ^ K : Nat) : Int) ↔ onP i z := by
  have h256 := pow_le8 hK
  rw [pathL_nd hi hK, List.mem_map]
  constructor
  · rintro ⟨t, ht, e⟩
    have ht' := List.mem_range.1 ht
    have e' : nd i (1 + t) = z := by omega
    obtain ⟨a, _, _⟩ := nd_is (show i < 256 by omega) (show 1 + t ≤ 8 by omega)
    rw [e'] at a
    exact ⟨by omega, by rw [a]; exact e'.symm⟩
  · rintro ⟨a, b⟩
    have hl : lvl (z : Int) ≤ K := lvl_K (xs := List.replicate (2 ^ (K + 1) - 1) zeroN) (by rw [List.length_replicate]; omega) hK (by rw [List.length_replicate]; omega)
    exact ⟨lvl (z : Int) - 1, List.mem_range.2 (by omega), by rw [show 1 + (lvl (z : Int) - 1) = lvl (z : Int) by omega, ← b]⟩
theorem way_eq {K i : Nat} {ys : List TN} (hl : ys.length + 1 = 2 ^ (K + 1)) (hK : K ≤ 8) (hi : i < 2 ^ K) (f : TN → TN) (l : TN) (z : Nat) :
    (updAll f (ys.set (2 * i) l) (pathL (2 * (i : Int)) (lvN ys.length)))[z]? = if z = 2 * i then some l else if onP i z then ys[z]?.map f else ys[z]? := by
  have h256 := pow_le8 hK
  have hfull := pow_full hK
  have hp : 2 ^ (K + 1) = 2 * 2 ^ K := by rw [Nat.pow_succ]; omega
  rw [Sound.lv hl, updAll_eq f _ _ (path_nodup hfull (by omega) (by omega)) (fun y hy => (path_in hfull (by omega) (by omega) y hy).1) z]
  by_cases hz : z < ys.length
  · have hmem := path_mem hK hi (show z + 1 < 2 ^ (K + 1) by omega)
    by_cases h2 : z = 2 * i
    · subst h2
      have hno : ¬ onP i (2 * i) := by
        rintro ⟨a, _⟩
        rw [(leaf_ab (by omega)).1] at a
        omega
      rw [if_neg (fun e => hno (hmem.1 e)), if_pos rfl, List.getElem?_set_self hz]
    · rw [List.getElem?_set_ne (fun e => h2 e.symm), if_neg h2]
      by_cases hp : onP i z
      · rw [if_pos (hmem.2 hp), if_pos hp]
      · rw [if_neg (fun e => hp (hmem.1 e)), if_neg hp]
  · have e1 : (ys.set (2 * i) l)[z]? = none := List.getElem?_eq_none (by rw [List.length_set]; omega)
    have e2 : ys[z]? = none := List.getElem?_eq_none (by omega)
    rw [e1, e2, if_neg (show ¬ z = 2 * i by omega)]
    simp
theorem kd_of {xs ys : List TN} {z : Nat} (h : xs[z]? = ys[z]?) : kd xs z = kd ys z := by unfold kd; rw [h]
theorem um_of {xs ys : List TN} {z : Nat} (h : xs[z]? = ys[z]?) : um xs z = um ys z := by unfold um; rw [h]
theorem kd_some {xs : List TN} {z : Nat} {x : TN} (h : xs[z]? = some x) : kd xs z = x.k := by unfold kd; rw [h]
theorem um_some {xs : List TN} {z : Nat} {x : TN} (h : xs[z]? = some x) : um xs z = x.u := by unfold um; rw [h]
theorem kd_ne {xs : List TN} {z : Nat} (h : kd xs z ≠ 0) : ∃ x, xs[z]? = some x := by
  unfold kd at h
  rcases hx : xs[z]? with _ | x
  · rw [hx] at h; exact absurd rfl h
  · exact ⟨x, rfl⟩
theorem not_leaf {K i m : Nat} (hK : K ≤ 8) (hm : m < 2 ^ K) : ¬ onP i (2 * m) := by
  have := pow_le8 hK
  rintro ⟨a, _⟩
  rw [(leaf_ab (by omega)).1] at a
  omega
theorem nd_odd {m t : Nat} (hm : m < 256) (h1 : 1 ≤ t) (h8 : t ≤ 8) : nd m t % 2 = 1 := by
  obtain ⟨a, b, _⟩ := nd_is hm h8
  exact (odd_iff (by omega)).2 (by rw [a]; exact h1)
section way
variable {K i : Nat} {ys : List TN} {f : TN → TN} {l : TN}
theorem way_kd (hl : ys.length + 1 = 2 ^ (K + 1)) (hK : K ≤ 8) (hi : i < 2 ^ K) {m : Nat} (hm : m < 2 ^ K) :
    kd (updAll f (ys.set (2 * i) l) (pathL (2 * (i : Int)) (lvN ys.length))) (2 * m) = if m = i then l.k else kd ys (2 * m) := by
  have h := way_eq hl hK hi f l (2 * m)
  by_cases hmi : m = i
  · subst hmi
    rw [if_pos rfl] at h
    rw [if_pos rfl, kd_some h]
  · rw [if_neg (by omega), if_neg (not_leaf hK hm)] at h
    rw [if_neg hmi, kd_of h]
theorem way_get (hl : ys.length + 1 = 2 ^ (K + 1)) (hK : K ≤ 8) (hi : i < 2 ^ K) {m : Nat} (hm : m < 2 ^ K) (hmi : m ≠ i) :
    (updAll f (ys.set (2 * i) l) (pathL (2 * (i : Int)) (lvN ys.length)))[2 * m]? = ys[2 * m]? := by
  rw [way_eq hl hK hi f l (2 * m), if_neg (by omega), if_neg (not_leaf hK hm)]
end way
theorem sound_chg {K i : Nat} {ys : List TN} {l : TN} (h : Sound K ys) (hi : i < 2 ^ K) (hl : l = zeroN ∨ (l.k = 1 ∧ l.u = [])) : Sound K (chgL ys (i : Int) l) := by
  have e0 : chgL ys (i : Int) l = updAll blankN (ys.set (2 * i) l) (pathL (2 * (i : Int)) (lvN ys.length)) := by
    unfold chgL; rw [show (2 * (i : Int)).toNat = 2 * i by omega]
  have h256 := pow_le8 h.le
  rw [e0]
  refine ⟨by rw [updAll_len, List.length_set]; exact h.len, h.le, fun z x hx => ?_⟩
  have hz : z < ys.length := by have := (List.getElem?_eq_some_iff.1 hx).1; rwa [updAll_len, List.length_set] at this
  have h511 := z511 h.len h.le hz
  rw [way_eq h.len h.le hi] at hx
  split at hx
  · rename_i hz2
    injection hx with hx
    subst hx
    rcases hl with rfl | ⟨a, b⟩
    · exact .inl rfl
    · exact .inr (.inl ⟨by omega, a, b⟩)
  · rename_i hz2
    split at hx
    · left
      rcases hy : ys[z]? with _ | y
      · rw [hy] at hx; cases hx
      · rw [hy] at hx; injection hx with hx; exact hx.symm
    · rename_i hnp
      rcases h.all z x hx with a | a | ⟨a, b, c, d, e, g⟩
      · exact .inl a
      · exact .inr (.inl a)
      · refine .inr (.inr ⟨a, b, c, d, e, fun j hj => ?_⟩)
        obtain ⟨m, rfl, m1, m2, m3, m4⟩ := g j hj
        have hmi : m ≠ i := fun e => hnp ⟨(odd_iff h511).1 a, by rw [← e]; exact m2⟩
        refine ⟨m, rfl, m1, m2, by rw [way_kd h.len h.le hi m1, if_neg hmi]; exact m3, fun t t1 t2 hk => ?_⟩
        have ht8 : t ≤ 8 := by have := lvl_K h.len h.le hz; have := h.le; omega
        have hne : nd m t ≠ 2 * i := by have := nd_odd (m := m) (by omega) t1 ht8; omega
        have hw := way_eq h.len h.le hi blankN l (nd m t)
        rw [if_neg hne] at hw
        by_cases hp : onP i (nd m t)
        · rw [if_pos hp] at hw
          rcases hy : ys[nd m t]? with _ | y
          · rw [hy] at hw; unfold kd at hk; rw [hw] at hk; exact absurd (show (0 : Int) = 2 from hk) (by decide)
          · rw [hy] at hw; rw [kd_some hw] at hk; exact absurd (show (0 : Int) = 2 from hk) (by decide)
        · rw [if_neg hp] at hw
          rw [um_of hw]
          exact m4 t t1 t2 (by rw [← kd_of hw]; exact hk)
theorem insL_mem {u : List Int} {i j : Int} {p : Nat} : j ∈ insL u p i ↔ j = i ∨ j ∈ u := by
  unfold insL
  rw [List.mem_append, List.mem_cons]
  constructor
  · rintro (h | h | h)
    · exact .inr (List.mem_of_mem_take h)
    · exact .inl h
    · exact .inr (List.mem_of_mem_drop h)
  · rintro (h | h)
    · exact .inr (.inl h)
    · rw [← List.take_append_drop p u, List.mem_append] at h
      rcases h with h | h
      · exact .inl h
      · exact .inr (.inr h)
theorem sound_fresh {K i : Nat} {ys : List TN} (h : Sound K ys) (hk : kd ys (2 * i) ≠ 1) {z : Nat} {x : TN} (hx : ys[z]? = some x) : (i : Int) ∉ x.u := by
  intro hm
  rcases h.all z x hx with rfl | ⟨_, _, a⟩ | ⟨_, _, _, _, _, g⟩
  · cases hm
  · rw [a] at hm; cases hm
  · obtain ⟨m, e, _, _, m3, _⟩ := g _ hm
    rw [show m = i by omega] at m3
    exact hk m3
theorem addN_k (i : Int) (x : TN) : (addN i x).k = x.k := by unfold addN; split <;> rfl
theorem sound_put {K i : Nat} {ys : List TN} {l : TN} (h : Sound K ys) (hi : i < 2 ^ K) (hk : kd ys (2 * i) ≠ 1) (hl : l.k = 1 ∧ l.u = []) : Sound K (updAll (addN (i : Int)) (ys.set (2 * i) l) (pathL (2 * (i : Int)) (lvN ys.length))) := by
  have h256 := pow_le8 h.le
  have keep : ∀ z m : Nat, z < ys.length → MemOk K ys z m → MemOk K (updAll (addN (i : Int)) (ys.set (2 * i) l) (pathL (2 * (i : Int)) (lvN ys.length))) z m := by
    rintro z m hz ⟨m1, m2, m3, m4⟩
    have hmi : m ≠ i := fun e => hk (by rw [← e]; exact m3)
    refine ⟨m1, m2, by rw [way_kd h.len h.le hi m1, if_neg hmi]; exact m3, fun t t1 t2 hk2 => ?_⟩
    have ht8 : t ≤ 8 := by have := lvl_K h.len h.le hz; have := h.le; omega
    have hne : nd m t ≠ 2 * i := by have := nd_odd (m := m) (by omega) t1 ht8; omega
    have hw := way_eq h.len h.le hi (addN (i : Int)) l (nd m t)
    rw [if_neg hne] at hw
    by_cases hp : onP i (nd m t)
    · rw [if_pos hp] at hw
      rcases hy : ys[nd m t]? with _ | y
      · rw [hy] at hw; unfold kd at hk2; rw [hw] at hk2; exact absurd (show (0 : Int) = 2 from hk2) (by decide)
      · rw [hy] at hw
        rw [kd_some hw, addN_k] at hk2
        have := m4 t t1 t2 (by rw [kd_some hy]; exact hk2)
        rw [um_some hy] at this
        rw [um_some hw]
        unfold addN
        rw [if_pos hk2]
        exact insL_mem.2 (.inr this)
    · rw [if_neg hp] at hw
      rw [um_of hw]
      exact m4 t t1 t2 (by rw [← kd_of hw]; exact hk2)
  refine ⟨by rw [updAll_len, List.length_set]; exact h.len, h.le, fun z x hx => ?_⟩
  have hz : z < ys.length := by have := (List.getElem?_eq_some_iff.1 hx).1; rwa [updAll_len, List.length_set] at this
  have h511 := z511 h.len h.le hz
  have hx0 := hx
  rw [way_eq h.len h.le hi] at hx
  split at hx
  · rename_i hz2
    injection hx with hx
    subst hx
    exact .inr (.inl ⟨by omega, hl.1, hl.2⟩)
  · rename_i hz2
    split at hx
    · rename_i hp
      rcases hy : ys[z]? with _ | y
      · rw [hy] at hx; cases hx
      · rw [hy] at hx
        injection hx with hx
        subst hx
        rcases h.all z y hy with rfl | ⟨a, _, _⟩ | ⟨a, b, c, d, e, g⟩
        · exact .inl rfl
        · have := (odd_iff h511).2 hp.1; omega
        · have hfr := sound_fresh h hk hy
          have e1 : addN (i : Int) y = { y with u := insL y.u (lessN y.u i) i } := by unfold addN; rw [if_pos b]
          rw [e1]
          refine .inr (.inr ⟨a, b, c, d, insL_strict e hfr, fun j hj => ?_⟩)
          rcases insL_mem.1 hj with rfl | hj
          · refine ⟨i, rfl, hi, hp.2, by rw [way_kd h.len h.le hi hi, if_pos rfl]; exact hl.1, fun t t1 t2 hk2 => ?_⟩
            have ht8 : t ≤ 8 := by have := lvl_K h.len h.le hz; have := h.le; omega
            have hne : nd i t ≠ 2 * i := by have := nd_odd (m := i) (by omega) t1 ht8; omega
            have hon : onP i (nd i t) := by
              obtain ⟨a, _, _⟩ := nd_is (show i < 256 by omega) ht8
              exact ⟨by rw [a]; exact t1, by rw [a]⟩
            have hw := way_eq h.len h.le hi (addN (i : Int)) l (nd i t)
            rw [if_neg hne, if_pos hon] at hw
            rcases hy2 : ys[nd i t]? with _ | y2
            · rw [hy2] at hw; unfold kd at hk2; rw [hw] at hk2; exact absurd (show (0 : Int) = 2 from hk2) (by decide)
            · rw [hy2] at hw
              rw [kd_some hw, addN_k] at hk2
              rw [um_some hw]
              unfold addN
              rw [if_pos hk2]
              exact insL_mem.2 (.inl rfl)
          · obtain ⟨m, rfl, hm⟩ := g j hj
            exact ⟨m, rfl, keep z m hz hm⟩
    · rcases h.all z x hx with a | a | ⟨a, b, c, d, e, g⟩
      · exact .inl a
      · exact .inr (.inl a)
      · refine .inr (.inr ⟨a, b, c, d, e, fun j hj => ?_⟩)
        obtain ⟨m, rfl, hm⟩ := g j hj
        exact ⟨m, rfl, keep z m hz hm⟩
theorem grown_get {xs : List TN} {k z : Nat} {x : TN} (h : (xs ++ List.replicate k zeroN)[z]? = some x) : (z < xs.length ∧ xs[z]? = some x) ∨ (xs.length ≤ z ∧ x = zeroN) := by
  by_cases hz : z < xs.length
  · rw [List.getElem?_append_left hz] at h; exact .inl ⟨hz, h⟩
  · rw [List.getElem?_append_right (by omega), List.getElem?_replicate] at h
    split at h
    · injection h with h; exact .inr ⟨by omega, h.symm⟩
    · cases h
theorem sound_grow {K : Nat} {xs : List TN} (h : Sound K xs) (hK : K + 1 ≤ 8) : Sound (K + 1) (xs ++ List.replicate (2 * 2 ^ K) zeroN) := by
  have hp : 2 ^ (K + 1) = 2 * 2 ^ K := by rw [Nat.pow_succ]; omega
  have hl := h.len
  refine ⟨by rw [List.length_append, List.length_replicate, Nat.pow_succ 2 (K + 1)]; omega, hK, fun z x hx => ?_⟩
  rcases grown_get hx with ⟨hz, hx'⟩ | ⟨_, rfl⟩
  · rcases h.all z x hx' with a | a | ⟨a, b, c, d, e, g⟩
    · exact .inl a
    · exact .inr (.inl a)
    · refine .inr (.inr ⟨a, b, c, d, e, fun j hj => ?_⟩)
      obtain ⟨m, rfl, m1, m2, m3, m4⟩ := g j hj
      refine ⟨m, rfl, by omega, m2, by rw [kd_of (List.getElem?_append_left (by omega))]; exact m3, fun t t1 t2 hk => ?_⟩
      obtain ⟨y, hy⟩ := kd_ne (by rw [hk]; decide)
      rcases grown_get hy with ⟨hz2, _⟩ | ⟨_, rfl⟩
      · have e2 : (xs ++ List.replicate (2 * 2 ^ K) zeroN)[nd m t]? = xs[nd m t]? := List.getElem?_append_left hz2
        rw [um_of e2]
        exact m4 t t1 t2 (by rw [← kd_of e2]; exact hk)
      · rw [kd_some hy] at hk; exact absurd (show (0 : Int) = 2 from hk) (by decide)
  · exact .inl rfl
theorem take_get2 {zs : List TN} {p z : Nat} {x : TN} (h : (zs.take p)[z]? = some x) : z < p ∧ zs[z]? = some x := by
  rw [List.getElem?_take] at h
  split at h
  · rename_i hz; exact ⟨hz, h⟩
  · cases h
theorem sound_cut {K : Nat} {zs : List TN} (h : Sound (K + 1) zs) : Sound K (zs.take (zs.length / 2)) := by
  have hp : 2 ^ (K + 1) = 2 * 2 ^ K := by rw [Nat.pow_succ]; omega
  have hp2 : 2 ^ (K + 1 + 1) = 2 * 2 ^ (K + 1) := by rw [Nat.pow_succ]; omega
  have hl := h.len
  have hle := h.le
  have hlen : (zs.take (zs.length / 2)).length + 1 = 2 ^ (K + 1) := by rw [List.length_take]; have := Nat.two_pow_pos K; omega
  refine ⟨hlen, by omega, fun z x hx => ?_⟩
  have hz := (List.getElem?_eq_some_iff.1 hx).1
  have hkK := lvl_K hlen (by omega) hz
  obtain ⟨hz2, hx'⟩ := take_get2 hx
  rcases h.all z x hx' with a | a | ⟨a, b, c, d, e, g⟩
  · exact .inl a
  · exact .inr (.inl a)
  · refine .inr (.inr ⟨a, b, c, d, e, fun j hj => ?_⟩)
    obtain ⟨m, rfl, m1, m2, m3, m4⟩ := g j hj
    have hm : m < 2 ^ K := by
      rcases Nat.lt_or_ge m (2 ^ K) with hh | hh
      · exact hh
      · exfalso
        generalize lvl (z : Int) = k at *
        have e1 : 2 ^ (K - k) ≤ m / 2 ^ k := by
          rw [Nat.le_div_iff_mul_le (Nat.two_pow_pos k), ← Nat.pow_add, show K - k + k = K by omega]; exact hh
        have e2 : 2 ^ (K - k) * 2 ^ (k + 1) ≤ m / 2 ^ k * 2 ^ (k + 1) := Nat.mul_le_mul_right _ e1
        rw [← Nat.pow_add, show K - k + (k + 1) = K + 1 by omega] at e2
        unfold nd at m2
        generalize m / 2 ^ k * 2 ^ (k + 1) = q at *
        have := Nat.two_pow_pos k
        omega
    refine ⟨m, rfl, hm, m2, by rw [kd_of (List.getElem?_take_of_lt (by omega))]; exact m3, fun t t1 t2 hk => ?_⟩
    obtain ⟨y, hy⟩ := kd_ne (by rw [hk]; decide)
    obtain ⟨hz3, _⟩ := take_get2 hy
    have e2 : (zs.take (zs.length / 2))[nd m t]? = zs[nd m t]? := List.getElem?_take_of_lt hz3
    rw [um_of e2]
    exact m4 t t1 t2 (by rw [← kd_of e2]; exact hk)
end Go.Proofs.YtimdohjlhbpmhaaDoor
