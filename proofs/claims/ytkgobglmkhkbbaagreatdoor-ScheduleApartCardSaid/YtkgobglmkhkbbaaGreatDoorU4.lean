/- plain: layer 11's laws: Psk, Joins, Apart. -/
import Derived.Test.YtkgobglmkhkbbaaGreatDoorU3
namespace Go.KK
open Go.RowKit
set_option linter.unusedVariables false
set_option linter.unusedSimpArgs false

/-- A step that makes so many nodes at the most. -/
def Gw (F : List ND → Rs) (k : Nat) : Prop := ∀ xs, (F xs).1.length ≤ xs.length + k
theorem gw_mk (x : ND) : Gw (fun xs => mk xs x) 1 := fun xs => mak_len xs x
theorem gw_bd {F : List ND → Rs} {G : Int → List ND → Rs} {j k : Nat} (hF : Gw F j) (hG : ∀ i, Gw (G i) k) : Gw (fun xs => bdF (F xs) fun ys i => G i ys) (j + k) := fun xs => by
  have h1 := hF xs
  have h2 := hG (F xs).2.1 (F xs).1
  show (bdF (F xs) fun ys i => G i ys).1.length ≤ _
  unfold bdF
  split
  · show (G (F xs).2.1 (F xs).1).1.length ≤ _
    try dsimp only at h1 h2
    omega
  · try dsimp only at h1 ⊢
    omega
theorem gw_kno {F : List ND → Rs} {k : Nat} (l : List Int) (hF : Gw F k) : Gw (fun xs => if kno xs l = true then F xs else (xs, 0, 1)) k := fun xs => by
  show (if kno xs l = true then F xs else (xs, 0, 1)).1.length ≤ _
  split
  · exact hF xs
  · dsimp only; omega
theorem gw_ex (s t : Int) : Gw (fun xs => exF xs s t) 1 := gw_mk _
theorem gw_exd (s : Int) (lab : ByteArray) (c : Int) : Gw (fun xs => exdF xs s lab c) 2 := gw_kno _ (gw_bd (G := fun t ys => mk ys (ndN 6 [s, t, c])) (j := 1) (k := 1) (gw_mk _) fun _ => gw_mk _)
theorem gw_dv (s : Int) (lab : ByteArray) : Gw (fun xs => dvF xs s lab) 3 := gw_kno _ (gw_bd (G := fun n ys => exdF ys s lab n) (j := 1) (k := 2) (gw_mk _) fun n => gw_exd s lab n)
theorem gw_jn (i c x : Int) : Gw (fun xs => jnF xs i c x) 3 := gw_bd (G := fun m ys => exdF ys m lbJoiner x) (j := 1) (k := 2) (gw_ex i c) fun m => gw_exd m lbJoiner x
theorem gw_psk (l : List Int) : Gw (fun xs => pskF xs l) (1 + l.length) := by
  refine snoc_ind (P := fun l => Gw (fun xs => pskF xs l) (1 + l.length)) (gw_mk _) (fun l s ih => ?_) l
  unfold pskF at ih ⊢
  simp only [psk_snoc, List.length_append, List.length_singleton]
  rw [← Nat.add_assoc]
  exact gw_bd (G := fun p ys => exF ys p s) ih fun p => gw_ex p s
theorem run_gw : ∀ (fs : List (List Int → List ND → Rs)) (xs : List ND) (acc : List Int), (∀ f ∈ fs, ∀ a, Gw (f a) 3) → (runF xs acc fs).1.length ≤ xs.length + 3 * fs.length
  | [], xs, acc, _ => by simp [runF]
  | f :: fs, xs, acc, h => by
    have h1 := h f (by simp) acc xs
    by_cases h0 : (f acc xs).2.2 = 0
    · rw [run_cons_ok h0]
      have := run_gw fs (f acc xs).1 (acc ++ [(f acc xs).2.1]) fun g hg => h g (List.mem_cons_of_mem _ hg)
      simp only [List.length_cons]; omega
    · rw [run_cons_no h0]
      simp only [List.length_cons]; omega
theorem bgS_gw (j p x : Int) : ∀ f ∈ bgS j p x, ∀ a, Gw (f a) 3 := by
  have up : ∀ {F : List ND → Rs} {k : Nat}, k ≤ 3 → Gw F k → Gw F 3 := fun hk h xs => by have := h xs; omega
  intro f hf a
  unfold bgS at hf
  simp only [List.mem_append, List.mem_cons, List.mem_map, List.mem_nil_iff, or_false] at hf
  rcases hf with ((rfl | rfl | rfl) | ⟨lb, _, rfl⟩) | rfl
  · exact up (by omega) (gw_ex j p)
  · exact gw_dv _ _
  · exact up (by omega) (gw_exd _ _ _)
  · exact gw_dv _ _
  · exact up (by omega) (gw_mk _)
theorem nx_len (xs : List ND) (i c x : Int) (l : List Int) : (nxF xs i c x l).1.length ≤ xs.length + l.length + 40 := by
  have h1 := gw_jn i c x xs
  have h2 := gw_psk l (jnF xs i c x).1
  have h3 := run_gw _ (pskF (jnF xs i c x).1 l).1 [] (bgS_gw (jnF xs i c x).2.1 (pskF (jnF xs i c x).1 l).2.1 x)
  try dsimp only at h1 h2 h3
  have h4 : (bgS (jnF xs i c x).2.1 (pskF (jnF xs i c x).1 l).2.1 x).length = 12 := rfl
  have h5 : (bgF (pskF (jnF xs i c x).1 l).1 (jnF xs i c x).2.1 (pskF (jnF xs i c x).1 l).2.1 x).1.length ≤ xs.length + l.length + 40 := by
    show (runF _ [] _).1.length ≤ _
    rw [h4] at h3
    omega
  unfold nxF
  split
  · split
    · unfold begF; split <;> exact h5
    · dsimp only; omega
  · dsimp only; omega
/-- A text, a list of nothing, a key: where there is room they are made. -/
theorem mk_may {xs : List ND} {x : ND} (hl : xs.length < 100000) (hm : mayB xs x = true) : makE xs x = 0 := by
  unfold makE
  rw [if_pos hm]
  split
  · rfl
  · rw [if_neg (by omega)]
theorem exd_ok {xs : List ND} {s c : Int} {lab : ByteArray} (hs : hasB xs s = true) (hc : hasB xs c = true) (hl : lab.size ≤ 200) (hx : xs.length + 2 ≤ 100000) : (exdF xs s lab c).2.2 = 0 := by
  have ht : makE xs (txN lab) = 0 := mk_may (by omega) (by rw [text_may]; exact decide_eq_true hl)
  unfold exdF
  rw [if_pos (by unfold kno; simp [hs, hc])]
  unfold bdF
  rw [if_pos (show (mk xs (txN lab)).2.2 = 0 from ht)]
  obtain ⟨m, hm⟩ := mak_pre xs (txN lab)
  have hlen := mak_len xs (txN lab)
  have at1 := (mk_at ht).1
  show makE (makT xs (txN lab)) (ndN 6 [s, makI xs (txN lab), c]) = 0
  refine mk_may (by omega) ?_
  have h1 : hasB (makT xs (txN lab)) s = true := by rw [hm]; exact has_ext hs m
  have h2 : hasB (makT xs (txN lab)) c = true := by rw [hm]; exact has_ext hc m
  have h3 := at1.has
  have h4 : opAt (makT xs (txN lab)) (makI xs (txN lab)) = 2 := by unfold opAt; rw [at1.2]; rfl
  unfold mayB shB ndN
  simp [lenB, arN, h1, h2, h3, h4]
  exact ⟨by decide, rfl⟩
theorem dv_ok {xs : List ND} {s : Int} {lab : ByteArray} (hs : hasB xs s = true) (hl : lab.size ≤ 200) (hx : xs.length + 3 ≤ 100000) : (dvF xs s lab).2.2 = 0 := by
  have ht : makE xs (ndN 3 []) = 0 := mk_may (by omega) (by unfold mayB shB ndN; simp [lenB, arN]; exact ⟨by decide, rfl⟩)
  obtain ⟨m, hm⟩ := mak_pre xs (ndN 3 [])
  have hlen := mak_len xs (ndN 3 [])
  unfold dvF
  rw [if_pos (by unfold kno; simp [hs])]
  unfold bdF
  rw [if_pos (show (mk xs (ndN 3 [])).2.2 = 0 from ht)]
  exact exd_ok (by show hasB (makT xs (ndN 3 [])) s = true; rw [hm]; exact has_ext hs m) (mk_at ht).1.has hl (by show (makT xs (ndN 3 [])).length + 2 ≤ _; omega)
theorem xp_ok {xs : List ND} {ep : List Int} {lab : ByteArray} {x : Int} (hx : hasB xs x = true) (he : hasB xs (ep.getD 5 0) = true) (hl : lab.size ≤ 200) (hn : xs.length + 5 ≤ 100000) : (xpF xs ep lab x).2.2 = 0 := by
  have h1 := dv_ok he hl (show xs.length + 3 ≤ 100000 by omega)
  have h2 := gw_dv (ep.getD 5 0) lab xs
  obtain ⟨m, hm⟩ := (sb_dv (ep.getD 5 0) lab).ext xs
  have h3 := (sb_dv (ep.getD 5 0) lab).has xs h1
  try dsimp only at h2 h3 hm
  unfold xpF
  rw [if_pos hx]
  unfold bdF
  rw [if_pos h1]
  exact exd_ok h3 (by rw [hm]; exact has_ext hx m) (by decide) (by omega)
theorem psk_law {xs : List ND} (ok : Okay xs) {l m : List Int} (h1 : (pskF xs l).2.2 = 0) (h2 : (pskF (pskF xs l).1 m).2.2 = 0) :
    pskF (pskF (pskF xs l).1 m).1 l = ((pskF (pskF xs l).1 m).1, (pskF xs l).2.1, 0) ∧ ((pskF xs l).2.1 = (pskF (pskF xs l).1 m).2.1 ↔ l = m) := by
  have o2 := (sb_psk m).ok _ ((sb_psk l).ok xs ok)
  obtain ⟨v, hv⟩ := (sb_psk m).ext (pskF xs l).1
  have a1 := psk_at xs l h1
  have a2 := psk_at (pskF xs l).1 m h2
  have f := (sb_psk l).fix xs v
  try dsimp only at o2 hv f
  rw [← hv] at f
  have a3 : PskAt (pskF (pskF xs l).1 m).1 (pskF xs l).2.1 l := by rw [hv]; exact a1.ext v
  refine ⟨f o2 h1, fun e => ?_, fun e => ?_⟩
  · rw [e] at a3; exact a3.eq a2
  · rw [← e] at a2
    rw [← e] at a3 o2
    rw [← e]
    exact PskAt.uniq o2 a3 a2
theorem nx_has {X : List ND} {i c x : Int} {l ep : List Int} (h : NxAt X i c x l ep) (ok : Okay X) : hasB X x = true ∧ hasB X (ep.getD 5 0) = true := by
  obtain ⟨u, p, a, h1, h2, h3, h4, h5⟩ := h.go
  have hd := h5.d 2 (by omega)
  obtain ⟨n, -, t, -, hk⟩ := hd
  obtain ⟨t', -, hj⟩ := h3
  have hm := ok.may _ _ hj.2
  unfold mayB at hm
  simp only [Bool.and_eq_true, List.all_eq_true] at hm
  have hx := has_iff.1 (hm.1.2 x (by unfold ndN; simp))
  rw [List.length_take] at hx
  refine ⟨has_iff.2 ⟨hx.1, by omega⟩, ?_⟩
  rw [show ep.getD 5 0 = a.getD 5 0 by rw [h1]; rfl]
  exact hk.has
end Go.KK
