/- plain: TokenCounts: what each had. -/
import Derived.Test.YtanakgbhmmemoaaDoorTB
namespace Go.Proofs.YtanakgbhmmemoaaDoor
open Go.RowKit Go.KK Go.Shelf Go.Maps
set_option linter.unusedVariables false
set_option linter.unusedSimpArgs false

/-- 'incF' round by round. -/
def incR : List (Int × Int) → Int → List (Int × Int)
  | [], w => [(w, 1)]
  | c :: g, w => if c.1 < w then c :: incR g w else if c.1 = w then (w, c.2 + 1) :: g else (w, 1) :: c :: g
theorem lb_zero {g : List (Int × Int)} {w : Int} (h : ∀ c ∈ g, w ≤ c.1) : lbF g w = 0 := by
  unfold lbF
  rw [List.countP_eq_zero]
  intro c hc
  have := h c hc
  simp; omega
theorem is_gt {g : List (Int × Int)} {w : Int} (h : ∀ c ∈ g, w < c.1) : isF g w = false := by
  unfold isF
  rw [List.any_eq_false]
  intro c hc
  have := h c hc
  simp; omega
theorem inc_eq : ∀ {g : List (Int × Int)} (w : Int), CtS g → incF g w = incR g w
  | [], w, _ => rfl
  | c :: g, w, h => by
    obtain ⟨h1, h2⟩ := List.pairwise_cons.1 h
    have ih := inc_eq w h2
    unfold incR
    by_cases hc : c.1 < w
    · rw [if_pos hc, ← ih]
      have e1 : lbF (c :: g) w = lbF g w + 1 := by unfold lbF; rw [List.countP_cons, if_pos (by simpa using hc)]
      have e2 : isF (c :: g) w = isF g w := by unfold isF; rw [List.any_cons, beq_eq_false_iff_ne.2 (by omega), Bool.false_or]
      have e3 : cntF (c :: g) w = cntF g w := by unfold cntF; rw [List.find?_cons, beq_eq_false_iff_ne.2 (by omega)]
      unfold incF
      rw [e1, e2, e3, List.take_succ_cons, List.cons_append]
      congr 3
      cases isF g w <;> rfl
    · rw [if_neg hc]
      have hg : ∀ d ∈ g, w < d.1 := fun d hd => by have := h1 d hd; omega
      have e1 : lbF (c :: g) w = 0 := lb_zero fun d hd => by
        rcases List.mem_cons.1 hd with rfl | hd
        · omega
        · have := hg d hd; omega
      by_cases he : c.1 = w
      · rw [if_pos he]
        have e2 : isF (c :: g) w = true := by unfold isF; rw [List.any_cons, he]; simp
        have e3 : cntF (c :: g) w = c.2 := by unfold cntF; rw [List.find?_cons, he]; simp
        unfold incF
        rw [e1, e2, e3]; rfl
      · rw [if_neg he]
        have e2 : isF (c :: g) w = false := is_gt fun d hd => by
          rcases List.mem_cons.1 hd with rfl | hd
          · omega
          · exact hg d hd
        have e3 : cntF (c :: g) w = 0 := cnt_no e2
        unfold incF
        rw [e1, e2, e3]; rfl
theorem incR_mem : ∀ {g : List (Int × Int)} {w : Int} {d : Int × Int}, d ∈ incR g w → d.1 = w ∨ ∃ c ∈ g, c.1 = d.1
  | [], w, d, h => by unfold incR at h; rw [List.mem_singleton] at h; subst h; exact .inl rfl
  | c :: g, w, d, h => by
    unfold incR at h
    split at h
    · rcases List.mem_cons.1 h with rfl | h
      · exact .inr ⟨_, List.mem_cons_self .., rfl⟩
      · exact (incR_mem h).imp id fun ⟨x, hx, e⟩ => ⟨x, List.mem_cons_of_mem _ hx, e⟩
    · split at h
      · rcases List.mem_cons.1 h with rfl | h
        · exact .inl rfl
        · exact .inr ⟨d, List.mem_cons_of_mem _ h, rfl⟩
      · rcases List.mem_cons.1 h with rfl | h
        · exact .inl rfl
        · exact .inr ⟨d, h, rfl⟩
theorem incR_s : ∀ {g : List (Int × Int)} (w : Int), CtS g → CtS (incR g w)
  | [], w, _ => .cons (fun c h => by cases h) .nil
  | c :: g, w, h => by
    obtain ⟨h1, h2⟩ := List.pairwise_cons.1 h
    unfold incR
    split
    · rename_i hc
      refine .cons (fun d hd => ?_) (incR_s w h2)
      rcases incR_mem hd with e | ⟨x, hx, e⟩
      · rw [e]; exact hc
      · rw [← e]; exact h1 x hx
    · split
      · rename_i hc he
        exact .cons (fun d hd => by have := h1 d hd; show w < d.1; omega) h2
      · rename_i hc he
        refine .cons (fun d hd => ?_) h
        rcases List.mem_cons.1 hd with rfl | hd
        · show w < d.1; omega
        · have := h1 d hd; show w < d.1; omega
theorem cnt_cons (c : Int × Int) (g : List (Int × Int)) (v : Int) : cntF (c :: g) v = if c.1 = v then c.2 else cntF g v := by
  unfold cntF
  rw [List.find?_cons]
  by_cases h : c.1 = v
  · rw [if_pos h, h]; simp
  · rw [if_neg h, beq_eq_false_iff_ne.2 h]
theorem is_cons (c : Int × Int) (g : List (Int × Int)) (v : Int) : isF (c :: g) v = (c.1 == v || isF g v) := by unfold isF; rw [List.any_cons]
theorem incR_cnt : ∀ {g : List (Int × Int)} (w : Int), CtS g → ∀ v, cntF (incR g w) v = if w = v then cntF g w + 1 else cntF g v
  | [], w, _, v => by unfold incR; rw [cnt_cons]; split <;> simp [cntF]
  | c :: g, w, h, v => by
    obtain ⟨h1, h2⟩ := List.pairwise_cons.1 h
    unfold incR
    split
    · rename_i hc
      rw [cnt_cons, incR_cnt w h2, cnt_cons c g v, cnt_cons c g w, if_neg (show ¬ c.1 = w by omega)]
      by_cases hv : w = v
      · subst hv
        rw [if_neg (by omega), if_pos rfl, if_pos rfl]
      · rw [if_neg hv, if_neg hv]
    · split
      · rename_i hc he
        rw [cnt_cons, cnt_cons c g w, if_pos he, cnt_cons c g v]
        by_cases hv : w = v
        · rw [if_pos hv, if_pos hv]
        · rw [if_neg hv, if_neg hv, if_neg (by omega)]
      · rename_i hc he
        have hz : cntF (c :: g) w = 0 := cnt_no (is_gt fun d hd => by
          rcases List.mem_cons.1 hd with rfl | hd
          · omega
          · have := h1 d hd; omega)
        rw [cnt_cons, hz]
        by_cases hv : w = v
        · rw [if_pos hv, if_pos hv]; rfl
        · rw [if_neg hv, if_neg hv]
theorem incR_is : ∀ {g : List (Int × Int)} (w : Int), ∀ v, isF (incR g w) v = (w == v || isF g v)
  | [], w, v => by unfold incR; rw [is_cons]
  | c :: g, w, v => by
    unfold incR
    split
    · rw [is_cons, incR_is w v, is_cons]
      cases (c.1 == v) <;> cases (w == v) <;> rfl
    · split
      · rename_i hc he
        rw [is_cons, is_cons, he]
        cases (w == v) <;> rfl
      · rw [is_cons]
/-- The counts of whom there was given. -/
structure CG (ws : List Int) (g : List (Int × Int)) : Prop where
  s : CtS g
  c : ∀ v, cntF g v = (ws.count v : Int)
  i : ∀ v, isF g v = ws.contains v
  n : g.length ≤ ws.length
theorem cg_nil : CG [] [] := ⟨.nil, fun v => rfl, fun v => rfl, Nat.le_refl _⟩
theorem CG.snoc {ws : List Int} {g : List (Int × Int)} (h : CG ws g) (w : Int) : CG (ws ++ [w]) (incF g w) := by
  have hl := inc_len h.s w
  rw [inc_eq w h.s] at hl ⊢
  refine ⟨incR_s w h.s, fun v => ?_, fun v => ?_, ?_⟩
  · rw [incR_cnt w h.s, h.c, h.c, List.count_append, List.count_singleton]
    by_cases hv : w = v
    · subst hv; simp
    · rw [if_neg hv, beq_eq_false_iff_ne.2 hv]; simp
  · rw [incR_is, h.i, List.contains_append]
    have : ([w] : List Int).contains v = (w == v) := by
      rw [List.contains_cons]
      by_cases hv : w = v
      · subst hv; simp
      · rw [beq_eq_false_iff_ne.2 hv, beq_eq_false_iff_ne.2 (Ne.symm hv)]; rfl
    rw [this, Bool.or_comm]
  · rw [hl, List.length_append]
    have := h.n
    split <;> simp <;> omega
theorem CG.mto {ws : List Int} {g : List (Int × Int)} (h : CG ws g) (hn : ws.length ≤ 100) {q : Int} (hq : I64 q) : MtO ⟨0, q, g, []⟩ := by
  refine ⟨by show I64 0; exact ⟨by decide, by decide⟩, hq, h.s, fun c hc => ?_, by have := h.n; show g.length ≤ 1000; omega, .nil, by simp, fun i h => by simp at h⟩
  have hi : isF g c.1 = true := by unfold isF; rw [List.any_eq_true]; exact ⟨c, hc, by simp⟩
  obtain ⟨k, hk, rfl⟩ := List.mem_iff_getElem.1 hc
  have hg : g[k]? = some g[k] := List.getElem?_eq_getElem hk
  obtain ⟨d, h1, h2, h3, h4⟩ := cnt_yes h.s hi
  rw [lb_of h.s hg, hg] at h1
  injection h1 with h1
  have hc := h.c (g[k]).1
  rw [h3, ← h1] at hc
  have := List.count_le_length (a := (g[k]).1) (l := ws)
  show 0 ≤ (g[k]).2 ∧ (g[k]).2 ≤ 1000000
  omega
theorem CG.had {ws : List Int} {g : List (Int × Int)} (h : CG ws g) (hw : ∀ w ∈ ws, 2 ≤ w ∧ w ≤ 7) : hadF g [2, 3, 4, 5, 6, 7] = (ws.length : Int) := by
  have e : hadF g [2, 3, 4, 5, 6, 7] = (ws.count 2 : Int) + (ws.count 3 + (ws.count 4 + (ws.count 5 + (ws.count 6 + (ws.count 7 + 0))))) := by
    unfold hadF
    simp only [List.map_cons, List.map_nil, List.sum_cons, List.sum_nil, h.c]
  rw [e]
  clear e h
  induction ws with
  | nil => rfl
  | cons x ws ih =>
    have ih := ih fun w hx => hw w (List.mem_cons_of_mem _ hx)
    have hx := hw x (List.mem_cons_self ..)
    have h6 : x = 2 ∨ x = 3 ∨ x = 4 ∨ x = 5 ∨ x = 6 ∨ x = 7 := by omega
    simp only [List.count_cons, List.length_cons]
    rcases h6 with rfl | rfl | rfl | rfl | rfl | rfl <;> simp <;> omega
/-- The map of the counts. -/
structure CM (D : MD) (ws : List Int) : Prop where
  t : Tidy D
  a : ∀ v, D.atKey (.int .i64 v) (.lit (.int .i64 0)) = .lit (.int .i64 (ws.count v : Int))
  h : ∀ v, Maps.has D (.int .i64 v) = ws.contains v
theorem cm_nil : CM (.map []) [] := ⟨tidy_empty, fun v => rfl, fun v => rfl⟩
theorem CM.put {D : MD} {ws : List Int} (h : CM D ws) (w : Int) {c : Int} (hc : c = (ws.count w : Int) + 1) : CM (D.put (.int .i64 w) (.lit (.int .i64 c))) (ws ++ [w]) := by
  refine ⟨h.t.put (by trivial) _, fun v => ?_, fun v => ?_⟩
  · by_cases hv : v = w
    · subst hv
      rw [Maps.atKey_put_same h.t.isMap (by trivial), hc, List.count_append, List.count_singleton]
      simp
    · rw [Maps.atKey_put_other (fun e => hv (by injection e)), h.a, List.count_append, List.count_singleton, beq_eq_false_iff_ne.2 (Ne.symm hv)]
      simp
  · rw [List.contains_append]
    have : ([w] : List Int).contains v = (v == w) := by rw [List.contains_cons]; simp
    rw [this]
    by_cases hv : v = w
    · subst hv
      rw [Maps.has_put_same h.t.isMap (by trivial)]; simp
    · rw [Maps.has_put_other (fun e => hv (by injection e)), h.h, beq_eq_false_iff_ne.2 hv, Bool.or_false]
/-- As many entries as counts. -/
structure CS (D : MD) (ws : List Int) (g : List (Int × Int)) : Prop extends CM D ws, CG ws g where
  z : Maps.size D = g.length
theorem cs_nil : CS (.map []) [] [] := { toCM := cm_nil, toCG := cg_nil, z := rfl }
theorem CS.snoc {D : MD} {ws : List Int} {g : List (Int × Int)} (h : CS D ws g) (w : Int) {c : Int} (hc : c = (ws.count w : Int) + 1) : CS (D.put (.int .i64 w) (.lit (.int .i64 c))) (ws ++ [w]) (incF g w) := by
  refine { toCM := h.toCM.put w hc, toCG := h.toCG.snoc w, z := ?_ }
  rw [size_put h.t, h.h, inc_len h.s, h.i, h.z]
/-- Who it is. -/
def whoF (n : Int) : Int := RowKit.wrap64 (2 + (RowKit.wrap64 (n.tmod 6 + 6)).tmod 6)
theorem wrap_id {y : Int} (h1 : -9223372036854775808 ≤ y) (h2 : y ≤ 9223372036854775807) : RowKit.wrap64 y = y := by
  unfold RowKit.wrap64; omega
theorem whoF_in (x : Int) : 2 ≤ whoF x ∧ whoF x ≤ 7 := by
  have h1 : -6 < x.tmod 6 := Int.lt_tmod_of_pos x (by decide)
  have h2 : x.tmod 6 < 6 := Int.tmod_lt_of_pos x (by decide)
  unfold whoF
  rw [wrap_id (y := x.tmod 6 + 6) (by omega) (by omega)]
  have h3 : 0 ≤ (x.tmod 6 + 6).tmod 6 := Int.tmod_nonneg _ (by omega)
  have h4 : (x.tmod 6 + 6).tmod 6 < 6 := Int.tmod_lt_of_pos _ (by decide)
  rw [wrap_id (by omega) (by omega)]
  omega
/-! the nodes -/
def cnA : List ND := atoms 12 ++ [atN 50, ndN 12 [1, 12]]
def cnB : List ND := cnA ++ [ndN 10 [0, 13]]
theorem cn_new : newF (atoms 12) 0 100 = (⟨0, 100, [], []⟩, 0) := by decide +kernel
theorem cn_ask : askF (atoms 12) 1 50 = (cnA, 13, 0) := by decide +kernel
/-- What the arena holds, as issued. -/
def cnX (k : Nat) : List ND := if k = 0 then cnA else cnB
theorem cn_sideA : ∀ w : Fin 6, (hasB cnA (2 + (w.val : Int)) && hasB cnA 13 && (nodeF cnA 13).o == 12) = true ∧ (hasB cnB (2 + (w.val : Int)) && hasB cnB 13 && (nodeF cnB 13).o == 12) = true := by decide +kernel
theorem cn_mkA : makT cnA (ndN 10 [0, 13]) = cnB ∧ makI cnA (ndN 10 [0, 13]) = 14 ∧ makE cnA (ndN 10 [0, 13]) = 0 := by decide +kernel
theorem cn_mkB : makT cnB (ndN 10 [0, 13]) = cnB ∧ makI cnB (ndN 10 [0, 13]) = 14 ∧ makE cnB (ndN 10 [0, 13]) = 0 := by decide +kernel
theorem cn_iss {g : List (Int × Int)} {w : Int} (k : Nat) (h1 : 2 ≤ w) (h2 : w ≤ 7) (hc : cntF g w < 100) : issF (cnX k) ⟨0, 100, g, []⟩ w 13 = (cnX (k + 1), 14, ⟨0, 100, incF g w, []⟩, 0) := by
  have hs := cn_sideA ⟨(w - 2).toNat, by omega⟩
  rw [show (2 : Int) + (((⟨(w - 2).toNat, by omega⟩ : Fin 6).val : Nat) : Int) = w by show 2 + (((w - 2).toNat : Nat) : Int) = w; omega] at hs
  have hk : ∀ X : List ND, (X = cnA ∨ X = cnB) → issF X ⟨0, 100, g, []⟩ w 13 = (cnB, 14, ⟨0, 100, incF g w, []⟩, 0) := by
    intro X hX
    unfold issF
    rcases hX with rfl | rfl
    · rw [if_pos hs.1, if_neg (show ¬ (100 : Int) ≤ cntF g w by omega)]
      simp only [cn_mkA.1, cn_mkA.2.1, cn_mkA.2.2]
      rfl
    · rw [if_pos hs.2, if_neg (show ¬ (100 : Int) ≤ cntF g w by omega)]
      simp only [cn_mkB.1, cn_mkB.2.1, cn_mkB.2.2]
      rfl
  have e : cnX (k + 1) = cnB := by unfold cnX; rw [if_neg (by omega)]
  rw [e]
  apply hk
  unfold cnX
  split
  · exact .inl rfl
  · exact .inr rfl
end Go.Proofs.YtanakgbhmmemoaaDoor
