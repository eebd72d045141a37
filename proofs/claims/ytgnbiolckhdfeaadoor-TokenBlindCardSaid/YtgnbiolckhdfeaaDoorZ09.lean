import Derived.Test.YtgnbiolckhdfeaaDoorZ08
import Derived.Maps.OwnOps
import Derived.Deep.DeepCutAuto
import Derived.Test.YtgnbiolckhdfeaaDoorZ04
import Derived.Test.YtgnbiolckhdfeaaDoorZ02
import Derived.Test.YtgnbiolckhdfeaaDoorZ05
import Derived.Test.YtgnbiolckhdfeaaDoorZ03
/- plain: TokenCounts: what each had. -/
namespace Go.Proofs.YtgnbiolckhdfeaaDoor
open Go.RowKit Go.KK Go.Shelf Go.Maps
set_option linter.unusedVariables false
set_option linter.unusedSimpArgs false

/-- 'incF' round by round. -/
def incR : List (Int × Int) → Int → List (Int × Int)
  | [], w => [(w, 1)]
  | c :: g, w => if c.1 < w then c :: incR g w else if c.1 = w then (w, c.2 + 1) :: g else (w, 1) :: c :: g
theorem lb_zero {g : List (Int × Int)} {w : Int} (h : ∀ c ∈ g, w ≤ c.1) : lbF g w = 0 := by
  unfold lbF
  rw [List.countP_eq_zero]
  intro c hc
  have := h c hc
  simp; omega
theorem is_gt {g : List (Int × Int)} {w : Int} (h : ∀ c ∈ g, w < c.1) : isF g w = false := by
  unfold isF
  rw [List.any_eq_false]
  intro c hc
  have := h c hc
  simp; omega
theorem inc_eq : ∀ {g : List (Int × Int)} (w : Int), CtS g → incF g w = incR g w
  | [], w, _ => rfl
  | c :: g, w, h => by
    obtain ⟨h1, h2⟩ := List.pairwise_cons.1 h
    have ih := inc_eq w h2
    unfold incR
    by_cases hc : c.1 < w
    · rw [if_pos hc, ← ih]
      have e1 : lbF (c :: g) w = lbF g w + 1 := by unfold lbF; rw [List.countP_cons, if_pos (by simpa using hc)]
      have e2 : isF (c :: g) w = isF g w := by unfold isF; rw [List.any_cons, beq_eq_false_iff_ne.2 (by omega), Bool.false_or]
      have e3 : cntF (c :: g) w = cntF g w := by unfold cntF; rw [List.find?_cons, beq_eq_false_iff_ne.2 (by omega)]
      unfold incF
      rw [e1, e2, e3, List.take_succ_cons, List.cons_append]
      congr 3
      cases isF g w <;> rfl
    · rw [if_neg hc]
      have hg : ∀ d ∈ g, w < d.1 := fun d hd => by have := h1 d hd; omega
      have e1 : lbF (c :: g) w = 0 := lb_zero fun d hd => by
        rcases List.mem_cons.1 hd with rfl | hd
        · omega
        · have := hg d hd; omega
      by_cases he : c.1 = w
      · rw [if_pos he]
        have e2 : isF (c :: g) w = true := by unfold isF; rw [List.any_cons, he]; simp
        have e3 : cntF (c :: g) w = c.2 := by unfold cntF; rw [List.find?_cons, he]; simp
        unfold incF
        rw [e1, e2, e3]; rfl
      · rw [if_neg he]
        have e2 : isF (c :: g) w = false := is_gt fun d hd => by
          rcases List.mem_cons.1 hd with rfl | hd
          · omega
          · exact hg d hd
        have e3 : cntF (c :: g) w = 0 := cnt_no e2
        unfold incF
        rw [e1, e2, e3]; rfl
theorem incR_mem : ∀ {g : List (Int × Int)} {w : Int} {d : Int × Int}, d ∈ incR g w → d.1 = w ∨ ∃ c ∈ g, c.1 = d.1
  | [], w, d, h => by unfold incR at h; rw [List.mem_singleton] at h; subst h; exact .inl rfl
  | c :: g, w, d, h => by
    unfold incR at h
    split at h
    · rcases List.mem_cons.1 h with rfl | h
      · exact .inr ⟨_, List.mem_cons_self .., rfl⟩
      · exact (incR_mem h).imp id fun ⟨x, hx, e⟩ => ⟨x, List.mem_cons_of_mem _ hx, e⟩
    · split at h
      · rcases List.mem_cons.1 h with rfl | h
        · exact .inl rfl
        · exact .inr ⟨d, List.mem_cons_of_mem _ h, rfl⟩
      · rcases List.mem_cons.1 h with rfl | h
        · exact .inl rfl
        · exact .inr ⟨d, h, rfl⟩
theorem incR_s : ∀ {g : List (Int × Int)} (w : Int), CtS g → CtS (incR g w)
  | [], w, _ => .cons (fun c h => by cases h) .nil
  | c :: g, w, h => by
    obtain ⟨h1, h2⟩ := List.pairwise_cons.1 h
    unfold incR
    split
    · rename_i hc
      refine .cons (fun d hd => ?_) (incR_s w h2)
      rcases incR_mem hd with e | ⟨x, hx, e⟩
      · rw [e]; exact hc
      · rw [← e]; exact h1 x hx
    · split
      · rename_i hc he
        exact .cons (fun d hd => by have := h1 d hd; show w < d.1; omega) h2
      · rename_i hc he
        refine .cons (fun d hd => ?_) h
        rcases List.mem_cons.1 hd with rfl | hd
        · show w < d.1; omega
        · have := h1 d hd; show w < d.1; omega
theorem cnt_cons (c : Int × Int) (g : List (Int × Int)) (v : Int) : cntF (c :: g) v = if c.1 = v then c.2 else cntF g v := by
  unfold cntF
  rw [List.find?_cons]
  by_cases h : c.1 = v
  · rw [if_pos h, h]; simp
  · rw [if_neg h, beq_eq_false_iff_ne.2 h]
theorem is_cons (c : Int × Int) (g : List (Int × Int)) (v : Int) : isF (c :: g) v = (c.1 == v || isF g v) := by unfold isF; rw [List.any_cons]
theorem incR_cnt : ∀ {g : List (Int × Int)} (w : Int), CtS g → ∀ v, cntF (incR g w) v = if w = v then cntF g w + 1 else cntF g v
  | [], w, _, v => by unfold incR; rw [cnt_cons]; split <;> simp [cntF]
  | c :: g, w, h, v => by
    obtain ⟨h1, h2⟩ := List.pairwise_cons.1 h
    unfold incR
    split
    · rename_i hc
      rw [cnt_cons, incR_cnt w h2, cnt_cons c g v, cnt_cons c g w, if_neg (show ¬ c.1 = w by omega)]
      by_cases hv : w = v
      · subst hv
        rw [if_neg (by omega), if_pos rfl, if_pos rfl]
      · rw [if_neg hv, if_neg hv]
    · split
      · rename_i hc he
        rw [cnt_cons, cnt_cons c g w, if_pos he, cnt_cons c g v]
        by_cases hv : w = v
        · rw [if_pos hv, if_pos hv]
        · rw [if_neg hv, if_neg hv, if_neg (by omega)]
      · rename_i hc he
        have hz : cntF (c :: g) w = 0 := cnt_no (is_gt fun d hd => by
          rcases List.mem_cons.1 hd with rfl | hd
          · omega
          · have := h1 d hd; omega)
        rw [cnt_cons, hz]
        by_cases hv : w = v
        · rw [if_pos hv, if_pos hv]; rfl
        · rw [if_neg hv, if_neg hv]
theorem incR_is : ∀ {g : List (Int × Int)} (w : Int), ∀ v, isF (incR g w) v = (w == v || isF g v)
  | [], w, v => by unfold incR; rw [is_cons]
  | c :: g, w, v => by
    unfold incR
    split
    · rw [is_cons, incR_is w v, is_cons]
      cases (c.1 == v) <;> cases (w == v) <;> rfl
    · split
      · rename_i hc he
        rw [is_cons, is_cons, he]
        cases (w == v) <;> rfl
      · rw [is_cons]
/-- The counts of whom there was given. -/
structure CG (ws : List Int) (g : List (Int × Int)) : Prop where
  s : CtS g
  c : ∀ v, cntF g v = (ws.count v : Int)
  i : ∀ v, isF g v = ws.contains v
  n : g.length ≤ ws.length
theorem cg_nil : CG [] [] := ⟨.nil, fun v => rfl, fun v => rfl, Nat.le_refl _⟩
theorem CG.snoc {ws : List Int} {g : List (Int × Int)} (h : CG ws g) (w : Int) : CG (ws ++ [w]) (incF g w) := by
  have hl := inc_len h.s w
  rw [inc_eq w h.s] at hl ⊢
  refine ⟨incR_s w h.s, fun v => ?_, fun v => ?_, ?_⟩
  · rw [incR_cnt w h.s, h.c, h.c, List.count_append, List.count_singleton]
    by_cases hv : w = v
    · subst hv; simp
    · rw [if_neg hv, beq_eq_false_iff_ne.2 hv]; simp
  · rw [incR_is, h.i, List.contains_append]
    have : ([w] : List Int).contains v = (w == v) := by
      rw [List.contains_cons]
      by_cases hv : w = v
      · subst hv; simp
      · rw [beq_eq_false_iff_ne.2 hv, beq_eq_false_iff_ne.2 (Ne.symm hv)]; rfl
    rw [this, Bool.or_comm]
  · rw [hl, List.length_append]
    have := h.n
    split <;> simp <;> omega
theorem CG.mto {ws : List Int} {g : List (Int × Int)} (h : CG ws g) (hn : ws.length ≤ 100) {q : Int} (hq : I64 q) : MtO ⟨0, q, g, []⟩ := by
  refine ⟨by show I64 0; exact ⟨by decide, by decide⟩, hq, h.s, fun c hc => ?_, by have := h.n; show g.length ≤ 1000; omega, .nil, by simp, fun i h => by simp at h⟩
  have hi : isF g c.1 = true := by unfold isF; rw [List.any_eq_true]; exact ⟨c, hc, by simp⟩
  obtain ⟨k, hk, rfl⟩ := List.mem_iff_getElem.1 hc
  have hg : g[k]? = some g[k] := List.getElem?_eq_getElem hk
  obtain ⟨d, h1, h2, h3, h4⟩ := cnt_yes h.s hi
  rw [lb_of h.s hg, hg] at h1
  injection h1 with h1
  have hc := h.c (g[k]).1
  rw [h3, ← h1] at hc
  have := List.count_le_length (a := (g[k]).1) (l := ws)
  show 0 ≤ (g[k]).2 ∧ (g[k]).2 ≤ 1000000
  omega
theorem CG.had {ws : List Int} {g : List (Int × Int)} (h : CG ws g) (hw : ∀ w ∈ ws, 2 ≤ w ∧ w ≤ 7) : hadF g [2, 3, 4, 5, 6, 7] = (ws.length : Int) := by
  have e : hadF g [2, 3, 4, 5, 6, 7] = (ws.count 2 : Int) + (ws.count 3 + (ws.count 4 + (ws.count 5 + (ws.count 6 + (ws.count 7 + 0))))) := by
    unfold hadF
    simp only [List.map_cons, List.map_nil, List.sum_cons, List.sum_nil, h.c]
  rw [e]
  clear e h
  induction ws with
  | nil => rfl
  | cons x ws ih =>
    have ih := ih fun w hx => hw w (List.mem_cons_of_mem _ hx)
    have hx := hw x (List.mem_cons_self ..)
    have h6 : x = 2 ∨ x = 3 ∨ x = 4 ∨ x = 5 ∨ x = 6 ∨ x = 7 := by omega
    simp only [List.count_cons, List.length_cons]
    rcases h6 with rfl | rfl | rfl | rfl | rfl | rfl <;> simp <;> omega
/-- The map of the counts. -/
structure CM (D : MD) (ws : List Int) : Prop where
  t : Tidy D
  a : ∀ v, D.atKey (.int .i64 v) (.lit (.int .i64 0)) = .lit (.int .i64 (ws.count v : Int))
  h : ∀ v, Maps.has D (.int .i64 v) = ws.contains v
theorem cm_nil : CM (.map []) [] := ⟨tidy_empty, fun v => rfl, fun v => rfl⟩
theorem CM.put {D : MD} {ws : List Int} (h : CM D ws) (w : Int) {c : Int} (hc : c = (ws.count w : Int) + 1) : CM (D.put (.int .i64 w) (.lit (.int .i64 c))) (ws ++ [w]) := by
  refine ⟨h.t.put (by trivial) _, fun v => ?_, fun v => ?_⟩
  · by_cases hv : v = w
    · subst hv
      rw [Maps.atKey_put_same h.t.isMap (by trivial), hc, List.count_append, List.count_singleton]
      simp
    · rw [Maps.atKey_put_other (fun e => hv (by injection e)), h.a, List.count_append, List.count_singleton, beq_eq_false_iff_ne.2 (Ne.symm hv)]
      simp
  · rw [List.contains_append]
    have : ([w] : List Int).contains v = (v == w) := by rw [List.contains_cons]; simp
    rw [this]
    by_cases hv : v = w
    · subst hv
      rw [Maps.has_put_same h.t.isMap (by trivial)]; simp
    · rw [Maps.has_put_other (fun e => hv (by injection e)), h.h, beq_eq_false_iff_ne.2 hv, Bool.or_false]
/-- As many entries as counts. -/
structure CS (D : MD) (ws : List Int) (g : List (Int × Int)) : Prop extends CM D ws, CG ws g where
  z : Maps.size D = g.length
theorem cs_nil : CS (.map []) [] [] := { toCM := cm_nil, toCG := cg_nil, z := rfl }
theorem CS.snoc {D : MD} {ws : List Int} {g : List (Int × Int)} (h : CS D ws g) (w : Int) {c : Int} (hc : c = (ws.count w : Int) + 1) : CS (D.put (.int .i64 w) (.lit (.int .i64 c))) (ws ++ [w]) (incF g w) := by
  refine { toCM := h.toCM.put w hc, toCG := h.toCG.snoc w, z := ?_ }
  rw [size_put h.t, h.h, inc_len h.s, h.i, h.z]
/-- Who it is. -/
def whoF (n : Int) : Int := RowKit.wrap64 (2 + (RowKit.wrap64 (n.tmod 6 + 6)).tmod 6)
theorem wrap_id {y : Int} (h1 : -9223372036854775808 ≤ y) (h2 : y ≤ 9223372036854775807) : RowKit.wrap64 y = y := by
  unfold RowKit.wrap64; omega
theorem whoF_in (x : Int) : 2 ≤ whoF x ∧ whoF x ≤ 7 := by
  have h1 : -6 < x.tmod 6 := Int.lt_tmod_of_pos x (by decide)
  have h2 : x.tmod 6 < 6 := Int.tmod_lt_of_pos x (by decide)
  unfold whoF
  rw [wrap_id (y := x.tmod 6 + 6) (by omega) (by omega)]
  have h3 : 0 ≤ (x.tmod 6 + 6).tmod 6 := Int.tmod_nonneg _ (by omega)
  have h4 : (x.tmod 6 + 6).tmod 6 < 6 := Int.tmod_lt_of_pos _ (by decide)
  rw [wrap_id (by omega) (by omega)]
  omega
/-! the nodes -/
def cnA : List ND := atoms 12 ++ [atN 50, ndN 12 [1, 12]]
def cnB : List ND := cnA ++ [ndN 10 [0, 13]]
theorem cn_new : newF (atoms 12) 0 100 = (⟨0, 100, [], []⟩, 0) := by decide +kernel
theorem cn_ask : askF (atoms 12) 1 50 = (cnA, 13, 0) := by decide +kernel
/-- What the arena holds, as issued. -/
def cnX (k : Nat) : List ND := if k = 0 then cnA else cnB
theorem cn_sideA : ∀ w : Fin 6, (hasB cnA (2 + (w.val : Int)) && hasB cnA 13 && (nodeF cnA 13).o == 12) = true ∧ (hasB cnB (2 + (w.val : Int)) && hasB cnB 13 && (nodeF cnB 13).o == 12) = true := by decide +kernel
theorem cn_mkA : makT cnA (ndN 10 [0, 13]) = cnB ∧ makI cnA (ndN 10 [0, 13]) = 14 ∧ makE cnA (ndN 10 [0, 13]) = 0 := by decide +kernel
theorem cn_mkB : makT cnB (ndN 10 [0, 13]) = cnB ∧ makI cnB (ndN 10 [0, 13]) = 14 ∧ makE cnB (ndN 10 [0, 13]) = 0 := by decide +kernel
theorem cn_iss {g : List (Int × Int)} {w : Int} (k : Nat) (h1 : 2 ≤ w) (h2 : w ≤ 7) (hc : cntF g w < 100) : issF (cnX k) ⟨0, 100, g, []⟩ w 13 = (cnX (k + 1), 14, ⟨0, 100, incF g w, []⟩, 0) := by
  have hs := cn_sideA ⟨(w - 2).toNat, by omega⟩
  rw [show (2 : Int) + (((⟨(w - 2).toNat, by omega⟩ : Fin 6).val : Nat) : Int) = w by show 2 + (((w - 2).toNat : Nat) : Int) = w; omega] at hs
  have hk : ∀ X : List ND, (X = cnA ∨ X = cnB) → issF X ⟨0, 100, g, []⟩ w 13 = (cnB, 14, ⟨0, 100, incF g w, []⟩, 0) := by
    intro X hX
    unfold issF
    rcases hX with rfl | rfl
    · rw [if_pos hs.1, if_neg (show ¬ (100 : Int) ≤ cntF g w by omega)]
      simp only [cn_mkA.1, cn_mkA.2.1, cn_mkA.2.2]
      rfl
    · rw [if_pos hs.2, if_neg (show ¬ (100 : Int) ≤ cntF g w by omega)]
      simp only [cn_mkB.1, cn_mkB.2.1, cn_mkB.2.2]
      rfl
  have e : cnX (k + 1) = cnB := by unfold cnX; rw [if_neg (by omega)]
  rw [e]
  apply hk
  unfold cnX
  split
  · exact .inl rfl
  · exact .inr rfl
end Go.Proofs.YtgnbiolckhdfeaaDoor

/- plain: TokenOnce: a round of issuing, and of spending. -/
namespace Go.Proofs.YtgnbiolckhdfeaaDoor
open Go.RowKit Go.KK Go.Shelf Go.Maps
set_option linter.unusedVariables false
set_option linter.unusedSimpArgs false

theorem mem_get {xs : List ND} {j : Nat} {x : ND} (h : xs[j]? = some x) : x ∈ xs := List.mem_of_getElem? h
/-- The law's arena behind i rounds. -/
structure OX (xs : List ND) (i : Nat) : Prop where
  ok : Okay xs
  ln : 12 ≤ xs.length ∧ xs.length ≤ 12 + 5 * i
  at' : ∀ n : Int, atN n ∈ xs → n < 12 ∨ (1000 ≤ n ∧ n < 1000 + i) ∨ (2000 ≤ n ∧ n < 2000 + i)
theorem ox_atoms : OX (atoms 12) 0 := by
  refine ⟨?_, by rw [atoms_len]; omega, fun n h => .inl (atN_mem.1 h).2⟩
  have hk : ∀ n : Nat, n ≤ 12 → Okay (atoms n) := by
    intro n
    induction n with
    | zero => intro _; exact okay_nil
    | succ n ih =>
      intro hn
      rw [← atoms_step (by omega)]
      exact okay_mak (ih (by omega)) (by show (n : Int) < _; omega)
  exact hk 12 (Nat.le_refl _)
theorem ox_part {xs : List ND} (h : Okay xs) {y : ND} (hy : y ∈ xs) {t : Int} (ht : t ∈ y.l) : t + 1 < xs.length := by
  rcases Int.lt_or_le (t + 1) xs.length with h1 | h1
  · exact h1
  · exact absurd hy (fresh_part h ht h1)
theorem okay_snoc {xs : List ND} {x : ND} (h : Okay xs) (hm : mayB xs x = true) (hx : x ∉ xs) (hl : xs.length < 100000) (hn : x.n < 9223372036854775808) : Okay (xs ++ [x]) := by
  have := okay_mak h hn
  rwa [(mak_new hm hx hl).1] at this
theorem atN_ne_ndN {n o : Int} {l : List Int} (h : l ≠ []) : atN n ≠ ndN o l := fun e => by
  unfold atN ndN at e
  injection e with _ _ _ e
  exact h e.symm
theorem ndN_inj {o o' : Int} {l l' : List Int} (h : ndN o l = ndN o' l') : o = o' ∧ l = l' := by
  unfold ndN at h
  injection h with a _ _ b
  exact ⟨a, b⟩
theorem has_iff {xs : List ND} {t : Int} : hasB xs t = true ↔ 0 ≤ t ∧ t < xs.length := by
  unfold hasB
  rw [Bool.and_eq_true, decide_eq_true_eq, decide_eq_true_eq]
theorem may2 {xs : List ND} {o a b : Int} (ho : o = 10 ∨ o = 12) (ha : 0 ≤ a ∧ a < xs.length) (hb : 0 ≤ b ∧ b < xs.length) : mayB xs (ndN o [a, b]) = true := by
  have h1 := has_iff.2 ha
  have h2 := has_iff.2 hb
  rcases ho with rfl | rfl
  · have e : mayB xs (ndN 10 [a, b]) = (true && (hasB xs a && (hasB xs b && true)) && true) := rfl
    rw [e, h1, h2]; rfl
  · have e : mayB xs (ndN 12 [a, b]) = (true && (hasB xs a && (hasB xs b && true)) && true) := rfl
    rw [e, h1, h2]; rfl
theorem at_snoc {xs : List ND} {x : ND} : (xs ++ [x])[xs.length]? = some x := by simp
theorem nodeF_at {xs : List ND} {k : Nat} {x : ND} (h : xs[k]? = some x) : nodeF xs (k : Int) = x := by
  have hl := (List.getElem?_eq_some_iff.1 h).1
  unfold nodeF
  rw [has_iff.2 ⟨by omega, by omega⟩, if_pos rfl, Int.toNat_natCast, List.getD_eq_getElem?_getD, h]
  rfl
/-- The round's nodes. -/
def oxA (xs : List ND) (i : Nat) : List ND := xs ++ [atN (1000 + (i : Int))]
def oxB (xs : List ND) (i : Nat) : List ND := oxA xs i ++ [atN (2000 + (i : Int))]
def oxC (xs : List ND) (i : Nat) : List ND := oxB xs i ++ [ndN 12 [(xs.length : Nat), ((xs.length + 1 : Nat) : Int)]]
def oxD (xs : List ND) (i : Nat) : List ND := oxC xs i ++ [ndN 10 [0, ((xs.length + 2 : Nat) : Int)]]
def oxE (xs : List ND) (i : Nat) : List ND := oxD xs i ++ [ndN 10 [0, (xs.length : Nat)]]
section
variable {xs : List ND} {i : Nat}
theorem lnA : (oxA xs i).length = xs.length + 1 := by simp [oxA]
theorem lnB : (oxB xs i).length = xs.length + 2 := by simp [oxB, lnA]
theorem lnC : (oxC xs i).length = xs.length + 3 := by simp [oxC, lnB]
theorem lnD : (oxD xs i).length = xs.length + 4 := by simp [oxD, lnC]
theorem lnE : (oxE xs i).length = xs.length + 5 := by simp [oxE, lnD]
theorem ox_mkA (h : OX xs i) (hi : i ≤ 25) : makT xs (atN (1000 + (i : Int))) = oxA xs i ∧ makI xs (atN (1000 + (i : Int))) = (xs.length : Nat) ∧ makE xs (atN (1000 + (i : Int))) = 0 ∧ Okay (oxA xs i) := by
  have hn : atN (1000 + (i : Int)) ∉ xs := fun hm => by have := h.at' _ hm; omega
  have hm := may_atom xs (x := 1000 + (i : Int)) (by omega)
  have hl := h.ln
  obtain ⟨a, b, c⟩ := mak_new hm hn (by omega)
  exact ⟨a, b, c, okay_snoc h.ok hm hn (by omega) (by show 1000 + (i : Int) < _; omega)⟩
theorem ox_ask (h : OX xs i) (hi : i ≤ 25) : askF (oxA xs i) (xs.length : Nat) (2000 + (i : Int)) = (oxC xs i, ((xs.length + 2 : Nat) : Int), 0) ∧ Okay (oxC xs i) := by
  obtain ⟨-, -, -, hA⟩ := ox_mkA h hi
  have hl := h.ln
  have lA : (oxA xs i).length = xs.length + 1 := lnA
  have lB : (oxB xs i).length = xs.length + 2 := lnB
  have hn : atN (2000 + (i : Int)) ∉ oxA xs i := fun hm => by
    unfold oxA at hm
    rcases List.mem_append.1 hm with hm | hm
    · have := h.at' _ hm; omega
    · rw [List.mem_singleton] at hm
      unfold atN at hm
      injection hm with _ hm
      omega
  have hm := may_atom (oxA xs i) (x := 2000 + (i : Int)) (by omega)
  obtain ⟨a, b, c⟩ := mak_new hm hn (by omega)
  have hB : Okay (oxB xs i) := okay_snoc hA hm hn (by omega) (by show 2000 + (i : Int) < _; omega)
  have hm2 := may2 (xs := oxB xs i) (o := 12) (a := (xs.length : Nat)) (b := ((xs.length + 1 : Nat) : Int)) (.inr rfl) (by omega) (by omega)
  have hn2 := fresh_part hB (x := ndN 12 [((xs.length : Nat) : Int), ((xs.length + 1 : Nat) : Int)]) (t := ((xs.length + 1 : Nat) : Int)) (by simp [ndN]) (by omega)
  obtain ⟨a2, b2, c2⟩ := mak_new hm2 hn2 (by omega)
  refine ⟨?_, okay_snoc hB hm2 hn2 (by omega) (by show (0 : Int) < _; decide)⟩
  have e1 : makT (oxA xs i) (atN (2000 + (i : Int))) = oxB xs i := a
  rw [lA] at b
  unfold askF
  rw [has_iff.2 (show (0 : Int) ≤ ((xs.length : Nat) : Int) ∧ ((xs.length : Nat) : Int) < ((oxA xs i).length : Nat) by omega), decide_eq_true (show (0 : Int) ≤ 2000 + (i : Int) by omega), e1, b, c]
  show mk (oxB xs i) _ = _
  unfold mk
  rw [a2, b2, c2, lB]
  rfl
theorem nodeC (h : OX xs i) : nodeF (oxC xs i) ((xs.length + 2 : Nat) : Int) = ndN 12 [(xs.length : Nat), ((xs.length + 1 : Nat) : Int)] :=
  nodeF_at (by have := @at_snoc (oxB xs i) (ndN 12 [(xs.length : Nat), ((xs.length + 1 : Nat) : Int)]); rw [lnB] at this; exact this)
theorem ox_full (h : OX xs i) (hi : i ≤ 25) {m : MT} {who : Int} (hw : 1 ≤ who ∧ who ≤ 4) (hq : m.q ≤ cntF m.g who) : issF (oxC xs i) m who ((xs.length + 2 : Nat) : Int) = (oxC xs i, 0, mt0, 82) := by
  have lC : (oxC xs i).length = xs.length + 3 := lnC
  have hl := h.ln
  unfold issF
  rw [nodeC h, has_iff.2 (show 0 ≤ who ∧ who < ((oxC xs i).length : Nat) by omega), has_iff.2 (show (0 : Int) ≤ ((xs.length + 2 : Nat) : Int) ∧ ((xs.length + 2 : Nat) : Int) < ((oxC xs i).length : Nat) by omega), if_pos (show (true && true && (ndN 12 [((xs.length : Nat) : Int), ((xs.length + 1 : Nat) : Int)]).o == 12) = true from rfl), if_pos hq]
theorem ox_iss (h : OX xs i) (hi : i ≤ 25) {m : MT} {who : Int} (hk : m.k = 0) (hw : 1 ≤ who ∧ who ≤ 4) (hq : ¬ m.q ≤ cntF m.g who) : issF (oxC xs i) m who ((xs.length + 2 : Nat) : Int) = (oxD xs i, ((xs.length + 3 : Nat) : Int), ⟨0, m.q, incF m.g who, m.p⟩, 0) ∧ Okay (oxD xs i) := by
  obtain ⟨-, hC⟩ := ox_ask h hi
  have lC : (oxC xs i).length = xs.length + 3 := lnC
  have hl := h.ln
  have hm2 := may2 (xs := oxC xs i) (o := 10) (a := 0) (b := ((xs.length + 2 : Nat) : Int)) (.inl rfl) (by omega) (by omega)
  have hn2 := fresh_part hC (x := ndN 10 [0, ((xs.length + 2 : Nat) : Int)]) (t := ((xs.length + 2 : Nat) : Int)) (by simp [ndN]) (by omega)
  obtain ⟨a2, b2, c2⟩ := mak_new hm2 hn2 (by omega)
  refine ⟨?_, okay_snoc hC hm2 hn2 (by omega) (by show (0 : Int) < _; decide)⟩
  unfold issF
  rw [nodeC h, has_iff.2 (show 0 ≤ who ∧ who < ((oxC xs i).length : Nat) by omega), has_iff.2 (show (0 : Int) ≤ ((xs.length + 2 : Nat) : Int) ∧ ((xs.length + 2 : Nat) : Int) < ((oxC xs i).length : Nat) by omega), if_pos (show (true && true && (ndN 12 [((xs.length : Nat) : Int), ((xs.length + 1 : Nat) : Int)]).o == 12) = true from rfl), if_neg hq, hk, c2, if_pos (show ((0 : Int) == 0) = true from rfl), a2, b2, lC]
  rfl
theorem old_notin {xs : List ND} (h : Okay xs) {y : ND} {t : Int} (ht : t ∈ y.l) (hl : (xs.length : Int) ≤ t + 1) : y ∉ xs := fresh_part h ht hl
theorem ox_fin (h : OX xs i) (hi : i ≤ 25) (hD : Okay (oxD xs i)) : finF (oxD xs i) ((xs.length + 3 : Nat) : Int) (2000 + (i : Int)) = (oxE xs i, ((xs.length + 4 : Nat) : Int), 0) ∧ Okay (oxE xs i) := by
  have lA : (oxA xs i).length = xs.length + 1 := lnA
  have lB : (oxB xs i).length = xs.length + 2 := lnB
  have lC : (oxC xs i).length = xs.length + 3 := lnC
  have lD : (oxD xs i).length = xs.length + 4 := lnD
  have hl := h.ln
  -- the draw is the node at xs.length + 1
  have g1 : (oxD xs i)[xs.length + 1]? = some (atN (2000 + (i : Int))) := by
    unfold oxD oxC
    rw [List.getElem?_append_left (by rw [List.length_append, lB]; simp), List.getElem?_append_left (by omega)]
    have := @at_snoc (oxA xs i) (atN (2000 + (i : Int)))
    rw [lA] at this
    exact this
  have g2 : (oxD xs i)[xs.length + 2]? = some (ndN 12 [(xs.length : Nat), ((xs.length + 1 : Nat) : Int)]) := by
    unfold oxD
    rw [List.getElem?_append_left (by omega)]
    have := @at_snoc (oxB xs i) (ndN 12 [(xs.length : Nat), ((xs.length + 1 : Nat) : Int)])
    rw [lB] at this
    exact this
  have g3 : (oxD xs i)[xs.length + 3]? = some (ndN 10 [0, ((xs.length + 2 : Nat) : Int)]) := by
    have := @at_snoc (oxC xs i) (ndN 10 [0, ((xs.length + 2 : Nat) : Int)])
    rw [lC] at this
    exact this
  have hmem : atN (2000 + (i : Int)) ∈ oxD xs i := mem_get g1
  have hidx : (oxD xs i).idxOf (atN (2000 + (i : Int))) = xs.length + 1 := by
    have e := idxOf_get hmem
    have l1 := (List.getElem?_eq_some_iff.1 e).1
    have l2 := (List.getElem?_eq_some_iff.1 g1).1
    exact (List.getElem?_inj l1 hD.nd).1 (e.trans g1.symm)
  obtain ⟨a, b, c⟩ := mak_old (may_atom (oxD xs i) (x := 2000 + (i : Int)) (by omega)) hmem
  rw [hidx] at b
  have hm2 := may2 (xs := oxD xs i) (o := 10) (a := 0) (b := (xs.length : Nat)) (.inl rfl) (by omega) (by omega)
  have hn2 : ndN 10 [0, ((xs.length : Nat) : Int)] ∉ oxD xs i := by
    unfold oxD oxC oxB oxA
    simp only [List.mem_append, List.mem_singleton, not_or]
    refine ⟨⟨⟨⟨?_, ?_⟩, ?_⟩, ?_⟩, ?_⟩
    · exact fresh_part h.ok (t := ((xs.length : Nat) : Int)) (by simp [ndN]) (by omega)
    · exact fun e => atN_ne_ndN (by simp) e.symm
    · exact fun e => atN_ne_ndN (by simp) e.symm
    · intro e
      exact absurd (ndN_inj e).1 (by decide)
    · intro e
      have := (ndN_inj e).2
      injection this with _ this
      injection this with this _
      omega
  obtain ⟨a2, b2, c2⟩ := mak_new hm2 hn2 (by omega)
  refine ⟨?_, okay_snoc hD hm2 hn2 (by omega) (by show (0 : Int) < _; decide)⟩
  unfold finF
  rw [c, if_pos (show ((0 : Int) == 0) = true from rfl), a, b]
  unfold unblF
  have k1 : kno (oxD xs i) [((xs.length + 3 : Nat) : Int), ((xs.length + 1 : Nat) : Int)] = true := by
    unfold kno
    rw [List.all_cons, List.all_cons, has_iff.2 (by omega), has_iff.2 (by omega)]; rfl
  rw [k1, if_pos rfl, nodeF_at g3]
  have e1 : (ndN 10 [0, ((xs.length + 2 : Nat) : Int)]).l.getD 1 0 = ((xs.length + 2 : Nat) : Int) := rfl
  rw [e1, nodeF_at g2]
  have e2 : ((ndN 12 [((xs.length : Nat) : Int), ((xs.length + 1 : Nat) : Int)]).o == 12 && (ndN 12 [((xs.length : Nat) : Int), ((xs.length + 1 : Nat) : Int)]).l.getD 1 0 == ((xs.length + 1 : Nat) : Int)) = true := by
    show ((12 : Int) == 12 && (((xs.length + 1 : Nat) : Int) == ((xs.length + 1 : Nat) : Int))) = true
    simp
  have e3 : ((ndN 10 [0, ((xs.length + 2 : Nat) : Int)]).o == 10) = true := rfl
  rw [e3, if_pos rfl, e2, if_pos rfl]
  show mk (oxD xs i) (ndN 10 [0, ((xs.length : Nat) : Int)]) = _
  unfold mk
  rw [a2, b2, c2, lD]
  rfl
theorem ox_next (h : OX xs i) (hE : Okay (oxE xs i)) : OX (oxE xs i) (i + 1) := by
  have lE : (oxE xs i).length = xs.length + 5 := lnE
  have hl := h.ln
  refine ⟨hE, by omega, fun n hn => ?_⟩
  unfold oxE oxD oxC oxB oxA at hn
  simp only [List.mem_append, List.mem_singleton] at hn
  rcases hn with ((((hn | hn) | hn) | hn) | hn) | hn
  · have := h.at' n hn; omega
  · unfold atN at hn; injection hn with _ hn; omega
  · unfold atN at hn; injection hn with _ hn; omega
  · exact absurd hn (atN_ne_ndN (by simp))
  · exact absurd hn (atN_ne_ndN (by simp))
  · exact absurd hn (atN_ne_ndN (by simp))
theorem ox_skip (h : OX xs i) (hC : Okay (oxC xs i)) : OX (oxC xs i) (i + 1) := by
  have lC : (oxC xs i).length = xs.length + 3 := lnC
  have hl := h.ln
  refine ⟨hC, by omega, fun n hn => ?_⟩
  unfold oxC oxB oxA at hn
  simp only [List.mem_append, List.mem_singleton] at hn
  rcases hn with ((hn | hn) | hn) | hn
  · have := h.at' n hn; omega
  · unfold atN at hn; injection hn with _ hn; omega
  · unfold atN at hn; injection hn with _ hn; omega
  · exact absurd hn (atN_ne_ndN (by simp))
theorem atE : (oxE xs i)[xs.length + 4]? = some (ndN 10 [0, (xs.length : Nat)]) := by
  have := @at_snoc (oxD xs i) (ndN 10 [0, (xs.length : Nat)])
  rw [lnD] at this
  exact this
end
/-- The tokens that there are. -/
structure TK (xs : List ND) (ns ts : List Int) : Prop where
  ln : ts.length = ns.length
  r : ns.Pairwise (· < ·)
  n : ∀ a ∈ ns, 0 ≤ a ∧ a < xs.length
  t : ∀ (j : Nat) a b, ns[j]? = some a → ts[j]? = some b → hasB xs b = true ∧ nodeF xs b = ndN 10 [0, a]
theorem tk_nil (xs : List ND) : TK xs [] [] where
  ln := rfl
  r := .nil
  n := fun a h => by cases h
  t := fun j a b h _ => by rw [List.getElem?_nil] at h; cases h
theorem nodeF_app {xs : List ND} (l : List ND) {t : Int} (h : hasB xs t = true) : nodeF (xs ++ l) t = nodeF xs t := by
  have h' := has_iff.1 h
  unfold nodeF
  rw [h, has_iff.2 (show 0 ≤ t ∧ t < ((xs ++ l).length : Nat) by rw [List.length_append]; omega), if_pos rfl, if_pos rfl, List.getD_eq_getElem?_getD, List.getD_eq_getElem?_getD, List.getElem?_append_left (by omega)]
theorem has_app {xs : List ND} (l : List ND) {t : Int} (h : hasB xs t = true) : hasB (xs ++ l) t = true := by
  have h' := has_iff.1 h
  exact has_iff.2 (by rw [List.length_append]; omega)
theorem TK.app {xs : List ND} {ns ts : List Int} (h : TK xs ns ts) (l : List ND) : TK (xs ++ l) ns ts :=
  ⟨h.ln, h.r, fun a ha => by have := h.n a ha; rw [List.length_append]; omega, fun j a b h1 h2 => by
    obtain ⟨e1, e2⟩ := h.t j a b h1 h2
    exact ⟨has_app l e1, by rw [nodeF_app l e1, e2]⟩⟩
theorem TK.snoc {xs : List ND} {ns ts : List Int} (h : TK xs ns ts) (i : Nat) : TK (oxE xs i) (ns ++ [((xs.length : Nat) : Int)]) (ts ++ [((xs.length + 4 : Nat) : Int)]) := by
  have lE : (oxE xs i).length = xs.length + 5 := lnE
  have hE : ∃ l, oxE xs i = xs ++ l := ⟨[atN (1000 + (i : Int))] ++ ([atN (2000 + (i : Int))] ++ ([ndN 12 [(xs.length : Nat), ((xs.length + 1 : Nat) : Int)]] ++ ([ndN 10 [0, ((xs.length + 2 : Nat) : Int)]] ++ [ndN 10 [0, (xs.length : Nat)]]))), by unfold oxE oxD oxC oxB oxA; simp only [List.append_assoc]⟩
  obtain ⟨l, hl⟩ := hE
  refine ⟨by simp [h.ln], ?_, fun a ha => ?_, fun j a b h1 h2 => ?_⟩
  · rw [List.pairwise_append]
    exact ⟨h.r, by simp, fun a ha b hb => by rw [List.mem_singleton] at hb; subst hb; exact (h.n a ha).2⟩
  · rcases List.mem_append.1 ha with ha | ha
    · have := h.n a ha; omega
    · rw [List.mem_singleton] at ha; subst ha; omega
  · rcases Nat.lt_or_ge j ns.length with hj | hj
    · rw [List.getElem?_append_left hj] at h1
      rw [List.getElem?_append_left (by rw [h.ln]; exact hj)] at h2
      rw [hl]
      exact (h.app l).t j a b h1 h2
    · rw [List.getElem?_append_right hj] at h1
      rw [List.getElem?_append_right (by rw [h.ln]; exact hj), h.ln] at h2
      rcases hk : j - ns.length with _ | k
      · rw [hk] at h1 h2
        injection h1 with h1; injection h2 with h2
        subst h1; subst h2
        exact ⟨has_iff.2 (by omega), nodeF_at atE⟩
      · rw [hk] at h1; simp at h1
theorem lbI_all {p : List Int} {x : Int} (h : ∀ a ∈ p, a < x) : lbI p x = p.length := by
  unfold lbI
  rw [List.countP_eq_length]
  intro a ha
  have := h a ha
  simpa using this
/-- The j-th token is spent. -/
theorem tk_spend {xs : List ND} {ns ts : List Int} (h : TK xs ns ts) {j : Nat} {a b : Int} (ha : ns[j]? = some a) (hb : ts[j]? = some b) (q : Int) (g : List (Int × Int)) : spF xs ⟨0, q, g, ns.take j⟩ a b = (⟨0, q, g, ns.take (j + 1)⟩, 0) := by
  obtain ⟨h1, h2⟩ := h.t j a b ha hb
  obtain ⟨hj, rfl⟩ := List.getElem?_eq_some_iff.1 ha
  have hlt : ∀ x ∈ ns.take j, x < ns[j] := fun x hx => by
    obtain ⟨k, hk, rfl⟩ := List.mem_iff_getElem.1 hx
    rw [List.length_take] at hk
    rw [List.getElem_take]
    exact List.pairwise_iff_getElem.1 h.r k j (by omega) hj (by omega)
  have hn := h.n ns[j] (List.getElem_mem hj)
  unfold spF
  have k1 : kno xs [ns[j], b] = true := by
    unfold kno
    rw [List.all_cons, List.all_cons, has_iff.2 hn, h1]; rfl
  have k2 : (ns.take j).contains ns[j] = false := by
    rw [Bool.eq_false_iff]
    intro hc
    have := hlt _ (List.contains_iff_mem.1 hc)
    omega
  have k3 : ((ndN 10 [0, ns[j]]).o == 10 && (ndN 10 [0, ns[j]]).l.getD 0 0 == (0 : Int) && (ndN 10 [0, ns[j]]).l.getD 1 0 == ns[j]) = true := by
    show ((10 : Int) == 10 && (0 : Int) == 0 && ns[j] == ns[j]) = true
    simp
  rw [k1, if_pos rfl, h2]
  simp only [k3, k2]
  rw [lbI_all hlt, List.take_length, List.drop_length, List.take_add_one, ha]
  rfl
theorem tk_spent {xs : List ND} {ns ts : List Int} (h : TK xs ns ts) {j k : Nat} {a b : Int} (ha : ns[j]? = some a) (hb : ts[j]? = some b) (hk : j < k) (q : Int) (g : List (Int × Int)) : spF xs ⟨0, q, g, ns.take k⟩ a b = (mt0, 81) := by
  obtain ⟨h1, h2⟩ := h.t j a b ha hb
  obtain ⟨hj, rfl⟩ := List.getElem?_eq_some_iff.1 ha
  have hn := h.n ns[j] (List.getElem_mem hj)
  unfold spF
  have k1 : kno xs [ns[j], b] = true := by
    unfold kno
    rw [List.all_cons, List.all_cons, has_iff.2 hn, h1]; rfl
  have k2 : (ns.take k).contains ns[j] = true := by
    rw [List.contains_iff_mem]
    exact List.mem_iff_getElem.2 ⟨j, by rw [List.length_take]; omega, by rw [List.getElem_take]⟩
  have k3 : ((ndN 10 [0, ns[j]]).o == 10 && (ndN 10 [0, ns[j]]).l.getD 0 0 == (0 : Int) && (ndN 10 [0, ns[j]]).l.getD 1 0 == ns[j]) = true := by
    show ((10 : Int) == 10 && (0 : Int) == 0 && ns[j] == ns[j]) = true
    simp
  rw [k1, if_pos rfl, h2]
  simp only [k3, k2]
  rfl
end Go.Proofs.YtgnbiolckhdfeaaDoor

/- token's laws: what is carried (without TokenCounts). -/
namespace Go.Proofs.YtgnbiolckhdfeaaDoor
open Go.RowKit Go.KK Go.Shelf Go.Maps
set_option linter.unusedVariables false
set_option linter.unusedSimpArgs false

theorem lawI : Keyed Tryd.prog 3 := int_keyed Tryd.underlying3
/-- A fact of the arena stays, where nothing of its own has turned. -/
theorem LA.turn {w0 W W' : World} {Z F : Nat → Prop} {sa : Nat} {xs : List ND} (h : LA w0 W Z sa xs) (ht : Turn F W W') (hd : ∀ b, Z b → ¬ F b) (hf : ∀ b, F b → w0.heap.size ≤ b) : LA w0 W' Z sa xs :=
  ⟨h.ar.turn ht hd, h.z, h.bl.trans (ht.below hf h.bl.size)⟩
theorem SlZ.far {W W' : World} {Z F : Nat → Prop} {size : Nat} {A : Option Addr} {n c : Nat} {cs : List Value} (h : SlZ W Z size A n c cs) (ht : Turn F W W') (hn : ∀ b o, A = some ⟨b, o, none⟩ → ¬ F b) : SlZ W' Z size A n c cs := by
  refine ⟨⟨h.1.nc, h.1.cm, h.1.len, fun j u hj => ?_⟩, h.2⟩
  obtain ⟨b, off, rfl, hc⟩ := h.1.cells j u hj
  refine ⟨b, off, rfl, ?_⟩
  rw [World.cell?_of_block (a := ⟨b, off + j, none⟩) (ht.block b (block_lt_of_cell hc) (hn b off rfl))]
  exact hc
theorem MB.turn {W W' : World} {Z F : Nat → Prop} {b0 bm : Nat} {m : MT} {g p : Value} (h : MB W Z b0 bm m g p) (ht : Turn F W W') (h1 : ¬ F bm) (h2 : ∀ b, g.ownBlock = some b ∨ p.ownBlock = some b → ¬ F b) : MB W' Z b0 bm m g p := by
  refine ⟨own_block h.row fun b hb => ht.block b (h.row.lt b hb).2 (by injection hb with hb; simp only at hb; rw [← hb]; exact h1), ?_, h.nz⟩
  obtain ⟨Ag, cg, Ap, cp, rfl, rfl, s1, s2⟩ := h.mt
  exact ⟨Ag, cg, Ap, cp, rfl, rfl, s1.far ht fun b o e => h2 b (.inl (by subst e; rfl)), s2.far ht fun b o e => h2 b (.inr (by subst e; rfl))⟩
theorem map_lt {P : Program} {K : TypeId} {R : Value → Option (MD × List MemPlace)} {w : World} {mb n : Nat} {D : MD} (h : w.ownsMap P K R mb n D) : mb < w.heap.size := by
  obtain ⟨es, clock, h1, h2⟩ := h
  exact (Array.getElem?_eq_some_iff.1 h1).1
theorem MB.lt {W : World} {Z : Nat → Prop} {b0 bm : Nat} {m : MT} {g p : Value} (h : MB W Z b0 bm m g p) : b0 ≤ bm ∧ bm < W.heap.size := h.row.lt bm rfl
/-- The arena, a mint in its variable, a map of numbers. -/
structure C3 (w wr : World) (sa bm mb : Nat) (X : List ND) (Z : Nat → Prop) (m : MT) (gv pv : Value) (k : Nat) (D : MD) : Prop where
  la : LA w wr Z sa X
  m : MB wr Z w.heap.size bm m gv pv
  o : wr.ownsMap Tryd.prog 3 (plainElem Tryd.prog 3) mb k D
  nz : ¬ Z mb
  ne : mb ≠ bm
  nb : ∀ b, gv.ownBlock = some b ∨ pv.ownBlock = some b → b ≠ mb
  mb0 : w.heap.size ≤ mb
section
variable {w wr W : World} {sa bm mb k : Nat} {X X' : List ND} {Z Z' : Nat → Prop} {m m' : MT} {gv pv gv' pv' : Value} {D D' : MD}
theorem C3.ext (h : C3 w wr sa bm mb X Z m gv pv k D) (hb : Below wr.heap.size wr W) : C3 w W sa bm mb X Z m gv pv k D :=
  ⟨h.la.ext hb, h.m.ext hb, map_block h.o (hb.block mb (map_lt h.o)), h.nz, h.ne, h.nb, h.mb0⟩
theorem C3.mv (h : C3 w wr sa bm mb X Z m gv pv k D) (hl : LA w W Z' sa X') (hv : Mv Z wr Z' W) : C3 w W sa bm mb X' Z' m gv pv k D :=
  ⟨hl, h.m.mv hv, map_block h.o (hv.t.block mb (map_lt h.o) h.nz), fun hz => (hv.n mb hz).elim h.nz fun h' => by have := map_lt h.o; omega, h.ne, h.nb, h.mb0⟩
/-- The new mint is laid into the variable. -/
theorem C3.put (h : C3 w wr sa bm mb X Z m gv pv k D) (hm : MtR wr Z m' gv' pv') (hn : ∀ b, gv'.ownBlock = some b ∨ pv'.ownBlock = some b → b ≠ bm ∧ b ≠ mb) : C3 w (put4 wr bm m' gv' pv') sa bm mb X Z m' gv' pv' k D :=
  ⟨h.la.put h.m.nz h.m.lt.1, h.m.put hm fun b hb => (hn b hb).1, map_put h.o h.ne, h.nz, h.ne, fun b hb => (hn b hb).2, h.mb0⟩
/-- The map has turned. -/
theorem C3.upd (h : C3 w wr sa bm mb X Z m gv pv k D) (ho : W.ownsMap Tryd.prog 3 (plainElem Tryd.prog 3) mb (k + 1) D') (hg : wr.grownBy W (some mb)) : C3 w W sa bm mb X Z m gv pv (k + 1) D' := by
  have ht : Turn (fun b => b = mb) wr W := Turn.grown hg fun b hb => .inl (by injection hb with hb; exact hb.symm)
  exact ⟨h.la.turn ht (fun b hz e => h.nz (e ▸ hz)) (fun b e => e ▸ h.mb0), h.m.turn ht (fun e => h.ne e.symm) h.nb, ho, h.nz, h.ne, h.nb, h.mb0⟩
end
/-- A new mint, its lists nil. -/
theorem l_newN {w0 W : World} {Z : Nat → Prop} {sa : Nat} {xs : List ND} (h : LA w0 W Z sa xs) {sk quota : Int} (hr : newF xs sk quota = (⟨sk, quota, [], []⟩, 0)) :
    Calls Tryd.prog 7 #[.pointer (some ⟨sa, 0, none⟩), .int .i64 sk, .int .i64 quota] W fun e w' => e = .returned (.tuple #[.agg #[.int .i64 sk, .int .i64 quota, .slice none 0 0, .slice none 0 0], .int .i64 0]) ∧ LA w0 w' Z sa xs ∧ Mv Z W Z w' := by
  refine (tnew_any sa xs W sk quota h.ar.vw).mono ?_
  rintro e w' ⟨rfl, hb⟩
  rw [hr]
  exact ⟨rfl, h.ext hb, .below hb⟩
theorem MtR.gA {w : World} {Z : Nat → Prop} {m : MT} {A : Option Addr} {n c : Nat} {p : Value} (h : MtR w Z m (.slice A n c) p) : SlA w 2 A m.g.length c (cts m.g) := by
  obtain ⟨Ag, cg, Ap, cp, e, rfl, s1, s2⟩ := h
  injection e with e1 e2 e3
  subst e1; subst e2; subst e3
  exact s1.1
theorem litI_inj {a b : Int} (h : (DataW.lit (.int .i64 a) : MD) = .lit (.int .i64 b)) : a = b := by
  injection h with h
  injection h
theorem wf64 {y : Int} (h1 : -9223372036854775808 ≤ y) (h2 : y ≤ 9223372036854775807) : (Lit.int .i64 y).wf = true := by
  have := wrap64_wf y
  rwa [wrap_id h1 h2] at this
theorem look_eq {w W : World} {mb k : Nat} {D : MD} {x y : Int} (h : w.ownsMap Tryd.prog 3 (plainElem Tryd.prog 3) mb k D) (ha : D.atKey (.int .i64 x) (.lit (.int .i64 0)) = .lit (.int .i64 y)) (hk : keyOf Tryd.prog 3 (.int .i64 x) = some (.int .i64 x)) (hb : W.heap[mb]? = w.heap[mb]?) :
    (Instr.lookup 119 (.map (some mb)) (.int .i64 x) false).run Tryd.prog W = .ok (.int .i64 y) W := by
  obtain ⟨c, hrun, hat, _⟩ := (map_block (w' := W) h hb).lookup_int lawI Tryd.underlying119 Tryd.underlying3 (zeroI W) hk
  have := litI_inj (ha.symm.trans hat)
  subst this
  exact hrun
end Go.Proofs.YtgnbiolckhdfeaaDoor

/- what the arena's Make leaves (over crypto's text of it). -/

/- plain: nodes made one behind the other: a node that is made again is the same term (TermOnce). -/
namespace Go.KK
open Go.RowKit
set_option linter.unusedVariables false
set_option linter.unusedSimpArgs false

theorem has_iff {xs : List ND} {t : Int} : hasB xs t = true ↔ 0 ≤ t ∧ t < (xs.length : Nat) := by
  unfold hasB
  simp only [Bool.and_eq_true, decide_eq_true_eq]
theorem may_app {xs : List ND} (l : List ND) {x : ND} (h : mayB xs x = true) : mayB (xs ++ l) x = true := by
  unfold mayB at h ⊢
  simp only [Bool.and_eq_true, List.all_eq_true, Bool.or_eq_true] at h ⊢
  refine ⟨⟨h.1.1, fun t ht => ?_⟩, h.2.imp id fun h2 => ?_⟩
  · have := h.1.2 t ht
    unfold hasB at this ⊢
    simp only [Bool.and_eq_true, decide_eq_true_eq, List.length_append] at this ⊢
    omega
  · have h3 : opAt xs (x.l.getD 1 0) = 2 := eq_of_beq h2
    have h4 : opAt (xs ++ l) (x.l.getD 1 0) = 2 := by
      unfold opAt at h3 ⊢
      rcases hh : xs[(x.l.getD 1 0).toNat]? with _ | y
      · rw [hh] at h3; exact absurd h3 (by decide)
      · rw [List.getElem?_append_left (List.getElem?_eq_some_iff.1 hh).1, hh]
        rw [hh] at h3; exact h3
    exact beq_iff_eq.2 h4
/-- The arena behind nodes that were made, one behind the other. -/
def mksT (xs l : List ND) : List ND := l.foldl makT xs
/-- What is told of one: -1 where it may not be. -/
def toldI (xs : List ND) (x : ND) : Int := if makE xs x = 0 then makI xs x else -1
def mksR : List ND → List ND → List Int
  | _, [] => []
  | xs, x :: l => toldI xs x :: mksR (makT xs x) l
theorem take_one {α : Type} {l : List α} {j : Nat} {x : α} (h : l[j]? = some x) : l.take (j + 1) = l.take j ++ [x] := by rw [List.take_add_one, h]; rfl
theorem mksT_take {xs l : List ND} {j : Nat} {x : ND} (h : l[j]? = some x) : mksT xs (l.take (j + 1)) = makT (mksT xs (l.take j)) x := by
  rw [take_one h]; unfold mksT; rw [List.foldl_append]; rfl
theorem mksR_snoc (x : ND) : ∀ (l xs : List ND), mksR xs (l ++ [x]) = mksR xs l ++ [toldI (mksT xs l) x]
  | [], xs => rfl
  | y :: l, xs => by
    show toldI xs y :: mksR (makT xs y) (l ++ [x]) = toldI xs y :: mksR (makT xs y) l ++ [toldI (mksT (makT xs y) l) x]
    rw [mksR_snoc x l]; rfl
theorem mksR_take {xs l : List ND} {j : Nat} {x : ND} (h : l[j]? = some x) : mksR xs (l.take (j + 1)) = mksR xs (l.take j) ++ [toldI (mksT xs (l.take j)) x] := by
  rw [take_one h, mksR_snoc]
theorem mksR_len : ∀ (l xs : List ND), (mksR xs l).length = l.length
  | [], _ => rfl
  | _ :: l, xs => by show (mksR _ l).length + 1 = l.length + 1; rw [mksR_len l]
theorem mksR_at : ∀ (l xs : List ND) (j : Nat) (x : ND), l[j]? = some x → (mksR xs l)[j]? = some (toldI (mksT xs (l.take j)) x)
  | [], _, _, _, h => by simp at h
  | y :: l, xs, 0, x, h => by injection h with h; subst h; rfl
  | y :: l, xs, j + 1, x, h => mksR_at l (makT xs y) j x h
theorem mak_pre (xs : List ND) (x : ND) : ∃ m, makT xs x = xs ++ m := by
  unfold makT
  split
  · split
    · exact ⟨[], by simp⟩
    · split
      · exact ⟨[], by simp⟩
      · exact ⟨[x], rfl⟩
  · exact ⟨[], by simp⟩
theorem mks_pre : ∀ (l xs : List ND), ∃ m, mksT xs l = xs ++ m
  | [], xs => ⟨[], by simp [mksT]⟩
  | x :: l, xs => by
    obtain ⟨m, hm⟩ := mak_pre xs x
    obtain ⟨m', hm'⟩ := mks_pre l (makT xs x)
    exact ⟨m ++ m', by show mksT (makT xs x) l = _; rw [hm', hm, List.append_assoc]⟩
theorem mks_pre_take (xs l : List ND) (j : Nat) : ∃ m, mksT xs l = mksT xs (l.take j) ++ m := by
  obtain ⟨m, hm⟩ := mks_pre (l.drop j) (mksT xs (l.take j))
  refine ⟨m, ?_⟩
  rw [← hm]
  unfold mksT
  rw [← List.foldl_append, List.take_append_drop]
theorem mks_len (xs l : List ND) : (mksT xs l).length ≤ xs.length + l.length := by
  induction l generalizing xs with
  | nil => simp [mksT]
  | cons x l ih =>
    have h1 := ih (makT xs x)
    have h2 : (makT xs x).length ≤ xs.length + 1 := by
      unfold makT
      split
      · split
        · omega
        · split <;> simp
      · omega
    show (mksT (makT xs x) l).length ≤ _
    rw [List.length_cons]; omega
theorem mks_ok {xs l : List ND} (h : Okay xs) (hl : ∀ x ∈ l, x.n < 9223372036854775808) : Okay (mksT xs l) := by
  induction l generalizing xs with
  | nil => exact h
  | cons x l ih => exact ih (okay_mak h (hl x (by simp))) fun y hy => hl y (by simp [hy])
theorem told_some {xs : List ND} {x : ND} (h : 0 ≤ toldI xs x) : makE xs x = 0 ∧ makI xs x = toldI xs x ∧ mayB xs x = true ∧ (makT xs x)[(toldI xs x).toNat]? = some x := by
  unfold toldI at h ⊢
  split at h
  · rename_i he
    rw [if_pos he]
    refine ⟨he, rfl, ?_⟩
    by_cases hm : mayB xs x = true
    · refine ⟨hm, ?_⟩
      by_cases hx : x ∈ xs
      · obtain ⟨a, b, c⟩ := mak_old hm hx
        rw [a, b, Int.toNat_natCast]
        exact idxOf_get hx
      · by_cases hl : xs.length < 100000
        · obtain ⟨a, b, c⟩ := mak_new hm hx hl
          rw [a, b, Int.toNat_natCast]; simp
        · unfold makE at he
          rw [if_pos hm, if_neg hx, if_pos (by omega)] at he
          exact absurd he (by decide)
    · unfold makE at he
      rw [if_neg hm] at he
      exact absurd he (by decide)
  · omega
theorem told_cases (xs : List ND) (x : ND) : (makE xs x = 0 ∧ toldI xs x = makI xs x ∧ 0 ≤ toldI xs x) ∨ (makE xs x ≠ 0 ∧ toldI xs x = -1) := by
  unfold toldI
  by_cases he : makE xs x = 0
  · left
    rw [if_pos he]
    refine ⟨he, rfl, ?_⟩
    unfold makI
    split
    · split
      · omega
      · split <;> omega
    · omega
  · right; rw [if_neg he]; exact ⟨he, rfl⟩
theorem get_pre {α : Type} {xs m : List α} {j : Nat} {x : α} (h : xs[j]? = some x) : (xs ++ m)[j]? = some x := by
  rw [List.getElem?_append_left (List.getElem?_eq_some_iff.1 h).1, h]
theorem get_inj {α : Type} {xs : List α} {j k : Nat} {x : α} (hn : xs.Nodup) (h : xs[j]? = some x) (h' : xs[k]? = some x) : j = k :=
  (List.getElem?_inj (List.getElem?_eq_some_iff.1 h).1 hn).1 (h.trans h'.symm)
/-- Made again, a node is what it was. -/
theorem once_at {l : List ND} {i : Nat} {n : ND} (hl : ∀ x ∈ l, x.n < 9223372036854775808) (hi : l[i]? = some n) (h0 : 0 ≤ toldI (mksT [] (l.take i)) n) :
    makE (mksT (mksT [] l) (l.take i)) n = 0 ∧ makI (mksT (mksT [] l) (l.take i)) n = toldI (mksT [] (l.take i)) n ∧
    (∀ k x, k < i → l[k]? = some x → 0 ≤ toldI (mksT [] (l.take k)) x → (toldI (mksT [] (l.take k)) x == toldI (mksT [] (l.take i)) n) = decide (x = n)) ∧
    ∀ x ∈ n.l, x < toldI (mksT [] (l.take i)) n := by
  have hok : Okay (mksT (mksT [] l) (l.take i)) := mks_ok (mks_ok okay_nil hl) fun x hx => hl x (List.mem_of_mem_take hx)
  have at' : ∀ k x, l[k]? = some x → 0 ≤ toldI (mksT [] (l.take k)) x → mayB (mksT (mksT [] l) (l.take i)) x = true ∧ (mksT (mksT [] l) (l.take i))[(toldI (mksT [] (l.take k)) x).toNat]? = some x := by
    intro k x hk h
    obtain ⟨_, _, c, d⟩ := told_some h
    obtain ⟨m1, e1⟩ := mks_pre_take [] l (k + 1)
    obtain ⟨m2, e2⟩ := mks_pre (l.take i) (mksT [] l)
    rw [mksT_take hk] at e1
    obtain ⟨m0, e0⟩ := mak_pre (mksT [] (l.take k)) x
    refine ⟨?_, ?_⟩
    · rw [e2, e1, e0]; exact may_app _ (may_app _ (may_app _ c))
    · rw [e2, e1]; exact get_pre (get_pre d)
  obtain ⟨hm, hg⟩ := at' i n hi h0
  have hmem := List.mem_of_getElem? hg
  obtain ⟨a, b, c⟩ := mak_old hm hmem
  have hidx := get_inj hok.nd (idxOf_get hmem) hg
  refine ⟨c, by rw [b, hidx]; omega, fun k x hk hx hx0 => ?_, fun x hx => ?_⟩
  · obtain ⟨_, hgx⟩ := at' k x hx hx0
    by_cases he : x = n
    · subst he
      have := get_inj hok.nd hgx hg
      rw [decide_eq_true rfl, beq_iff_eq]
      omega
    · rw [decide_eq_false he, beq_eq_false_iff_ne]
      intro h
      rw [h] at hgx
      rw [hgx] at hg
      injection hg with hg
      exact he hg
  · have hmay := hok.may _ _ hg
    unfold mayB at hmay
    simp only [Bool.and_eq_true, List.all_eq_true] at hmay
    have := hmay.1.2 x hx
    unfold hasB at this
    simp only [Bool.and_eq_true, decide_eq_true_eq, List.length_take] at this
    omega
end Go.KK

/- term: what is carried from call to call: an arena, a row of numbers. -/
namespace Go.Proofs.YtgnbiolckhdfeaaDoor
open Go.RowKit Go.KK Go.Shelf Go.Maps
set_option linter.unusedVariables false
set_option linter.unusedSimpArgs false

section
variable {w0 W W' : World} {Z Z' : Nat → Prop} {sa : Nat} {xs xs' : List ND}
theorem l_mke (h : LA w0 W Z sa xs) (hT : Tb w0.heap.size w0) {x : ND} {A : Option Addr} {c : Nat} (hl : SlA W 1 A x.l.length c (x.l.map (.int .i64))) (hx : NdI x) :
    Calls Tryd.prog 25 #[.pointer (some ⟨sa, 0, none⟩), .agg #[.int .i64 x.o, .int .i64 x.n, .string x.s, .slice A x.l.length c]] W fun e w' => ∃ Z', e = .returned (.tuple #[.int .i64 (makI xs x), .int .i64 (makE xs x)]) ∧ LA w0 w' Z' sa (makT xs x) ∧ Mv Z W Z' w' := by
  refine (mke_any Z sa xs w0.heap.size W x A c h.ar hl (hT.on h.bl) h.bl.size hx).mono ?_
  rintro e w' ⟨rfl, Z', h1, h2, h3⟩
  exact ⟨Z', rfl, h.mv ⟨h2, h3⟩ h1, ⟨h2, h3⟩⟩
end
/-- A row of numbers of the call's own. -/
abbrev RowI (W : World) (b0 : Nat) (v : Value) (l : List Int) : Prop := W.ownsRow b0 3 1 v l.length (l.map (.int .i64))
/-- The arena and a row. -/
structure T1 (w W : World) (sa : Nat) (Z : Nat → Prop) (X : List ND) (nv : Value) (ns : List Int) : Prop where
  la : LA w W Z sa X
  nr : RowI W w.heap.size nv ns
  na : ∀ b, nv.ownBlock = some b → ¬ Z b
section
variable {w W W' : World} {sa : Nat} {Z Z' : Nat → Prop} {X X' : List ND} {nv : Value} {ns : List Int}
theorem T1.ext (h : T1 w W sa Z X nv ns) (hb : Below W.heap.size W W') : T1 w W' sa Z X nv ns := ⟨h.la.ext hb, own_ext h.nr hb, h.na⟩
theorem T1.mv (h : T1 w W sa Z X nv ns) (hl : LA w W' Z' sa X') (hv : Mv Z W Z' W') : T1 w W' sa Z' X' nv ns where
  la := hl
  nr := own_block h.nr fun b hb => hv.t.block b (h.nr.lt b hb).2 (h.na b hb)
  na := fun b hb hz => (hv.n b hz).elim (h.na b hb) fun h' => by have := (h.nr.lt b hb).2; omega
theorem T1.app (h : T1 w W sa Z X nv ns) {nv' : Value} {ns' : List Int} (hn : RowI W' w.heap.size nv' ns') (hg : W.grownBy W' nv.ownBlock) (hl : nv'.ownBlock = nv.ownBlock ∨ nv'.ownBlock = some W.heap.size) : T1 w W' sa Z X nv' ns' := by
  have ht : Turn (fun b => nv.ownBlock = some b) W W' := Turn.grown hg fun b hb => .inl hb
  refine ⟨⟨h.la.ar.turn ht (fun b hz e => h.na b e hz), h.la.z, h.la.bl.trans (ht.below (fun b e => (h.nr.lt b e).1) h.la.sz)⟩, hn, fun b hb => ?_⟩
  rcases hl with hl | hl
  · exact h.na b (hl ▸ hb)
  · rw [hl] at hb
    injection hb with hb
    subst hb
    intro hz
    have := h.la.ar.zlt _ hz
    omega
theorem t1_nil (h : LA w W Z sa X) : T1 w W sa Z X (.slice none 0 0) [] := ⟨h, World.ownsRow_nil _ _ _ _, fun b hb => by cases hb⟩
end
/-- A number more at a row's end. -/
theorem rowI_snoc {W : World} {b0 : Nat} {v : Value} {l : List Int} {x : Int} (h : W.ownsRow b0 3 1 v (l.length + 1) (l.map (.int .i64) ++ [.int .i64 x])) : RowI W b0 v (l ++ [x]) := by
  unfold RowI
  rw [List.length_append, List.map_append]
  exact h
theorem rowI_at {W : World} {b0 b o n c : Nat} {l : List Int} {i : Nat} {x : Int} (h : W.ownsRow b0 3 1 (.slice (some ⟨b, o, none⟩) n c) l.length (l.map (.int .i64))) (hx : l[i]? = some x) : W.cell? ⟨b, o + i, none⟩ = some (.int .i64 x) := by
  obtain ⟨b', off, e, hc⟩ := (SlA.of_own h).2.cells i (.int .i64 x) (by rw [List.getElem?_map, hx]; rfl)
  injection e with e
  injection e with e1 e2
  subst e1; subst e2
  exact hc
end Go.Proofs.YtgnbiolckhdfeaaDoor

/- token's law: TokenBlind, what is carried from call to call. -/
namespace Go.Proofs.YtgnbiolckhdfeaaDoor
open Go.RowKit Go.KK Go.Shelf Go.Maps
set_option linter.unusedVariables false
set_option linter.unusedSimpArgs false

/-- The block is read by the mint's lists. -/
def usesB (m : MT) (g p : Value) (b : Nat) : Prop := (m.g ≠ [] ∧ g.ownBlock = some b) ∨ (m.p ≠ [] ∧ p.ownBlock = some b)
theorem usesB.own {m : MT} {g p : Value} {b : Nat} (h : usesB m g p b) : g.ownBlock = some b ∨ p.ownBlock = some b := h.imp And.right And.right
theorem cts_ne {g : List (Int × Int)} : cts g ≠ [] ↔ g ≠ [] := by
  cases g with
  | nil => simp [cts]
  | cons c g => simp [cts]
theorem SlZ.farU {W W' : World} {Z F : Nat → Prop} {size : Nat} {A : Option Addr} {n c : Nat} {cs : List Value} (h : SlZ W Z size A n c cs) (ht : Turn F W W') (hn : cs ≠ [] → ∀ b o, A = some ⟨b, o, none⟩ → ¬ F b) : SlZ W' Z size A n c cs := by
  refine ⟨⟨h.1.nc, h.1.cm, h.1.len, fun j u hj => ?_⟩, h.2⟩
  obtain ⟨b, off, rfl, hc⟩ := h.1.cells j u hj
  refine ⟨b, off, rfl, ?_⟩
  rw [World.cell?_of_block (a := ⟨b, off + j, none⟩) (ht.block b (block_lt_of_cell hc) (hn (fun e => by rw [e] at hj; simp at hj) b off rfl))]
  exact hc
theorem SlZ.lt {W : World} {Z : Nat → Prop} {size : Nat} {A : Option Addr} {n c : Nat} {cs : List Value} (h : SlZ W Z size A n c cs) (hne : cs ≠ []) {b : Nat} (hb : (Value.slice A n c).ownBlock = some b) : b < W.heap.size := by
  rcases cs with _ | ⟨u, cs⟩
  · exact absurd rfl hne
  · obtain ⟨b', off, rfl, hc⟩ := h.1.cells 0 u rfl
    injection hb with hb
    simp only at hb
    subst hb
    exact block_lt_of_cell hc
theorem MtR.uses_lt {W : World} {Z : Nat → Prop} {m : MT} {g p : Value} (h : MtR W Z m g p) {b : Nat} (hu : usesB m g p b) : b < W.heap.size := by
  obtain ⟨Ag, cg, Ap, cp, rfl, rfl, s1, s2⟩ := h
  rcases hu with ⟨h1, h2⟩ | ⟨h1, h2⟩
  · exact s1.lt (cts_ne.2 h1) h2
  · exact s2.lt (by simpa using h1) h2
theorem MB.turnU {W W' : World} {Z F : Nat → Prop} {b0 bm : Nat} {m : MT} {g p : Value} (h : MB W Z b0 bm m g p) (ht : Turn F W W') (h1 : ¬ F bm) (h2 : ∀ b, usesB m g p b → ¬ F b) : MB W' Z b0 bm m g p := by
  refine ⟨own_block h.row fun b hb => ht.block b (h.row.lt b hb).2 (by injection hb with hb; simp only at hb; rw [← hb]; exact h1), ?_, h.nz⟩
  obtain ⟨Ag, cg, Ap, cp, rfl, rfl, s1, s2⟩ := h.mt
  exact ⟨Ag, cg, Ap, cp, rfl, rfl, s1.farU ht fun hne b o e => h2 b (.inl ⟨cts_ne.1 hne, by subst e; rfl⟩), s2.farU ht fun hne b o e => h2 b (.inr ⟨by simpa using hne, by subst e; rfl⟩)⟩
/-- The arena, a mint in its variable, three rows. -/
structure C6 (w wr : World) (sa bm : Nat) (X : List ND) (Z : Nat → Prop) (mm : MT) (gv pv v1 v2 v3 : Value) (l1 l2 l3 : List Int) : Prop where
  la : LA w wr Z sa X
  m : MB wr Z w.heap.size bm mm gv pv
  r1 : RowI wr w.heap.size v1 l1
  r2 : RowI wr w.heap.size v2 l2
  r3 : RowI wr w.heap.size v3 l3
  a1 : ∀ b, v1.ownBlock = some b → ¬ Z b ∧ b ≠ bm ∧ v2.ownBlock ≠ some b ∧ v3.ownBlock ≠ some b ∧ ¬ usesB mm gv pv b
  a2 : ∀ b, v2.ownBlock = some b → ¬ Z b ∧ b ≠ bm ∧ v3.ownBlock ≠ some b ∧ v1.ownBlock ≠ some b ∧ ¬ usesB mm gv pv b
  a3 : ∀ b, v3.ownBlock = some b → ¬ Z b ∧ b ≠ bm ∧ v1.ownBlock ≠ some b ∧ v2.ownBlock ≠ some b ∧ ¬ usesB mm gv pv b
section
variable {w wr W : World} {sa bm : Nat} {X X' : List ND} {Z Z' : Nat → Prop} {m m' : MT} {gv pv gv' pv' v1 v2 v3 : Value} {l1 l2 l3 : List Int}
theorem C6.rot (h : C6 w wr sa bm X Z m gv pv v1 v2 v3 l1 l2 l3) : C6 w wr sa bm X Z m gv pv v2 v3 v1 l2 l3 l1 := ⟨h.la, h.m, h.r2, h.r3, h.r1, h.a2, h.a3, h.a1⟩
theorem C6.ext (h : C6 w wr sa bm X Z m gv pv v1 v2 v3 l1 l2 l3) (hb : Below wr.heap.size wr W) : C6 w W sa bm X Z m gv pv v1 v2 v3 l1 l2 l3 :=
  ⟨h.la.ext hb, h.m.ext hb, own_ext h.r1 hb, own_ext h.r2 hb, own_ext h.r3 hb, h.a1, h.a2, h.a3⟩
theorem C6.alloc (h : C6 w wr sa bm X Z m gv pv v1 v2 v3 l1 l2 l3) (o : Obj) : C6 w (wr.alloc o) sa bm X Z m gv pv v1 v2 v3 l1 l2 l3 := h.ext ((Below.refl _ _).alloc (Nat.le_refl _) o)
theorem C6.mv (h : C6 w wr sa bm X Z m gv pv v1 v2 v3 l1 l2 l3) (hl : LA w W Z' sa X') (hv : Mv Z wr Z' W) : C6 w W sa bm X' Z' m gv pv v1 v2 v3 l1 l2 l3 where
  la := hl
  m := h.m.mv hv
  r1 := own_block h.r1 fun b hb => hv.t.block b (h.r1.lt b hb).2 (h.a1 b hb).1
  r2 := own_block h.r2 fun b hb => hv.t.block b (h.r2.lt b hb).2 (h.a2 b hb).1
  r3 := own_block h.r3 fun b hb => hv.t.block b (h.r3.lt b hb).2 (h.a3 b hb).1
  a1 := fun b hb => ⟨fun hz => (hv.n b hz).elim (h.a1 b hb).1 fun h' => by have := (h.r1.lt b hb).2; omega, (h.a1 b hb).2⟩
  a2 := fun b hb => ⟨fun hz => (hv.n b hz).elim (h.a2 b hb).1 fun h' => by have := (h.r2.lt b hb).2; omega, (h.a2 b hb).2⟩
  a3 := fun b hb => ⟨fun hz => (hv.n b hz).elim (h.a3 b hb).1 fun h' => by have := (h.r3.lt b hb).2; omega, (h.a3 b hb).2⟩
theorem C6.put (h : C6 w wr sa bm X Z m gv pv v1 v2 v3 l1 l2 l3) (hm : MtR wr Z m' gv' pv') (hn : ∀ b, gv'.ownBlock = some b ∨ pv'.ownBlock = some b → b ≠ bm ∧ v1.ownBlock ≠ some b ∧ v2.ownBlock ≠ some b ∧ v3.ownBlock ≠ some b) : C6 w (put4 wr bm m' gv' pv') sa bm X Z m' gv' pv' v1 v2 v3 l1 l2 l3 where
  la := h.la.put h.m.nz h.m.lt.1
  m := h.m.put hm fun b hb => (hn b hb).1
  r1 := own_block h.r1 fun b hb => far4 wr bm _ _ _ _ b (h.a1 b hb).2.1
  r2 := own_block h.r2 fun b hb => far4 wr bm _ _ _ _ b (h.a2 b hb).2.1
  r3 := own_block h.r3 fun b hb => far4 wr bm _ _ _ _ b (h.a3 b hb).2.1
  a1 := fun b hb => ⟨(h.a1 b hb).1, (h.a1 b hb).2.1, (h.a1 b hb).2.2.1, (h.a1 b hb).2.2.2.1, fun h' => (hn b h'.own).2.1 hb⟩
  a2 := fun b hb => ⟨(h.a2 b hb).1, (h.a2 b hb).2.1, (h.a2 b hb).2.2.1, (h.a2 b hb).2.2.2.1, fun h' => (hn b h'.own).2.2.1 hb⟩
  a3 := fun b hb => ⟨(h.a3 b hb).1, (h.a3 b hb).2.1, (h.a3 b hb).2.2.1, (h.a3 b hb).2.2.2.1, fun h' => (hn b h'.own).2.2.2 hb⟩
/-- The first row is another one. -/
theorem C6.app (h : C6 w wr sa bm X Z m gv pv v1 v2 v3 l1 l2 l3) {v1' : Value} {l1' : List Int} (hn : RowI W w.heap.size v1' l1') (hg : wr.grownBy W v1.ownBlock) (hl : v1'.ownBlock = v1.ownBlock ∨ v1'.ownBlock = some wr.heap.size) : C6 w W sa bm X Z m gv pv v1' v2 v3 l1' l2 l3 := by
  have ht : Turn (fun b => v1.ownBlock = some b) wr W := Turn.grown hg fun b hb => .inl hb
  have lo : w.heap.size ≤ wr.heap.size := h.la.sz
  have new : ∀ b, v1'.ownBlock = some b → v1.ownBlock = some b ∨ b = wr.heap.size := fun b hb => by
    rcases hl with hl | hl
    · exact .inl (hl ▸ hb)
    · rw [hl] at hb; injection hb with hb; exact .inr hb.symm
  refine { la := h.la.turn ht (fun b hz e => (h.a1 b e).1 hz) (fun b e => (h.r1.lt b e).1), m := h.m.turnU ht (fun e => (h.a1 bm e).2.1 rfl) (fun b h1 h2 => (h.a1 b h2).2.2.2.2 h1), r1 := hn, r2 := own_block h.r2 fun b hb => ht.block b (h.r2.lt b hb).2 (h.a2 b hb).2.2.2.1, r3 := own_block h.r3 fun b hb => ht.block b (h.r3.lt b hb).2 (h.a3 b hb).2.2.1, a1 := fun b hb => ?_, a2 := fun b hb => ?_, a3 := fun b hb => ?_ }
  · rcases new b hb with e | e
    · exact h.a1 b e
    · subst e
      refine ⟨fun hz => by have := h.la.ar.zlt _ hz; omega, by have := h.m.lt; omega, fun e => by have := (h.r2.lt _ e).2; omega, fun e => by have := (h.r3.lt _ e).2; omega, fun e => ?_⟩
      have := MtR.uses_lt h.m.mt e
      omega
  · obtain ⟨x1, x2, x3, x4, x5⟩ := h.a2 b hb
    refine ⟨x1, x2, x3, fun e => ?_, x5⟩
    rcases new b e with e | e
    · exact x4 e
    · have := (h.r2.lt b hb).2; omega
  · obtain ⟨x1, x2, x3, x4, x5⟩ := h.a3 b hb
    refine ⟨x1, x2, fun e => ?_, x4, x5⟩
    rcases new b e with e | e
    · exact x3 e
    · have := (h.r3.lt b hb).2; omega
end
/-- Three numbers more at a row's end. -/
theorem rowI_snoc3 {W : World} {b0 : Nat} {v : Value} {l : List Int} {x y z : Int} (h : W.ownsRow b0 3 1 v (l.length + 3) (l.map (.int .i64) ++ [.int .i64 x, .int .i64 y, .int .i64 z])) : RowI W b0 v (l ++ [x, y, z]) := by
  unfold RowI
  rw [List.length_append, List.map_append]
  exact h
theorem l_mkA {w0 W : World} {Z : Nat → Prop} {sa : Nat} {xs : List ND} (h : LA w0 W Z sa xs) (hT : Tb w0.heap.size w0) {n : Int} (hn : I64 n) {xs' : List ND} {i er : Int} (h1 : makT xs (atN n) = xs') (h2 : makI xs (atN n) = i) (h3 : makE xs (atN n) = er) :
    Calls Tryd.prog 25 #[.pointer (some ⟨sa, 0, none⟩), .agg #[.int .i64 1, .int .i64 n, .string ⟨#[]⟩, .slice none 0 0]] W (AfS w0 W Z sa xs' i er) := by
  refine (mke_any Z sa xs w0.heap.size W (atN n) none 0 h.ar (SlA.nil _ _) (h.cx hT).tb (h.cx hT).le (ndI_at hn)).mono ?_
  rintro e w' ⟨rfl, Z', a1, a2, a3⟩
  rw [h1] at a1
  rw [h2, h3]
  exact ⟨Z', rfl, h.mv ⟨a2, a3⟩ a1, ⟨a2, a3⟩⟩
/-- Spend, which leaves all that was there alone. -/
theorem l_spB {w0 W : World} {Z : Nat → Prop} {sa : Nat} {xs : List ND} (h : LA w0 W Z sa xs) {m : MT} {g p : Value} {nonce sig : Int} (hm : MtR W Z m g p) (ho : MtO m) {er : Int} {m' : MT} (hr : spF xs m nonce sig = (m', er)) :
    Calls Tryd.prog 19 #[.pointer (some ⟨sa, 0, none⟩), .agg #[.int .i64 m.k, .int .i64 m.q, g, p], .int .i64 nonce, .int .i64 sig] W fun e w' => ∃ g p, e = .returned (.tuple #[.agg #[.int .i64 m'.k, .int .i64 m'.q, g, p], .int .i64 er]) ∧ Below W.heap.size W w' ∧ MtR w' Z m' g p ∧ NewV W g p := by
  refine (spend_any Z sa xs W m g p nonce sig h.ar hm ho).mono ?_
  rintro e w' ⟨g', p', rfl, hb, h4, hnw⟩
  rw [hr] at h4 ⊢
  exact ⟨g', p', rfl, hb, h4, hnw⟩
end Go.Proofs.YtgnbiolckhdfeaaDoor

