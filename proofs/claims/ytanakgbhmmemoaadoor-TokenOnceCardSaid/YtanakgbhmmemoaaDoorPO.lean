/- plain: TokenOnce: a round of issuing, and of spending. -/
import Derived.Test.YtanakgbhmmemoaaDoorPC
namespace Go.Proofs.YtanakgbhmmemoaaDoor
open Go.RowKit Go.KK Go.Shelf Go.Maps
set_option linter.unusedVariables false
set_option linter.unusedSimpArgs false

theorem mem_get {xs : List ND} {j : Nat} {x : ND} (h : xs[j]? = some x) : x ∈ xs := List.mem_of_getElem? h
/-- The law's arena behind i rounds. -/
structure OX (xs : List ND) (i : Nat) : Prop where
  ok : Okay xs
  ln : 12 ≤ xs.length ∧ xs.length ≤ 12 + 5 * i
  at' : ∀ n : Int, atN n ∈ xs → n < 12 ∨ (1000 ≤ n ∧ n < 1000 + i) ∨ (2000 ≤ n ∧ n < 2000 + i)
theorem ox_atoms : OX (atoms 12) 0 := by
  refine ⟨?_, by rw [atoms_len]; omega, fun n h => .inl (atN_mem.1 h).2⟩
  have hk : ∀ n : Nat, n ≤ 12 → Okay (atoms n) := by
    intro n
    induction n with
    | zero => intro _; exact okay_nil
    | succ n ih =>
      intro hn
      rw [← atoms_step (by omega)]
      exact okay_mak (ih (by omega)) (by show (n : Int) < _; omega)
  exact hk 12 (Nat.le_refl _)
theorem ox_part {xs : List ND} (h : Okay xs) {y : ND} (hy : y ∈ xs) {t : Int} (ht : t ∈ y.l) : t + 1 < xs.length := by
  rcases Int.lt_or_le (t + 1) xs.length with h1 | h1
  · exact h1
  · exact absurd hy (fresh_part h ht h1)
theorem okay_snoc {xs : List ND} {x : ND} (h : Okay xs) (hm : mayB xs x = true) (hx : x ∉ xs) (hl : xs.length < 100000) (hn : x.n < 9223372036854775808) : Okay (xs ++ [x]) := by
  have := okay_mak h hn
  rwa [(mak_new hm hx hl).1] at this
theorem atN_ne_ndN {n o : Int} {l : List Int} (h : l ≠ []) : atN n ≠ ndN o l := fun e => by
  unfold atN ndN at e
  injection e with _ _ _ e
  exact h e.symm
theorem ndN_inj {o o' : Int} {l l' : List Int} (h : ndN o l = ndN o' l') : o = o' ∧ l = l' := by
  unfold ndN at h
  injection h with a _ _ b
  exact ⟨a, b⟩
theorem has_iff {xs : List ND} {t : Int} : hasB xs t = true ↔ 0 ≤ t ∧ t < xs.length := by
  unfold hasB
  rw [Bool.and_eq_true, decide_eq_true_eq, decide_eq_true_eq]
theorem may2 {xs : List ND} {o a b : Int} (ho : o = 10 ∨ o = 12) (ha : 0 ≤ a ∧ a < xs.length) (hb : 0 ≤ b ∧ b < xs.length) : mayB xs (ndN o [a, b]) = true := by
  have h1 := has_iff.2 ha
  have h2 := has_iff.2 hb
  rcases ho with rfl | rfl
  · have e : mayB xs (ndN 10 [a, b]) = (true && (hasB xs a && (hasB xs b && true)) && true) := rfl
    rw [e, h1, h2]; rfl
  · have e : mayB xs (ndN 12 [a, b]) = (true && (hasB xs a && (hasB xs b && true)) && true) := rfl
    rw [e, h1, h2]; rfl
theorem at_snoc {xs : List ND} {x : ND} : (xs ++ [x])[xs.length]? = some x := by simp
theorem nodeF_at {xs : List ND} {k : Nat} {x : ND} (h : xs[k]? = some x) : nodeF xs (k : Int) = x := by
  have hl := (List.getElem?_eq_some_iff.1 h).1
  unfold nodeF
  rw [has_iff.2 ⟨by omega, by omega⟩, if_pos rfl, Int.toNat_natCast, List.getD_eq_getElem?_getD, h]
  rfl
/-- The round's nodes. -/
def oxA (xs : List ND) (i : Nat) : List ND := xs ++ [atN (1000 + (i : Int))]
def oxB (xs : List ND) (i : Nat) : List ND := oxA xs i ++ [atN (2000 + (i : Int))]
def oxC (xs : List ND) (i : Nat) : List ND := oxB xs i ++ [ndN 12 [(xs.length : Nat), ((xs.length + 1 : Nat) : Int)]]
def oxD (xs : List ND) (i : Nat) : List ND := oxC xs i ++ [ndN 10 [0, ((xs.length + 2 : Nat) : Int)]]
def oxE (xs : List ND) (i : Nat) : List ND := oxD xs i ++ [ndN 10 [0, (xs.length : Nat)]]
section
variable {xs : List ND} {i : Nat}
theorem lnA : (oxA xs i).length = xs.length + 1 := by simp [oxA]
theorem lnB : (oxB xs i).length = xs.length + 2 := by simp [oxB, lnA]
theorem lnC : (oxC xs i).length = xs.length + 3 := by simp [oxC, lnB]
theorem lnD : (oxD xs i).length = xs.length + 4 := by simp [oxD, lnC]
theorem lnE : (oxE xs i).length = xs.length + 5 := by simp [oxE, lnD]
theorem ox_mkA (h : OX xs i) (hi : i ≤ 25) : makT xs (atN (1000 + (i : Int))) = oxA xs i ∧ makI xs (atN (1000 + (i : Int))) = (xs.length : Nat) ∧ makE xs (atN (1000 + (i : Int))) = 0 ∧ Okay (oxA xs i) := by
  have hn : atN (1000 + (i : Int)) ∉ xs := fun hm => by have := h.at' _ hm; omega
  have hm := may_atom xs (x := 1000 + (i : Int)) (by omega)
  have hl := h.ln
  obtain ⟨a, b, c⟩ := mak_new hm hn (by omega)
  exact ⟨a, b, c, okay_snoc h.ok hm hn (by omega) (by show 1000 + (i : Int) < _; omega)⟩
theorem ox_ask (h : OX xs i) (hi : i ≤ 25) : askF (oxA xs i) (xs.length : Nat) (2000 + (i : Int)) = (oxC xs i, ((xs.length + 2 : Nat) : Int), 0) ∧ Okay (oxC xs i) := by
  obtain ⟨-, -, -, hA⟩ := ox_mkA h hi
  have hl := h.ln
  have lA : (oxA xs i).length = xs.length + 1 := lnA
  have lB : (oxB xs i).length = xs.length + 2 := lnB
  have hn : atN (2000 + (i : Int)) ∉ oxA xs i := fun hm => by
    unfold oxA at hm
    rcases List.mem_append.1 hm with hm | hm
    · have := h.at' _ hm; omega
    · rw [List.mem_singleton] at hm
      unfold atN at hm
      injection hm with _ hm
      omega
  have hm := may_atom (oxA xs i) (x := 2000 + (i : Int)) (by omega)
  obtain ⟨a, b, c⟩ := mak_new hm hn (by omega)
  have hB : Okay (oxB xs i) := okay_snoc hA hm hn (by omega) (by show 2000 + (i : Int) < _; omega)
  have hm2 := may2 (xs := oxB xs i) (o := 12) (a := (xs.length : Nat)) (b := ((xs.length + 1 : Nat) : Int)) (.inr rfl) (by omega) (by omega)
  have hn2 := fresh_part hB (x := ndN 12 [((xs.length : Nat) : Int), ((xs.length + 1 : Nat) : Int)]) (t := ((xs.length + 1 : Nat) : Int)) (by simp [ndN]) (by omega)
  obtain ⟨a2, b2, c2⟩ := mak_new hm2 hn2 (by omega)
  refine ⟨?_, okay_snoc hB hm2 hn2 (by omega) (by show (0 : Int) < _; decide)⟩
  have e1 : makT (oxA xs i) (atN (2000 + (i : Int))) = oxB xs i := a
  rw [lA] at b
  unfold askF
  rw [has_iff.2 (show (0 : Int) ≤ ((xs.length : Nat) : Int) ∧ ((xs.length : Nat) : Int) < ((oxA xs i).length : Nat) by omega), decide_eq_true (show (0 : Int) ≤ 2000 + (i : Int) by omega), e1, b, c]
  show mk (oxB xs i) _ = _
  unfold mk
  rw [a2, b2, c2, lB]
  rfl
theorem nodeC (h : OX xs i) : nodeF (oxC xs i) ((xs.length + 2 : Nat) : Int) = ndN 12 [(xs.length : Nat), ((xs.length + 1 : Nat) : Int)] :=
  nodeF_at (by have := @at_snoc (oxB xs i) (ndN 12 [(xs.length : Nat), ((xs.length + 1 : Nat) : Int)]); rw [lnB] at this; exact this)
theorem ox_full (h : OX xs i) (hi : i ≤ 25) {m : MT} {who : Int} (hw : 1 ≤ who ∧ who ≤ 4) (hq : m.q ≤ cntF m.g who) : issF (oxC xs i) m who ((xs.length + 2 : Nat) : Int) = (oxC xs i, 0, mt0, 82) := by
  have lC : (oxC xs i).length = xs.length + 3 := lnC
  have hl := h.ln
  unfold issF
  rw [nodeC h, has_iff.2 (show 0 ≤ who ∧ who < ((oxC xs i).length : Nat) by omega), has_iff.2 (show (0 : Int) ≤ ((xs.length + 2 : Nat) : Int) ∧ ((xs.length + 2 : Nat) : Int) < ((oxC xs i).length : Nat) by omega), if_pos (show (true && true && (ndN 12 [((xs.length : Nat) : Int), ((xs.length + 1 : Nat) : Int)]).o == 12) = true from rfl), if_pos hq]
theorem ox_iss (h : OX xs i) (hi : i ≤ 25) {m : MT} {who : Int} (hk : m.k = 0) (hw : 1 ≤ who ∧ who ≤ 4) (hq : ¬ m.q ≤ cntF m.g who) : issF (oxC xs i) m who ((xs.length + 2 : Nat) : Int) = (oxD xs i, ((xs.length + 3 : Nat) : Int), ⟨0, m.q, incF m.g who, m.p⟩, 0) ∧ Okay (oxD xs i) := by
  obtain ⟨-, hC⟩ := ox_ask h hi
  have lC : (oxC xs i).length = xs.length + 3 := lnC
  have hl := h.ln
  have hm2 := may2 (xs := oxC xs i) (o := 10) (a := 0) (b := ((xs.length + 2 : Nat) : Int)) (.inl rfl) (by omega) (by omega)
  have hn2 := fresh_part hC (x := ndN 10 [0, ((xs.length + 2 : Nat) : Int)]) (t := ((xs.length + 2 : Nat) : Int)) (by simp [ndN]) (by omega)
  obtain ⟨a2, b2, c2⟩ := mak_new hm2 hn2 (by omega)
  refine ⟨?_, okay_snoc hC hm2 hn2 (by omega) (by show (0 : Int) < _; decide)⟩
  unfold issF
  rw [nodeC h, has_iff.2 (show 0 ≤ who ∧ who < ((oxC xs i).length : Nat) by omega), has_iff.2 (show (0 : Int) ≤ ((xs.length + 2 : Nat) : Int) ∧ ((xs.length + 2 : Nat) : Int) < ((oxC xs i).length : Nat) by omega), if_pos (show (true && true && (ndN 12 [((xs.length : Nat) : Int), ((xs.length + 1 : Nat) : Int)]).o == 12) = true from rfl), if_neg hq, hk, c2, if_pos (show ((0 : Int) == 0) = true from rfl), a2, b2, lC]
  rfl
theorem old_notin {xs : List ND} (h : Okay xs) {y : ND} {t : Int} (ht : t ∈ y.l) (hl : (xs.length : Int) ≤ t + 1) : y ∉ xs := fresh_part h ht hl
theorem ox_fin (h : OX xs i) (hi : i ≤ 25) (hD : Okay (oxD xs i)) : finF (oxD xs i) ((xs.length + 3 : Nat) : Int) (2000 + (i : Int)) = (oxE xs i, ((xs.length + 4 : Nat) : Int), 0) ∧ Okay (oxE xs i) := by
  have lA : (oxA xs i).length = xs.length + 1 := lnA
  have lB : (oxB xs i).length = xs.length + 2 := lnB
  have lC : (oxC xs i).length = xs.length + 3 := lnC
  have lD : (oxD xs i).length = xs.length + 4 := lnD
  have hl := h.ln
  -- the draw is the node at xs.length + 1
  have g1 : (oxD xs i)[xs.length + 1]? = some (atN (2000 + (i : Int))) := by
    unfold oxD oxC
    rw [List.getElem?_append_left (by rw [List.length_append, lB]; simp), List.getElem?_append_left (by omega)]
    have := @at_snoc (oxA xs i) (atN (2000 + (i : Int)))
    rw [lA] at this
    exact this
  have g2 : (oxD xs i)[xs.length + 2]? = some (ndN 12 [(xs.length : Nat), ((xs.length + 1 : Nat) : Int)]) := by
    unfold oxD
    rw [List.getElem?_append_left (by omega)]
    have := @at_snoc (oxB xs i) (ndN 12 [(xs.length : Nat), ((xs.length + 1 : Nat) : Int)])
    rw [lB] at this
    exact this
  have g3 : (oxD xs i)[xs.length + 3]? = some (ndN 10 [0, ((xs.length + 2 : Nat) : Int)]) := by
    have := @at_snoc (oxC xs i) (ndN 10 [0, ((xs.length + 2 : Nat) : Int)])
    rw [lC] at this
    exact this
  have hmem : atN (2000 + (i : Int)) ∈ oxD xs i := mem_get g1
  have hidx : (oxD xs i).idxOf (atN (2000 + (i : Int))) = xs.length + 1 := by
    have e := idxOf_get hmem
    have l1 := (List.getElem?_eq_some_iff.1 e).1
    have l2 := (List.getElem?_eq_some_iff.1 g1).1
    exact (List.getElem?_inj l1 hD.nd).1 (e.trans g1.symm)
  obtain ⟨a, b, c⟩ := mak_old (may_atom (oxD xs i) (x := 2000 + (i : Int)) (by omega)) hmem
  rw [hidx] at b
  have hm2 := may2 (xs := oxD xs i) (o := 10) (a := 0) (b := (xs.length : Nat)) (.inl rfl) (by omega) (by omega)
  have hn2 : ndN 10 [0, ((xs.length : Nat) : Int)] ∉ oxD xs i := by
    unfold oxD oxC oxB oxA
    simp only [List.mem_append, List.mem_singleton, not_or]
    refine ⟨⟨⟨⟨?_, ?_⟩, ?_⟩, ?_⟩, ?_⟩
    · exact fresh_part h.ok (t := ((xs.length : Nat) : Int)) (by simp [ndN]) (by omega)
    · exact fun e => atN_ne_ndN (by simp) e.symm
    · exact fun e => atN_ne_ndN (by simp) e.symm
    · intro e
      exact absurd (ndN_inj e).1 (by decide)
    · intro e
      have := (ndN_inj e).2
      injection this with _ this
      injection this with this _
      omega
  obtain ⟨a2, b2, c2⟩ := mak_new hm2 hn2 (by omega)
  refine ⟨?_, okay_snoc hD hm2 hn2 (by omega) (by show (0 : Int) < _; decide)⟩
  unfold finF
  rw [c, if_pos (show ((0 : Int) == 0) = true from rfl), a, b]
  unfold unblF
  have k1 : kno (oxD xs i) [((xs.length + 3 : Nat) : Int), ((xs.length + 1 : Nat) : Int)] = true := by
    unfold kno
    rw [List.all_cons, List.all_cons, has_iff.2 (by omega), has_iff.2 (by omega)]; rfl
  rw [k1, if_pos rfl, nodeF_at g3]
  have e1 : (ndN 10 [0, ((xs.length + 2 : Nat) : Int)]).l.getD 1 0 = ((xs.length + 2 : Nat) : Int) := rfl
  rw [e1, nodeF_at g2]
  have e2 : ((ndN 12 [((xs.length : Nat) : Int), ((xs.length + 1 : Nat) : Int)]).o == 12 && (ndN 12 [((xs.length : Nat) : Int), ((xs.length + 1 : Nat) : Int)]).l.getD 1 0 == ((xs.length + 1 : Nat) : Int)) = true := by
    show ((12 : Int) == 12 && (((xs.length + 1 : Nat) : Int) == ((xs.length + 1 : Nat) : Int))) = true
    simp
  have e3 : ((ndN 10 [0, ((xs.length + 2 : Nat) : Int)]).o == 10) = true := rfl
  rw [e3, if_pos rfl, e2, if_pos rfl]
  show mk (oxD xs i) (ndN 10 [0, ((xs.length : Nat) : Int)]) = _
  unfold mk
  rw [a2, b2, c2, lD]
  rfl
theorem ox_next (h : OX xs i) (hE : Okay (oxE xs i)) : OX (oxE xs i) (i + 1) := by
  have lE : (oxE xs i).length = xs.length + 5 := lnE
  have hl := h.ln
  refine ⟨hE, by omega, fun n hn => ?_⟩
  unfold oxE oxD oxC oxB oxA at hn
  simp only [List.mem_append, List.mem_singleton] at hn
  rcases hn with ((((hn | hn) | hn) | hn) | hn) | hn
  · have := h.at' n hn; omega
  · unfold atN at hn; injection hn with _ hn; omega
  · unfold atN at hn; injection hn with _ hn; omega
  · exact absurd hn (atN_ne_ndN (by simp))
  · exact absurd hn (atN_ne_ndN (by simp))
  · exact absurd hn (atN_ne_ndN (by simp))
theorem ox_skip (h : OX xs i) (hC : Okay (oxC xs i)) : OX (oxC xs i) (i + 1) := by
  have lC : (oxC xs i).length = xs.length + 3 := lnC
  have hl := h.ln
  refine ⟨hC, by omega, fun n hn => ?_⟩
  unfold oxC oxB oxA at hn
  simp only [List.mem_append, List.mem_singleton] at hn
  rcases hn with ((hn | hn) | hn) | hn
  · have := h.at' n hn; omega
  · unfold atN at hn; injection hn with _ hn; omega
  · unfold atN at hn; injection hn with _ hn; omega
  · exact absurd hn (atN_ne_ndN (by simp))
theorem atE : (oxE xs i)[xs.length + 4]? = some (ndN 10 [0, (xs.length : Nat)]) := by
  have := @at_snoc (oxD xs i) (ndN 10 [0, (xs.length : Nat)])
  rw [lnD] at this
  exact this
end
/-- The tokens that there are. -/
structure TK (xs : List ND) (ns ts : List Int) : Prop where
  ln : ts.length = ns.length
  r : ns.Pairwise (· < ·)
  n : ∀ a ∈ ns, 0 ≤ a ∧ a < xs.length
  t : ∀ (j : Nat) a b, ns[j]? = some a → ts[j]? = some b → hasB xs b = true ∧ nodeF xs b = ndN 10 [0, a]
theorem tk_nil (xs : List ND) : TK xs [] [] where
  ln := rfl
  r := .nil
  n := fun a h => by cases h
  t := fun j a b h _ => by rw [List.getElem?_nil] at h; cases h
theorem nodeF_app {xs : List ND} (l : List ND) {t : Int} (h : hasB xs t = true) : nodeF (xs ++ l) t = nodeF xs t := by
  have h' := has_iff.1 h
  unfold nodeF
  rw [h, has_iff.2 (show 0 ≤ t ∧ t < ((xs ++ l).length : Nat) by rw [List.length_append]; omega), if_pos rfl, if_pos rfl, List.getD_eq_getElem?_getD, List.getD_eq_getElem?_getD, List.getElem?_append_left (by omega)]
theorem has_app {xs : List ND} (l : List ND) {t : Int} (h : hasB xs t = true) : hasB (xs ++ l) t = true := by
  have h' := has_iff.1 h
  exact has_iff.2 (by rw [List.length_append]; omega)
theorem TK.app {xs : List ND} {ns ts : List Int} (h : TK xs ns ts) (l : List ND) : TK (xs ++ l) ns ts :=
  ⟨h.ln, h.r, fun a ha => by have := h.n a ha; rw [List.length_append]; omega, fun j a b h1 h2 => by
    obtain ⟨e1, e2⟩ := h.t j a b h1 h2
    exact ⟨has_app l e1, by rw [nodeF_app l e1, e2]⟩⟩
theorem TK.snoc {xs : List ND} {ns ts : List Int} (h : TK xs ns ts) (i : Nat) : TK (oxE xs i) (ns ++ [((xs.length : Nat) : Int)]) (ts ++ [((xs.length + 4 : Nat) : Int)]) := by
  have lE : (oxE xs i).length = xs.length + 5 := lnE
  have hE : ∃ l, oxE xs i = xs ++ l := ⟨[atN (1000 + (i : Int))] ++ ([atN (2000 + (i : Int))] ++ ([ndN 12 [(xs.length : Nat), ((xs.length + 1 : Nat) : Int)]] ++ ([ndN 10 [0, ((xs.length + 2 : Nat) : Int)]] ++ [ndN 10 [0, (xs.length : Nat)]]))), by unfold oxE oxD oxC oxB oxA; simp only [List.append_assoc]⟩
  obtain ⟨l, hl⟩ := hE
  refine ⟨by simp [h.ln], ?_, fun a ha => ?_, fun j a b h1 h2 => ?_⟩
  · rw [List.pairwise_append]
    exact ⟨h.r, by simp, fun a ha b hb => by rw [List.mem_singleton] at hb; subst hb; exact (h.n a ha).2⟩
  · rcases List.mem_append.1 ha with ha | ha
    · have := h.n a ha; omega
    · rw [List.mem_singleton] at ha; subst ha; omega
  · rcases Nat.lt_or_ge j ns.length with hj | hj
    · rw [List.getElem?_append_left hj] at h1
      rw [List.getElem?_append_left (by rw [h.ln]; exact hj)] at h2
      rw [hl]
      exact (h.app l).t j a b h1 h2
    · rw [List.getElem?_append_right hj] at h1
      rw [List.getElem?_append_right (by rw [h.ln]; exact hj), h.ln] at h2
      rcases hk : j - ns.length with _ | k
      · rw [hk] at h1 h2
        injection h1 with h1; injection h2 with h2
        subst h1; subst h2
        exact ⟨has_iff.2 (by omega), nodeF_at atE⟩
      · rw [hk] at h1; simp at h1
theorem lbI_all {p : List Int} {x : Int} (h : ∀ a ∈ p, a < x) : lbI p x = p.length := by
  unfold lbI
  rw [List.countP_eq_length]
  intro a ha
  have := h a ha
  simpa using this
/-- The j-th token is spent. -/
theorem tk_spend {xs : List ND} {ns ts : List Int} (h : TK xs ns ts) {j : Nat} {a b : Int} (ha : ns[j]? = some a) (hb : ts[j]? = some b) (q : Int) (g : List (Int × Int)) : spF xs ⟨0, q, g, ns.take j⟩ a b = (⟨0, q, g, ns.take (j + 1)⟩, 0) := by
  obtain ⟨h1, h2⟩ := h.t j a b ha hb
  obtain ⟨hj, rfl⟩ := List.getElem?_eq_some_iff.1 ha
  have hlt : ∀ x ∈ ns.take j, x < ns[j] := fun x hx => by
    obtain ⟨k, hk, rfl⟩ := List.mem_iff_getElem.1 hx
    rw [List.length_take] at hk
    rw [List.getElem_take]
    exact List.pairwise_iff_getElem.1 h.r k j (by omega) hj (by omega)
  have hn := h.n ns[j] (List.getElem_mem hj)
  unfold spF
  have k1 : kno xs [ns[j], b] = true := by
    unfold kno
    rw [List.all_cons, List.all_cons, has_iff.2 hn, h1]; rfl
  have k2 : (ns.take j).contains ns[j] = false := by
    rw [Bool.eq_false_iff]
    intro hc
    have := hlt _ (List.contains_iff_mem.1 hc)
    omega
  have k3 : ((ndN 10 [0, ns[j]]).o == 10 && (ndN 10 [0, ns[j]]).l.getD 0 0 == (0 : Int) && (ndN 10 [0, ns[j]]).l.getD 1 0 == ns[j]) = true := by
    show ((10 : Int) == 10 && (0 : Int) == 0 && ns[j] == ns[j]) = true
    simp
  rw [k1, if_pos rfl, h2]
  simp only [k3, k2]
  rw [lbI_all hlt, List.take_length, List.drop_length, List.take_add_one, ha]
  rfl
theorem tk_spent {xs : List ND} {ns ts : List Int} (h : TK xs ns ts) {j k : Nat} {a b : Int} (ha : ns[j]? = some a) (hb : ts[j]? = some b) (hk : j < k) (q : Int) (g : List (Int × Int)) : spF xs ⟨0, q, g, ns.take k⟩ a b = (mt0, 81) := by
  obtain ⟨h1, h2⟩ := h.t j a b ha hb
  obtain ⟨hj, rfl⟩ := List.getElem?_eq_some_iff.1 ha
  have hn := h.n ns[j] (List.getElem_mem hj)
  unfold spF
  have k1 : kno xs [ns[j], b] = true := by
    unfold kno
    rw [List.all_cons, List.all_cons, has_iff.2 hn, h1]; rfl
  have k2 : (ns.take k).contains ns[j] = true := by
    rw [List.contains_iff_mem]
    exact List.mem_iff_getElem.2 ⟨j, by rw [List.length_take]; omega, by rw [List.getElem_take]⟩
  have k3 : ((ndN 10 [0, ns[j]]).o == 10 && (ndN 10 [0, ns[j]]).l.getD 0 0 == (0 : Int) && (ndN 10 [0, ns[j]]).l.getD 1 0 == ns[j]) = true := by
    show ((10 : Int) == 10 && (0 : Int) == 0 && ns[j] == ns[j]) = true
    simp
  rw [k1, if_pos rfl, h2]
  simp only [k3, k2]
  rfl
end Go.Proofs.YtanakgbhmmemoaaDoor
