import Derived.Test.YtpkijlmkgomfeaaGreatDoorW01
import Derived.Test.YtpkijlmkgomfeaaGreatDoorW09
import Derived.Maps.Own
import Derived.Maps.Views
import Derived.WideKeyPair
import Derived.Deep.LoopGhost
import Derived.StillTailTactics
/- plain: what a term is made of, and how many terms (TermBelow). -/
namespace Go.KK
open Go.RowKit
set_option linter.unusedVariables false
set_option linter.unusedSimpArgs false

theorem nodup_le : ∀ (N : Nat) (M : List Int), M.Nodup → (∀ x ∈ M, 0 ≤ x ∧ x < N) → M.length ≤ N
  | 0, M, _, h => by
    cases M with
    | nil => simp
    | cons x M => have := h x (by simp); omega
  | N + 1, M, hn, h => by
    by_cases hm : (N : Int) ∈ M
    · have := nodup_le N (M.erase (N : Int)) (hn.erase _) fun x hx => by
        have h1 := h x (List.mem_of_mem_erase hx)
        have h2 : x ≠ (N : Int) := ((hn.mem_erase_iff).1 hx).1
        omega
      rw [List.length_erase_of_mem hm] at this
      omega
    · have := nodup_le N M hn fun x hx => by
        have h1 := h x hx
        have h2 : x ≠ (N : Int) := fun e => hm (e ▸ hx)
        omega
      omega
/-- A term is made of another one. -/
inductive Rch (xs : List ND) : Int → Int → Prop
  | self {t : Int} (h : hasB xs t = true) : Rch xs t t
  | step {t x y : Int} (h : Rch xs t x) (hy : y ∈ (nodeF xs x).l) : Rch xs t y
theorem nodeF_get {xs : List ND} {t : Int} (h : hasB xs t = true) : xs[t.toNat]? = some (nodeF xs t) := by
  have h2 := has_iff.1 h
  unfold nodeF
  rw [h, if_pos rfl, List.getD, List.getElem?_eq_getElem (by omega)]
  rfl
theorem part_lt {xs : List ND} (ok : Okay xs) {t x : Int} (h : hasB xs t = true) (hx : x ∈ (nodeF xs t).l) : 0 ≤ x ∧ x < t ∧ hasB xs x = true := by
  have h2 := has_iff.1 h
  have hm := ok.may _ _ (nodeF_get h)
  unfold mayB at hm
  simp only [Bool.and_eq_true, List.all_eq_true] at hm
  have h3 := has_iff.1 (hm.1.2 x hx)
  rw [List.length_take] at h3
  refine ⟨h3.1, by omega, has_iff.2 ⟨h3.1, by omega⟩⟩
theorem Rch.has {xs : List ND} (ok : Okay xs) {t x : Int} (h : Rch xs t x) : hasB xs t = true ∧ hasB xs x = true ∧ 0 ≤ x ∧ x ≤ t := by
  induction h with
  | self h => exact ⟨h, h, (has_iff.1 h).1, Int.le_refl _⟩
  | step h hy ih =>
    obtain ⟨a, b, c⟩ := part_lt ok ih.2.1 hy
    exact ⟨ih.1, c, a, by omega⟩
theorem Rch.trans {xs : List ND} {t x y : Int} (h : Rch xs t x) (k : Rch xs x y) : Rch xs t y := by
  induction k with
  | self _ => exact h
  | step _ hy ih => exact .step ih hy
/-- On the way: M is met, O is open, and of x (if any is being looked at) so many parts have been looked at. -/
structure Pt (xs : List ND) (t : Int) (M O : List Int) (x : Option Int) (k : Nat) : Prop where
  nd : M.Nodup
  tm : t ∈ M
  r : ∀ y ∈ M, Rch xs t y
  o : ∀ y ∈ O, y ∈ M
  c : ∀ z ∈ M, z ∉ O → x ≠ some z → ∀ y ∈ (nodeF xs z).l, y ∈ M
  x : ∀ z, x = some z → z ∈ M ∧ ∀ y ∈ (nodeF xs z).l.take k, y ∈ M
theorem Pt.old {xs : List ND} {t x y : Int} {M O : List Int} {k : Nat} (h : Pt xs t M O (some x) k) (hy : (nodeF xs x).l[k]? = some y) (hm : y ∈ M) : Pt xs t M O (some x) (k + 1) := by
  refine ⟨h.nd, h.tm, h.r, h.o, h.c, fun z e => ⟨(h.x z e).1, fun u hu => ?_⟩⟩
  injection e with e
  subst e
  rw [take_one hy, List.mem_append, List.mem_singleton] at hu
  rcases hu with hu | rfl
  · exact (h.x _ rfl).2 u hu
  · exact hm
theorem Pt.new {xs : List ND} {t x y : Int} {M O : List Int} {k : Nat} (h : Pt xs t M O (some x) k) (hy : (nodeF xs x).l[k]? = some y) (hm : y ∉ M) : Pt xs t (M ++ [y]) (O ++ [y]) (some x) (k + 1) := by
  refine ⟨?_, by simp [h.tm], fun u hu => ?_, fun u hu => ?_, fun z hz hn hx u hu => ?_, fun z e => ?_⟩
  · rw [List.nodup_append]
    exact ⟨h.nd, by simp, fun a ha b hb e => by rw [List.mem_singleton] at hb; subst hb; subst e; exact hm ha⟩
  · rw [List.mem_append, List.mem_singleton] at hu
    rcases hu with hu | rfl
    · exact h.r u hu
    · exact .step (h.r x (h.x x rfl).1) (List.mem_of_getElem? hy)
  · rw [List.mem_append, List.mem_singleton] at hu ⊢
    exact hu.imp (h.o u) id
  · rw [List.mem_append, List.mem_singleton] at hn
    rw [List.mem_append, List.mem_singleton] at hz
    rcases hz with hz | rfl
    · exact List.mem_append_left _ (h.c z hz (fun h' => hn (.inl h')) hx u hu)
    · exact absurd (.inr rfl) hn
  · refine ⟨List.mem_append_left _ (h.x z e).1, fun u hu => ?_⟩
    injection e with e
    subst e
    rw [take_one hy, List.mem_append, List.mem_singleton] at hu
    rw [List.mem_append, List.mem_singleton]
    rcases hu with hu | rfl
    · exact .inl ((h.x _ rfl).2 u hu)
    · exact .inr rfl
theorem Pt.done {xs : List ND} {t x : Int} {M O : List Int} {k : Nat} (h : Pt xs t M O (some x) k) (hk : (nodeF xs x).l.length ≤ k) : Pt xs t M O none 0 := by
  refine ⟨h.nd, h.tm, h.r, h.o, fun z hz hn _ u hu => ?_, fun z e => by cases e⟩
  by_cases hx : x = z
  · subst hx
    have := (h.x _ rfl).2
    rw [List.take_of_length_le hk] at this
    exact this u hu
  · exact h.c z hz hn (fun e => hx (by injection e)) u hu
theorem Pt.size {xs : List ND} {t : Int} {M : List Int} {k : Nat} (h : Pt xs t M [] none k) : ∀ y, y ∈ M ↔ Rch xs t y := fun y =>
  ⟨h.r y, fun hr => by
    have ht := h.tm
    induction hr with
    | self _ => exact ht
    | step _ hy ih => exact h.c _ ih (by simp) (by simp) _ hy⟩
theorem Pt.len {xs : List ND} (ok : Okay xs) {t : Int} {M O : List Int} {x : Option Int} {k : Nat} (h : Pt xs t M O x k) : M.length ≤ xs.length :=
  nodup_le _ M h.nd fun y hy => by
    have := (h.r y hy).has ok
    have := has_iff.1 this.2.1
    omega
end Go.KK

/- the document's Bisim: terms of two arenas that are the same. -/
namespace Go.KK
open Go.RowKit
set_option linter.unusedVariables false
set_option linter.unusedSimpArgs false

/-- The term x of the arena Y is the term y of the arena X. -/
inductive Bs (Y X : List ND) : Int → Int → Prop
  | mk {x y : Int} {a b : ND} (hx : At Y x a) (hy : At X y b) (ho : a.o = b.o) (hn : a.n = b.n) (hs : a.s = b.s) (hl : a.l.length = b.l.length) (h : ∀ (i : Nat) p q, a.l[i]? = some p → b.l[i]? = some q → Bs Y X p q) : Bs Y X x y
end Go.KK
namespace Go.Proofs.YtpkijlmkgomfeaaGreatDoor
open Go.RowKit Go.KK Go.Shelf Go.Maps

theorem wfP {y : Int} (h : I64 y) : (Lit.int .i64 y).wf = true := by
  have h2 := wrap64_wf y
  rwa [show RowKit.wrap64 y = y by unfold RowKit.wrap64; unfold I64 at h; omega] at h2
theorem plainP_inv {e : TypeId} (he : Tryz.prog.underlying e = some .bool) {v : Value} {z : MD × List MemPlace} (h : plainElem Tryz.prog e v = some z) : ∃ x, v = .bool x ∧ z = (.lit (.bool x), []) := by
  unfold plainElem at h
  rw [he] at h
  cases v <;> simp at h
  subst h
  exact ⟨_, rfl, rfl⟩
theorem litP_inj {a b : Bool} (h : (DataW.lit (.bool a) : MD) = .lit (.bool b)) : a = b := by
  injection h with h
  injection h
theorem zeroP (w : World) : (zeroValue 4).run Tryz.prog w = .ok (.bool false) w := by kernel_rfl
theorem arr2 : WideMaps.ArrKey Tryz.prog 113 3 2 := ⟨Tryz.underlying113, by kernel_rfl, by kernel_rfl, by kernel_rfl⟩
theorem law2 : Keyed Tryz.prog 113 := Keyed.of_law arr2.law
/-- A pair's key. -/
def kp (a b : Int) : Lit := .string (keyBytes [.int .i64 a, .int .i64 b])
theorem key_pair {a b : Int} (ha : I64 a) (hb : I64 b) : keyOf Tryz.prog 113 (.agg #[.int .i64 a, .int .i64 b]) = some (kp a b) :=
  WideMaps.keyOf_pair arr2 Tryz.underlying3 ⟨Tryz.prog.types.size - 1, by kernel_rfl⟩ (wfP ha) (wfP hb)
theorem kp_inj {a b a' b' : Int} (ha : I64 a) (hb : I64 b) (ha' : I64 a') (hb' : I64 b') (h : kp a b = kp a' b') : a = a' ∧ b = b' := by
  have := law2.inj (key_pair ha hb) (h ▸ key_pair ha' hb')
  simp at this
  exact this
/-- A map of pairs that were found to be the same. -/
def MtP (W : World) (mb : Nat) (M : List (Int × Int)) : Prop := ∃ (D : MD) (n : Nat), W.ownsMap Tryz.prog 113 (plainElem Tryz.prog 4) mb n D ∧ n ≤ M.length ∧ Tidy D ∧
  (∀ a b, I64 a → I64 b → D.atKey (kp a b) (.lit (.bool false)) = .lit (.bool (decide ((a, b) ∈ M)))) ∧ M.Nodup ∧ ∀ p ∈ M, 0 ≤ p.1 ∧ p.1 < 100000 ∧ 0 ≤ p.2 ∧ p.2 < 100000
theorem MtP.new (w : World) : MtP (w.alloc (.map #[] 0)) w.heap.size [] :=
  ⟨_, 0, World.ownsMap_made (H := Unit) w Tryz.prog 113 (plainElem Tryz.prog 4), Nat.le_refl _, tidy_empty, fun a b _ _ => rfl, List.nodup_nil, fun p h => by simp at h⟩
section
variable {w w' : World} {mb : Nat} {M : List (Int × Int)}
theorem MtP.look (h : MtP w mb M) {a b : Int} (ha : I64 a) (hb : I64 b) : (Instr.lookup 49 (.map (some mb)) (.agg #[.int .i64 a, .int .i64 b]) false).run Tryz.prog w = .ok (.bool (decide ((a, b) ∈ M))) w := by
  obtain ⟨D, n, h1, -, -, h4, -⟩ := h
  obtain ⟨v, ps, hrun, hv⟩ := h1.lookup law2 Tryz.underlying49 (zeroP w) (plainElem_bool Tryz.underlying4 false) (key_pair ha hb)
  obtain ⟨x, rfl, e⟩ := plainP_inv Tryz.underlying4 hv
  have e1 := (Prod.mk.inj e).1
  rw [h4 a b ha hb] at e1
  have e2 : decide ((a, b) ∈ M) = x := litP_inj e1
  rw [hrun, e2]
theorem MtP.block (h : MtP w mb M) (hb : w'.heap[mb]? = w.heap[mb]?) : MtP w' mb M := by
  obtain ⟨D, n, h1, r⟩ := h
  exact ⟨D, n, map_block h1 hb, r⟩
theorem MtP.lt (h : MtP w mb M) : mb < w.heap.size := by
  obtain ⟨D, n, ⟨es, clock, h1, _⟩, -⟩ := h
  exact (Array.getElem?_eq_some_iff.1 h1).1
/-- Where a cell is, the map is not. -/
theorem MtP.ne (h : MtP w mb M) {b o : Nat} {u : Value} (hc : w.cell? ⟨b, o, none⟩ = some u) : b ≠ mb := by
  rintro rfl
  obtain ⟨D, n, ⟨es, clock, h1, _⟩, -⟩ := h
  unfold World.cell? at hc
  simp only [h1] at hc
  simp at hc
theorem MtP.keep (h : MtP w mb M) (ht : Turn (fun b => b = mb) w w') {b o : Nat} {u : Value} (hc : w.cell? ⟨b, o, none⟩ = some u) : w'.cell? ⟨b, o, none⟩ = some u := by
  rw [World.cell?_of_block (a := ⟨b, o, none⟩) (show w'.heap[b]? = w.heap[b]? from ht.block b (block_lt_of_cell hc) (h.ne hc))]
  exact hc
theorem MtP.put (h : MtP w mb M) {a b : Int} (ha : 0 ≤ a ∧ a < 100000) (hb : 0 ≤ b ∧ b < 100000) (hn : (a, b) ∉ M) {D : MD} {n : Nat} (hD : w.ownsMap Tryz.prog 113 (plainElem Tryz.prog 4) mb n D) (hnl : n ≤ M.length) (ht : Tidy D)
    (hat : ∀ a b, I64 a → I64 b → D.atKey (kp a b) (.lit (.bool false)) = .lit (.bool (decide ((a, b) ∈ M)))) (hw : w'.ownsMap Tryz.prog 113 (plainElem Tryz.prog 4) mb (n + 1) (D.put (kp a b) (.lit (.bool true)))) : MtP w' mb (M ++ [(a, b)]) := by
  obtain ⟨-, -, -, -, -, -, nd, rg⟩ := h
  refine ⟨_, _, hw, by simp; omega, ht.put (by trivial) _, fun p q hp hq => ?_, ?_, fun p hp => ?_⟩
  · by_cases e : p = a ∧ q = b
    · obtain ⟨rfl, rfl⟩ := e
      rw [Maps.atKey_put_same ht.isMap (by trivial)]; simp
    · have hne : kp p q ≠ kp a b := fun k => e (kp_inj hp hq ⟨by omega, by omega⟩ ⟨by omega, by omega⟩ k)
      rw [Maps.atKey_put_other hne, hat p q hp hq]
      have : (p, q) ≠ (a, b) := fun k => e (by injection k with k1 k2; exact ⟨k1, k2⟩)
      simp [this]
  · rw [List.nodup_append]
    exact ⟨nd, by simp, fun p hp q hq e => by rw [List.mem_singleton] at hq; subst hq; subst e; exact hn hp⟩
  · rcases List.mem_append.1 hp with hp | hp
    · exact rg p hp
    · rw [List.mem_singleton] at hp
      subst hp
      exact ⟨ha.1, ha.2, hb.1, hb.2⟩
end
theorem ArV.keep {w w' : World} {T : TypeId} {st : Nat} {xs : List ND} (h : ArV w T st xs) (hb : w'.heap[st]? = w.heap[st]?) (hk : ∀ b o u, w.cell? ⟨b, o, none⟩ = some u → w'.cell? ⟨b, o, none⟩ = some u) : ArV w' T st xs := by
  obtain ⟨⟨A, c, m, h1, h2⟩, h3⟩ := h
  exact ⟨⟨A, c, m, hb.trans h1, h2.keep hk⟩, h3⟩
end Go.Proofs.YtpkijlmkgomfeaaGreatDoor

/- proposals: which may stand together. -/
namespace Go.Proofs.YtpkijlmkgomfeaaGreatDoor
open Go.RowKit Go.KK Go.Shelf Go.Maps
set_option linter.unusedVariables false
set_option linter.unusedSimpArgs false

theorem lawK : Keyed Tryz.prog 3 := int_keyed Tryz.underlying3
theorem keyK {y : Int} (h : I64 y) : keyOf Tryz.prog 3 (.int .i64 y) = some (.int .i64 y) := keyOf_int_mk Tryz.underlying3 (wfP h)
/-- A set of numbers. -/
def MtI (W : World) (mb : Nat) (M : List Int) : Prop := ∃ (D : MD) (n : Nat), W.ownsMap Tryz.prog 3 (plainElem Tryz.prog 4) mb n D ∧ n ≤ M.length ∧ Tidy D ∧
  (∀ a, I64 a → D.atKey (.int .i64 a) (.lit (.bool false)) = .lit (.bool (decide (a ∈ M))))
theorem MtI.new (w : World) : MtI (w.alloc (.map #[] 0)) w.heap.size [] :=
  ⟨_, 0, World.ownsMap_made (H := Unit) w Tryz.prog 3 (plainElem Tryz.prog 4), Nat.le_refl _, tidy_empty, fun a _ => rfl⟩
section
variable {w w' : World} {mb : Nat} {M : List Int}
theorem MtI.look (h : MtI w mb M) {a : Int} (ha : I64 a) : (Instr.lookup 167 (.map (some mb)) (.int .i64 a) false).run Tryz.prog w = .ok (.bool (decide (a ∈ M))) w := by
  obtain ⟨D, n, h1, -, -, h4⟩ := h
  obtain ⟨v, ps, hrun, hv⟩ := h1.lookup lawK Tryz.underlying167 (zeroP w) (plainElem_bool Tryz.underlying4 false) (keyK ha)
  obtain ⟨x, rfl, e⟩ := plainP_inv Tryz.underlying4 hv
  have e1 := (Prod.mk.inj e).1
  rw [h4 a ha] at e1
  have e2 : decide (a ∈ M) = x := litP_inj e1
  rw [hrun, e2]
theorem MtI.block (h : MtI w mb M) (hb : w'.heap[mb]? = w.heap[mb]?) : MtI w' mb M := by
  obtain ⟨D, n, h1, r⟩ := h
  exact ⟨D, n, map_block h1 hb, r⟩
theorem MtI.lt (h : MtI w mb M) : mb < w.heap.size := by
  obtain ⟨D, n, ⟨es, clock, h1, _⟩, -⟩ := h
  exact (Array.getElem?_eq_some_iff.1 h1).1
theorem MtI.ext (h : MtI w mb M) (hb : Below w.heap.size w w') : MtI w' mb M := h.block (hb.block mb h.lt)
theorem MtI.put {a : Int} {D : MD} {n : Nat} (hnl : n ≤ M.length) (ht : Tidy D)
    (hat : ∀ a, I64 a → D.atKey (.int .i64 a) (.lit (.bool false)) = .lit (.bool (decide (a ∈ M)))) (hw : w'.ownsMap Tryz.prog 3 (plainElem Tryz.prog 4) mb (n + 1) (D.put (.int .i64 a) (.lit (.bool true)))) : MtI w' mb (M ++ [a]) := by
  refine ⟨_, _, hw, by simp; omega, ht.put (by trivial) _, fun p hp => ?_⟩
  by_cases e : p = a
  · subst e
    rw [Maps.atKey_put_same ht.isMap (by trivial)]; simp
  · rw [Maps.atKey_put_other (fun k => e (by injection k)), hat p hp]
    simp [e]
end
theorem take_get9 {l : List PR} {j : Nat} {p : PR} (h : l[j]? = some p) : l.take (j + 1) = l.take j ++ [p] := by rw [List.take_add_one, h]; rfl
theorem ext_take {l : List PR} {j : Nat} {p : PR} (h : l[j]? = some p) : extN (l.take (j + 1)) = extN (l.take j) + (if p.k = 5 then 1 else 0) := by
  rw [take_get9 h]
  unfold extN
  rw [List.filter_append, List.length_append]
  congr 1
  by_cases h5 : p.k = 5
  · rw [if_pos h5, List.filter_cons, if_pos (by simpa using h5)]; rfl
  · rw [if_neg h5, List.filter_cons, if_neg (by simpa using h5)]; rfl
theorem key_take {l : List PR} {j : Nat} {p : PR} (h : l[j]? = some p) : (l.take (j + 1)).filterMap keyP2 = (l.take j).filterMap keyP2 ++ (match keyP2 p with | some a => [a] | none => []) := by
  rw [take_get9 h, List.filterMap_append]
  congr 1
  unfold List.filterMap
  split <;> simp_all [List.filterMap]
theorem key_len (l : List PR) (j : Nat) : ((l.take j).filterMap keyP2).length ≤ j := Nat.le_trans (List.length_filterMap_le _ _) (by simp; omega)
theorem grown_bel {w0 w w' : World} {b : Nat} (h : Below w0.heap.size w0 w) (hg : w.grownBy w' (some b)) (hb : w0.heap.size ≤ b) : Below w0.heap.size w0 w' := h.grown hg h.size (fun k hk => by injection hk with hk; omega)
theorem paT_no {l : List PR} {j : Nat} (h : ¬ ((l.take j).filterMap keyP2).Nodup) : paT l = false := by
  unfold paT
  rw [decide_eq_false fun hh => h ?_]
  · rfl
  · have e : l.filterMap keyP2 = (l.take j).filterMap keyP2 ++ (l.drop j).filterMap keyP2 := by rw [← List.filterMap_append, List.take_append_drop]
    rw [e] at hh
    exact (List.nodup_append.1 hh).1
set_option maxHeartbeats 4000000 in
set_option maxRecDepth 100000 in
theorem together_any {W : World} {A : Option Addr} {n c : Nat} {l : List PR} (h : Pr W A n c l) (hn : n ≤ 100000) (hi : ∀ p ∈ l, PrI p) :
    Calls Tryz.prog 42 #[.slice A n c] W fun e w' => e = .returned (.bool (paT l)) ∧ Below W.heap.size W w' := by
  have HL := hid h.len; have HI := hid hi; have HP := hid h
  have HB0 := hid (show Below W.heap.size W (W.alloc (.map #[] 0)) from (Below.refl _ _).alloc (Nat.le_refl _) _)
  have HM0 := hid (MtI.new W)
  obtain ⟨r, hr⟩ : ∃ r, r = paT l := ⟨_, rfl⟩
  have HR := hid hr
  rw [← hr]
  clear h hi hr
  have hmm := @run_makeMap Tryz.prog
  go_enter Tryz.func42, Tryz.ntmps42
  go_upto_region 3 with fail
  obtain ⟨mb, hmb⟩ : ∃ mb, mb = W.heap.size := ⟨_, rfl⟩
  rw [← hmb] at HM0 ⊢
  have HMB := hid hmb
  clear hmb
  generalize hW1 : W.alloc (.map #[] 0) = W1 at *
  clear hW1
  go_wp2_with fail
  go_loopw [11, 3] (fun i x wr => ∃ j : Nat, i = .int .i64 j ∧ j ≤ n ∧ x = .int .i64 (extN (l.take j) : Nat) ∧ Hid (((l.take j).filterMap keyP2).Nodup) ∧ Hid (MtI wr mb ((l.take j).filterMap keyP2)) ∧ Hid (Below W.heap.size W wr)) (fun i _ _ => n - (intOf i).toNat)
  case atStart => exact ⟨0, rfl, by omega, rfl, hid (by simp), HM0, HB0⟩
  case round =>
    clear HM0 HB0
    obtain ⟨j, hij, hj, hx, HN, HM, HB⟩ := hrel
    subst hij; subst hx
    by_cases hlt : j < n
    · obtain ⟨b, o, p, A', c', rfl, hp, -, d0, d1, d2, d3, d4, d5, d6, d7, d8, d9⟩ := (HP.out.ext HB.out).at hlt
      have hlt' : (j : Int) < (n : Int) := by omega
      have HE := hid (ext_take hp); have HK := hid (key_take hp)
      obtain ⟨-, i2, -, i4, -⟩ := HI.out p (List.mem_of_getElem? hp)
      have HI2 := hid i2; have HI4 := hid i4
      have hex : extN (l.take j) ≤ j := by unfold extN; exact Nat.le_trans (List.length_filter_le ..) (by simp; omega)
      have HEX := hid hex
      have HWB := hid (show Below wr.heap.size wr (wr.alloc (prO p (.slice A' p.n.u.length c'))) from (Below.refl _ _).alloc (Nat.le_refl _) _)
      have HHO := hid (heap_alloc_new wr (prO p (.slice A' p.n.u.length c')))
      generalize hM : (l.take j).filterMap keyP2 = M at *
      generalize hE : extN (l.take j) = ex at *
      have HMJ := hid hM
      clear hp hM hE i2 i4 hex
      unfold prO at HWB HHO
      go_upto_region 6 with fail
      obtain ⟨bx, hbx⟩ : ∃ bx, bx = wr.heap.size := ⟨_, rfl⟩
      rw [← hbx] at HHO ⊢
      clear d0 d1 d2 d3 d4 d5 d6 d7 d8 d9
      refine forget (R := fun V => Below wr.heap.size wr V ∧ V.heap[bx]? = some (prO p (.slice A' p.n.u.length c'))) ?_ ⟨HWB.out, HHO.out⟩
      clear HWB HHO
      rintro V ⟨bv, ho⟩
      have HBV := hid (HB.out.trans (bv.mono HB.out.size))
      have HMV := hid (HM.out.ext bv)
      obtain ⟨x0, x1, x2, x3, x4, x5, x6, x7, x8, x9⟩ := prA10 ho
      clear bv ho HM HB hbx
      by_cases h5 : p.k = 5
      · rw [h5] at x0
        have HE1 := hid (show extN (l.take (j + 1)) = ex + 1 from by rw [HE.out, if_pos h5])
        have HK1 := hid (show (l.take (j + 1)).filterMap keyP2 = M from by
          rw [HK.out]
          unfold keyP2
          rw [if_neg (by omega), if_neg (by omega)]
          simp)
        have hex := HEX.out
        have hw : IntKind.i64.wrap ((ex : Int) + 1) = ((ex + 1 : Nat) : Int) := by rw [IntKind.wrap_i64]; omega
        clear hex
        clear h5
        go_wp2_with fail
        go_roundw
        case rel => exact ⟨j + 1, by go_num, by omega, by rw [HE1.out]; first | rfl | done | go_num, hid (by rw [HK1.out]; exact HN.out), hid (by rw [HK1.out]; exact HMV.out), HBV⟩
        case measure => simp [intOf]; omega
      have h5' : (p.k == 5) = false := beq_eq_false_iff_ne.2 h5
      have HE1 := hid (show extN (l.take (j + 1)) = ex from by rw [HE.out, if_neg h5]; rfl)
      by_cases h2 : p.k = 2
      · rw [h2] at x0 h5'
        have HK1 := hid (show (l.take (j + 1)).filterMap keyP2 = M ++ [p.f] from by
          rw [HK.out]
          unfold keyP2
          rw [if_pos h2])
        have hlk := HMV.out.look HI2.out
        clear h2 h5
        by_cases hm : p.f ∈ M
        · have HF := hid (show r = false from by
            rw [HR.out]
            refine paT_no (j := j + 1) fun hh => ?_
            rw [HK1.out, List.nodup_append] at hh
            exact hh.2.2 _ hm _ (List.mem_singleton.2 rfl) rfl)
          rw [decide_eq_true hm] at hlk
          go_wp2_with fail
          go_ret
          exact ⟨by first | rfl | (rw [HF.out]; try rfl), HBV.out⟩
        · rw [decide_eq_false hm] at hlk
          have HN1 := hid (show (M ++ [p.f]).Nodup from List.nodup_append.2 ⟨HN.out, by simp, fun x hx y hy e => hm (by rw [← List.mem_singleton.1 hy, ← e]; exact hx)⟩)
          obtain ⟨D, m, o1, o2, o3, o4⟩ := HMV.out
          have HO := hid o1; have HLM := hid o2; have HTD := hid o3; have HAT := hid o4
          have HML := hid (show M.length ≤ 100000 from by
            have h1 := key_len l j
            rw [HMJ.out] at h1
            omega)
          have HKEY := hid (keyK HI2.out)
          clear o1 o2 o3 o4 hm
          go_wp2_with (first
            | (at_mapUpdate; refine wpList_mapUpdate_own _ rfl _ _ _ 167 rfl 3 4 lawK Tryz.underlying167 _ mb m D rfl HO.out (by have := HLM.out; have := HML.out; unfold maxLen; omega) _ _ (.int .i64 p.f) rfl rfl HKEY.out (.lit (.bool true)) [] (plainElem_bool Tryz.underlying4 true) ?_; intro w5 ho5 hg5; have HO5 := hid ho5; have HG5 := hid hg5; clear ho5 hg5))
          go_roundw
          case rel => exact ⟨j + 1, by go_num, by omega, by rw [HE1.out], hid (by rw [HK1.out]; exact HN1.out), hid (by rw [HK1.out]; exact MtI.put HLM.out HTD.out HAT.out HO5.out), hid (grown_bel HBV.out HG5.out (by have := HMB.out; omega))⟩
          case measure => simp [intOf]; omega
      have h2' : (p.k == 2) = false := beq_eq_false_iff_ne.2 h2
      by_cases h3 : p.k = 3
      · rw [h3] at x0 h5' h2'
        have HK1 := hid (show (l.take (j + 1)).filterMap keyP2 = M ++ [p.a] from by
          rw [HK.out]
          unfold keyP2
          rw [if_neg h2, if_pos h3])
        have hlk := HMV.out.look HI4.out
        clear h2 h5 h3
        by_cases hm : p.a ∈ M
        · have HF := hid (show r = false from by
            rw [HR.out]
            refine paT_no (j := j + 1) fun hh => ?_
            rw [HK1.out, List.nodup_append] at hh
            exact hh.2.2 _ hm _ (List.mem_singleton.2 rfl) rfl)
          rw [decide_eq_true hm] at hlk
          go_wp2_with fail
          go_ret
          exact ⟨by first | rfl | (rw [HF.out]; try rfl), HBV.out⟩
        · rw [decide_eq_false hm] at hlk
          have HN1 := hid (show (M ++ [p.a]).Nodup from List.nodup_append.2 ⟨HN.out, by simp, fun x hx y hy e => hm (by rw [← List.mem_singleton.1 hy, ← e]; exact hx)⟩)
          obtain ⟨D, m, o1, o2, o3, o4⟩ := HMV.out
          have HO := hid o1; have HLM := hid o2; have HTD := hid o3; have HAT := hid o4
          have HML := hid (show M.length ≤ 100000 from by
            have h1 := key_len l j
            rw [HMJ.out] at h1
            omega)
          have HKEY := hid (keyK HI4.out)
          clear o1 o2 o3 o4 hm
          go_wp2_with (first
            | (at_mapUpdate; refine wpList_mapUpdate_own _ rfl _ _ _ 167 rfl 3 4 lawK Tryz.underlying167 _ mb m D rfl HO.out (by have := HLM.out; have := HML.out; unfold maxLen; omega) _ _ (.int .i64 p.a) rfl rfl HKEY.out (.lit (.bool true)) [] (plainElem_bool Tryz.underlying4 true) ?_; intro w5 ho5 hg5; have HO5 := hid ho5; have HG5 := hid hg5; clear ho5 hg5))
          go_roundw
          case rel => exact ⟨j + 1, by go_num, by omega, by rw [HE1.out], hid (by rw [HK1.out]; exact HN1.out), hid (by rw [HK1.out]; exact MtI.put HLM.out HTD.out HAT.out HO5.out), hid (grown_bel HBV.out HG5.out (by have := HMB.out; omega))⟩
          case measure => simp [intOf]; omega
      have h3' : (p.k == 3) = false := beq_eq_false_iff_ne.2 h3
      have HK1 := hid (show (l.take (j + 1)).filterMap keyP2 = M from by
        rw [HK.out]
        unfold keyP2
        rw [if_neg h2, if_neg h3]
        simp)
      clear h2 h3 h5
      go_wp2_with fail
      go_roundw
      case rel => exact ⟨j + 1, by go_num, by omega, by rw [HE1.out], hid (by rw [HK1.out]; exact HN.out), hid (by rw [HK1.out]; exact HMV.out), HBV⟩
      case measure => simp [intOf]; omega
    · have HF := hid (show r = decide (extN (l.take j) ≤ 1) from by
        have hjn : l.take j = l := List.take_of_length_le (by have := HL.out; omega)
        rw [HR.out]
        have := HN.out
        rw [hjn] at this ⊢
        unfold paT
        rw [decide_eq_true this, Bool.true_and])
      generalize extN (l.take j) = ex at *
      go_wp2_with fail
      go_ret
      exact ⟨by rw [HF.out]; simp; omega, HB.out⟩
end Go.Proofs.YtpkijlmkgomfeaaGreatDoor

/- proposals: whether one may be: the closures. -/
namespace Go.Proofs.YtpkijlmkgomfeaaGreatDoor
open Go.RowKit Go.KK Go.Shelf Go.Maps
set_option linter.unusedVariables false
set_option linter.unusedSimpArgs false

/-- The boxes of may. -/
structure MyB (W0 U : World) (sa : Nat) (A : Option Addr) (n c : Nat) (y : Int) (p : PR) (q : Value) (bp bb ba bt bi : Nat) (ob : Obj) : Prop where
  bl : Below W0.heap.size W0 U
  hp : U.heap[bp]? = some (prO p q)
  hb : U.heap[bb]? = some ob
  ha : U.heap[ba]? = some (.cells #[.pointer (some ⟨sa, 0, none⟩)] 26 (0, 0))
  ht : U.heap[bt]? = some (.cells #[.slice A n c] 22 (0, 0))
  hi : U.heap[bi]? = some (.cells #[.int .i64 y] 3 (0, 0))
  lo : W0.heap.size ≤ bb ∧ bp ≠ bb ∧ ba ≠ bb ∧ bt ≠ bb ∧ bi ≠ bb
section
variable {W0 U V : World} {sa : Nat} {A : Option Addr} {n c : Nat} {y : Int} {p : PR} {q : Value} {bp bb ba bt bi : Nat} {ob ob' : Obj}
theorem MyB.mk' (h : MyB W0 U sa A n c y p q bp bb ba bt bi ob) (hl : Below W0.heap.size W0 V) (hk : ∀ b, b < U.heap.size → b ≠ bb → V.heap[b]? = U.heap[b]?) (hb : V.heap[bb]? = some ob') : MyB W0 V sa A n c y p q bp bb ba bt bi ob' := by
  obtain ⟨l0, l1, l2, l3, l4⟩ := h.lo
  have lt : ∀ {b : Nat} {o : Obj}, U.heap[b]? = some o → b < U.heap.size := fun h => (Array.getElem?_eq_some_iff.1 h).1
  exact ⟨hl, (hk _ (lt h.hp) l1).trans h.hp, hb, (hk _ (lt h.ha) l2).trans h.ha, (hk _ (lt h.ht) l3).trans h.ht, (hk _ (lt h.hi) l4).trans h.hi, h.lo⟩
theorem MyB.lt (h : MyB W0 U sa A n c y p q bp bb ba bt bi ob) : bb < U.heap.size := (Array.getElem?_eq_some_iff.1 h.hb).1
theorem MyB.ext (h : MyB W0 U sa A n c y p q bp bb ba bt bi ob) (hb : Below U.heap.size U V) : MyB W0 V sa A n c y p q bp bb ba bt bi ob :=
  h.mk' (h.bl.trans (hb.mono h.bl.size)) (fun b hlt _ => hb.block b hlt) ((hb.block _ h.lt).trans h.hb)
theorem MyB.a0 (h : MyB W0 U sa A n c y p q bp bb ba bt bi ob) : U.cell? ⟨ba, 0, none⟩ = some (.pointer (some ⟨sa, 0, none⟩)) := by rw [cell_of_row _ ba _ _ _ (0, 0) h.ha]; rfl
theorem MyB.t0 (h : MyB W0 U sa A n c y p q bp bb ba bt bi ob) : U.cell? ⟨bt, 0, none⟩ = some (.slice A n c) := by rw [cell_of_row _ bt _ _ _ (0, 0) h.ht]; rfl
theorem MyB.i0 (h : MyB W0 U sa A n c y p q bp bb ba bt bi ob) : U.cell? ⟨bi, 0, none⟩ = some (.int .i64 y) := by rw [cell_of_row _ bi _ _ _ (0, 0) h.hi]; rfl
/-- A cell of the box is stored. -/
theorem MyB.put {cs : Array Value} {T : TypeId} (h : MyB W0 U sa A n c y p q bp bb ba bt bi (.cells cs T (0, 0))) (o : Nat) (v : Value) : MyB W0 (U.setCell ⟨bb, o, none⟩ v) sa A n c y p q bp bb ba bt bi (.cells (cs.setIfInBounds o v) T (0, 0)) :=
  h.mk' (h.bl.setCell (p := ⟨bb, o, none⟩) h.lo.1 v) (fun b hlt hne => Below.heap_setCell U ⟨bb, o, none⟩ v b (fun e => hne (by simpa using e))) (by rw [heap_setCell_same U bb o _ _ _ h.hb])
end
section
variable {W0 U : World} {sa : Nat} {X : List ND} {A : Option Addr} {n c : Nat} {xs : List TN} {y : Int} {p : PR} {bp bb ba bt bi : Nat} {Ap : Option Addr} {cp : Nat}
def bareO (p : PR) : Obj := prO ⟨p.k, p.f, tn0, 0, 0⟩ (.slice none 0 0)
def leafO (p : PR) (q : Value) : Obj := prO ⟨p.k, p.f, p.n, 0, 0⟩ q
def atO (p : PR) : Obj := prO ⟨p.k, p.f, tn0, p.a, 0⟩ (.slice none 0 0)
def trmO (p : PR) : Obj := prO ⟨p.k, p.f, tn0, 0, p.t⟩ (.slice none 0 0)
theorem MyB.leaf (h : MyB W0 U sa A n c y p (.slice Ap p.n.u.length cp) bp bb ba bt bi (bareO p)) : MyB W0 ((((((U.setCell ⟨bb, 2, none⟩ (.int .i64 p.n.k)).setCell ⟨bb, 3, none⟩ (.int .i64 p.n.i)).setCell ⟨bb, 4, none⟩ (.int .i64 p.n.e)).setCell ⟨bb, 5, none⟩ (.int .i64 p.n.s)).setCell ⟨bb, 6, none⟩ (.int .i64 p.n.h)).setCell ⟨bb, 7, none⟩ (.slice Ap p.n.u.length cp)) sa A n c y p (.slice Ap p.n.u.length cp) bp bb ba bt bi (leafO p (.slice Ap p.n.u.length cp)) :=
  (((((h.put 2 (.int .i64 p.n.k)).put 3 (.int .i64 p.n.i)).put 4 (.int .i64 p.n.e)).put 5 (.int .i64 p.n.s)).put 6 (.int .i64 p.n.h)).put 7 (.slice Ap p.n.u.length cp)
set_option maxHeartbeats 4000000 in
set_option maxRecDepth 100000 in
theorem my1_any (h : MyB W0 U sa A n c y p (.slice Ap p.n.u.length cp) bp bb ba bt bi (bareO p)) (hA : ArV W0 151 sa X) :
    Calls Tryz.prog 105 #[.pointer (some ⟨bp, 0, none⟩), .pointer (some ⟨bb, 0, none⟩), .pointer (some ⟨ba, 0, none⟩)] U fun e w' => e = .returned (.bool (paL X p.n)) ∧ MyB W0 w' sa A n c y p (.slice Ap p.n.u.length cp) bp bb ba bt bi (leafO p (.slice Ap p.n.u.length cp)) := by
  have H := hid h
  obtain ⟨x0, x1, x2, x3, x4, x5, x6, x7, x8, x9⟩ := prA10 h.hp
  have fz := fun i => frozen_of_row U bb i _ _ h.hb
  have f2 := fz 2; have f3 := fz 3; have f4 := fz 4; have f5 := fz 5; have f6 := fz 6; have f7 := fz 7
  have hb := h.hb
  unfold bareO prO at hb
  have y2 := cell_of_row U bb 2 _ _ (0, 0) hb
  have y3 := cell_of_row U bb 3 _ _ (0, 0) hb
  have y4 := cell_of_row U bb 4 _ _ (0, 0) hb
  have y5 := cell_of_row U bb 5 _ _ (0, 0) hb
  have y6 := cell_of_row U bb 6 _ _ (0, 0) hb
  have y7 := cell_of_row U bb 7 _ _ (0, 0) hb
  have HP := hid h.leaf
  have HA := hid hA
  obtain ⟨r, hr⟩ : ∃ r, r = paL X p.n := ⟨_, rfl⟩
  have HR := hid hr
  rw [← hr]
  clear h hb fz hA hr
  go_enter Tryz.func105, Tryz.ntmps105
  go_upto_region 2 with fail
  refine forget (R := fun V => MyB W0 V sa A n c y p (.slice Ap p.n.u.length cp) bp bb ba bt bi (leafO p (.slice Ap p.n.u.length cp))) ?_ HP.out
  clear HP x0 x1 x2 x3 x4 x5 x6 x7 x8 x9 y2 y3 y4 y5 y6 y7 f2 f3 f4 f5 f6 f7 H
  intro V h
  have H := hid h
  have HC := hid (pleaf_any (HA.out.ext h.bl) p.n (A := Ap) (c := cp))
  have a0 := h.a0
  obtain ⟨x0, x1, x2, x3, x4, x5, x6, x7, x8, x9⟩ := prA10 h.hp
  unfold tnV at HC
  clear h
  rw [← HR.out] at HC
  go_wp2_with fail
  refine HC.out.mono ?_
  rintro e w7 ⟨rfl, b7⟩
  have H7 := hid (H.out.ext b7)
  clear b7 HC
  go_wp2_with fail
  go_ret
  exact ⟨rfl, H7.out⟩
set_option maxHeartbeats 4000000 in
set_option maxRecDepth 100000 in
theorem my2_any (h : MyB W0 U sa A n c y p (.slice Ap p.n.u.length cp) bp bb ba bt bi (bareO p)) (hA : ArV W0 151 sa X) :
    Calls Tryz.prog 107 #[.pointer (some ⟨bp, 0, none⟩), .pointer (some ⟨bb, 0, none⟩), .pointer (some ⟨ba, 0, none⟩), .pointer (some ⟨bi, 0, none⟩)] U fun e w' => e = .returned (.bool (paL X p.n && p.f != y)) ∧ MyB W0 w' sa A n c y p (.slice Ap p.n.u.length cp) bp bb ba bt bi (leafO p (.slice Ap p.n.u.length cp)) := by
  have H := hid h
  obtain ⟨x0, x1, x2, x3, x4, x5, x6, x7, x8, x9⟩ := prA10 h.hp
  have fz := fun i => frozen_of_row U bb i _ _ h.hb
  have f2 := fz 2; have f3 := fz 3; have f4 := fz 4; have f5 := fz 5; have f6 := fz 6; have f7 := fz 7
  have hb := h.hb
  unfold bareO prO at hb
  have y2 := cell_of_row U bb 2 _ _ (0, 0) hb
  have y3 := cell_of_row U bb 3 _ _ (0, 0) hb
  have y4 := cell_of_row U bb 4 _ _ (0, 0) hb
  have y5 := cell_of_row U bb 5 _ _ (0, 0) hb
  have y6 := cell_of_row U bb 6 _ _ (0, 0) hb
  have y7 := cell_of_row U bb 7 _ _ (0, 0) hb
  have HP := hid h.leaf
  have HA := hid hA
  obtain ⟨r, hr⟩ : ∃ r, r = (paL X p.n && p.f != y) := ⟨_, rfl⟩
  have HR := hid hr
  rw [← hr]
  clear h hb fz hA hr
  go_enter Tryz.func107, Tryz.ntmps107
  go_upto_region 2 with fail
  refine forget (R := fun V => MyB W0 V sa A n c y p (.slice Ap p.n.u.length cp) bp bb ba bt bi (leafO p (.slice Ap p.n.u.length cp))) ?_ HP.out
  clear HP x0 x1 x2 x3 x4 x5 x6 x7 x8 x9 y2 y3 y4 y5 y6 y7 f2 f3 f4 f5 f6 f7 H
  intro V h
  have H := hid h
  have HC := hid (pleaf_any (HA.out.ext h.bl) p.n (A := Ap) (c := cp))
  have a0 := h.a0
  obtain ⟨x0, x1, x2, x3, x4, x5, x6, x7, x8, x9⟩ := prA10 h.hp
  unfold tnV at HC
  clear h
  rcases hl : paL X p.n with _ | _
  · have HE := hid (show r = false from by rw [HR.out, hl]; rfl)
    rw [hl] at HC
    clear hl
    go_wp2_with fail
    refine HC.out.mono ?_
    rintro e w7 ⟨rfl, b7⟩
    have H7 := hid (H.out.ext b7)
    clear b7 HC
    go_wp2_with fail
    go_ret
    exact ⟨by first | rfl | (rw [HE.out]; try rfl), H7.out⟩
  · have HE := hid (show r = (p.f != y) from by rw [HR.out, hl, Bool.true_and])
    rw [hl] at HC
    clear hl
    go_wp2_with fail
    refine HC.out.mono ?_
    rintro e w7 ⟨rfl, b7⟩
    have H7 := hid (H.out.ext b7)
    obtain ⟨z0, z1, z2, z3, z4, z5, z6, z7, z8, z9⟩ := prA10 H7.out.hp
    have i0 := H7.out.i0
    clear b7 HC
    rcases hne : (p.f != y) with _ | _
    · go_wp2_with fail
      go_ret
      exact ⟨by rw [HE.out, hne]; rfl, H7.out⟩
    · go_wp2_with fail
      go_ret
      exact ⟨by rw [HE.out, hne]; rfl, H7.out⟩
set_option maxHeartbeats 4000000 in
set_option maxRecDepth 100000 in
theorem my3_any (h : MyB W0 U sa A n c y p (.slice Ap p.n.u.length cp) bp bb ba bt bi (bareO p)) (hA : Tr W0 A n c xs) (hn : n ≤ 600) :
    Calls Tryz.prog 108 #[.pointer (some ⟨bp, 0, none⟩), .pointer (some ⟨bb, 0, none⟩), .pointer (some ⟨bt, 0, none⟩), .pointer (some ⟨bi, 0, none⟩)] U fun e w' => e = .returned (.bool (pres xs p.a && p.a != y)) ∧ MyB W0 w' sa A n c y p (.slice Ap p.n.u.length cp) bp bb ba bt bi (atO p) := by
  have H := hid h
  obtain ⟨x0, x1, x2, x3, x4, x5, x6, x7, x8, x9⟩ := prA10 h.hp
  have fz := frozen_of_row U bb 8 _ _ h.hb
  have hb := h.hb
  unfold bareO prO at hb
  have y8 := cell_of_row U bb 8 _ _ (0, 0) hb
  have HP := hid (show MyB W0 (U.setCell ⟨bb, 8, none⟩ (.int .i64 p.a)) sa A n c y p (.slice Ap p.n.u.length cp) bp bb ba bt bi (atO p) from h.put 8 (.int .i64 p.a))
  have HA := hid hA
  obtain ⟨r, hr⟩ : ∃ r, r = (pres xs p.a && p.a != y) := ⟨_, rfl⟩
  have HR := hid hr
  rw [← hr]
  clear h hb hA hr
  go_enter Tryz.func108, Tryz.ntmps108
  go_upto_region 2 with fail
  refine forget (R := fun V => MyB W0 V sa A n c y p (.slice Ap p.n.u.length cp) bp bb ba bt bi (atO p)) ?_ HP.out
  clear HP x0 x1 x2 x3 x4 x5 x6 x7 x8 x9 y8 fz H
  intro V h
  have H := hid h
  have a0 := h.a0; have t0 := h.t0
  obtain ⟨x0, x1, x2, x3, x4, x5, x6, x7, x8, x9⟩ := prA10 h.hp
  have HC := hid (pmember_any (HA.out.ext h.bl) hn p.a)
  clear h
  rcases hl : pres xs p.a with _ | _
  · have HE := hid (show r = false from by rw [HR.out, hl]; rfl)
    rw [hl] at HC
    clear hl
    go_wp2_with fail
    refine HC.out.mono ?_
    rintro e w7 ⟨rfl, b7⟩
    have b7' := b7.symm
    clear b7
    subst b7'
    clear HC
    go_wp2_with fail
    go_ret
    exact ⟨by first | rfl | (rw [HE.out]; try rfl), H.out⟩
  · have HE := hid (show r = (p.a != y) from by rw [HR.out, hl, Bool.true_and])
    rw [hl] at HC
    clear hl
    have i0 := H.out.i0
    go_wp2_with fail
    refine HC.out.mono ?_
    rintro e w7 ⟨rfl, b7⟩
    have b7' := b7.symm
    clear b7
    subst b7'
    clear HC
    rcases hne : (p.a != y) with _ | _
    · go_wp2_with fail
      go_ret
      exact ⟨by rw [HE.out, hne]; rfl, H.out⟩
    · go_wp2_with fail
      go_ret
      exact ⟨by rw [HE.out, hne]; rfl, H.out⟩
set_option maxHeartbeats 4000000 in
set_option maxRecDepth 100000 in
theorem my4_any (h : MyB W0 U sa A n c y p (.slice Ap p.n.u.length cp) bp bb ba bt bi (bareO p)) (hA : ArV W0 151 sa X) :
    Calls Tryz.prog 109 #[.pointer (some ⟨bp, 0, none⟩), .pointer (some ⟨bb, 0, none⟩), .pointer (some ⟨ba, 0, none⟩)] U fun e w' => e = .returned (.bool ([p.t].all (hasB X))) ∧ MyB W0 w' sa A n c y p (.slice Ap p.n.u.length cp) bp bb ba bt bi (trmO p) := by
  have H := hid h
  obtain ⟨x0, x1, x2, x3, x4, x5, x6, x7, x8, x9⟩ := prA10 h.hp
  have fz := frozen_of_row U bb 9 _ _ h.hb
  have hb := h.hb
  unfold bareO prO at hb
  have y8 := cell_of_row U bb 9 _ _ (0, 0) hb
  have HP := hid (show MyB W0 (U.setCell ⟨bb, 9, none⟩ (.int .i64 p.t)) sa A n c y p (.slice Ap p.n.u.length cp) bp bb ba bt bi (trmO p) from h.put 9 (.int .i64 p.t))
  have HA := hid hA
  obtain ⟨r, hr⟩ : ∃ r, r = ([p.t].all (hasB X)) := ⟨_, rfl⟩
  have HR := hid hr
  rw [← hr]
  clear h hb hA hr
  go_enter Tryz.func109, Tryz.ntmps109
  go_upto_region 2 with fail
  refine forget (R := fun V => MyB W0 V sa A n c y p (.slice Ap p.n.u.length cp) bp bb ba bt bi (trmO p)) ?_ HP.out
  clear HP x0 x1 x2 x3 x4 x5 x6 x7 x8 x9 y8 fz H
  intro V h
  have H := hid h
  have a0 := h.a0; have t0 := h.t0
  obtain ⟨x0, x1, x2, x3, x4, x5, x6, x7, x8, x9⟩ := prA10 h.hp
  have B1 := hid ((Below.refl V.heap.size V).alloc (Nat.le_refl _) (.cells #[.int .i64 p.t] 3))
  have HC := hid (pknown_any ((HA.out.ext h.bl).ext B1.out) (l := [p.t]) (SlA.lit1 _) (by omega))
  rw [← HR.out] at HC
  clear h
  go_wp2_with fail
  refine HC.out.mono ?_
  rintro e w7 ⟨rfl, b7⟩
  have H7 := hid (H.out.ext (B1.out.trans (b7.mono B1.out.size)))
  clear b7 HC
  go_wp2_with fail
  go_ret
  exact ⟨rfl, H7.out⟩
end
end Go.Proofs.YtpkijlmkgomfeaaGreatDoor

