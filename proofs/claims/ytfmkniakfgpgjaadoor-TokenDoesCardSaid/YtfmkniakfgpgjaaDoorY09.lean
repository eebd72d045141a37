import Derived.Test.YtfmkniakfgpgjaaDoorY08
import Derived.Maps.OwnOps
import Derived.Deep.DeepCutAuto
import Derived.Test.YtfmkniakfgpgjaaDoorY05
import Derived.Test.YtfmkniakfgpgjaaDoorY04
import Derived.Test.YtfmkniakfgpgjaaDoorY02
import Derived.Maps.Own
import Derived.Maps.Views
import Derived.WideKeyPair
import Derived.Deep.LoopGhost
import Derived.StillTailTactics
/- plain: TokenOnce: a round of issuing, and of spending. -/
namespace Go.Proofs.YtfmkniakfgpgjaaDoor
open Go.RowKit Go.KK Go.Shelf Go.Maps
set_option linter.unusedVariables false
set_option linter.unusedSimpArgs false

/-- The law's arena behind i rounds. -/
structure OX (xs : List ND) (i : Nat) : Prop where
  ok : Okay xs
  ln : 12 ≤ xs.length ∧ xs.length ≤ 12 + 5 * i
  at' : ∀ n : Int, atN n ∈ xs → n < 12 ∨ (1000 ≤ n ∧ n < 1000 + i) ∨ (2000 ≤ n ∧ n < 2000 + i)
theorem has_iff {xs : List ND} {t : Int} : hasB xs t = true ↔ 0 ≤ t ∧ t < xs.length := by
  unfold hasB
  rw [Bool.and_eq_true, decide_eq_true_eq, decide_eq_true_eq]
theorem at_snoc {xs : List ND} {x : ND} : (xs ++ [x])[xs.length]? = some x := by simp
theorem nodeF_at {xs : List ND} {k : Nat} {x : ND} (h : xs[k]? = some x) : nodeF xs (k : Int) = x := by
  have hl := (List.getElem?_eq_some_iff.1 h).1
  unfold nodeF
  rw [has_iff.2 ⟨by omega, by omega⟩, if_pos rfl, Int.toNat_natCast, List.getD_eq_getElem?_getD, h]
  rfl
/-- The round's nodes. -/
def oxA (xs : List ND) (i : Nat) : List ND := xs ++ [atN (1000 + (i : Int))]
def oxB (xs : List ND) (i : Nat) : List ND := oxA xs i ++ [atN (2000 + (i : Int))]
def oxC (xs : List ND) (i : Nat) : List ND := oxB xs i ++ [ndN 12 [(xs.length : Nat), ((xs.length + 1 : Nat) : Int)]]
def oxD (xs : List ND) (i : Nat) : List ND := oxC xs i ++ [ndN 10 [0, ((xs.length + 2 : Nat) : Int)]]
def oxE (xs : List ND) (i : Nat) : List ND := oxD xs i ++ [ndN 10 [0, (xs.length : Nat)]]
section
variable {xs : List ND} {i : Nat}
theorem lnA : (oxA xs i).length = xs.length + 1 := by simp [oxA]
theorem lnB : (oxB xs i).length = xs.length + 2 := by simp [oxB, lnA]
theorem lnC : (oxC xs i).length = xs.length + 3 := by simp [oxC, lnB]
theorem lnD : (oxD xs i).length = xs.length + 4 := by simp [oxD, lnC]
theorem lnE : (oxE xs i).length = xs.length + 5 := by simp [oxE, lnD]
theorem atE : (oxE xs i)[xs.length + 4]? = some (ndN 10 [0, (xs.length : Nat)]) := by
  have := @at_snoc (oxD xs i) (ndN 10 [0, (xs.length : Nat)])
  rw [lnD] at this
  exact this
end
/-- The tokens that there are. -/
structure TK (xs : List ND) (ns ts : List Int) : Prop where
  ln : ts.length = ns.length
  r : ns.Pairwise (· < ·)
  n : ∀ a ∈ ns, 0 ≤ a ∧ a < xs.length
  t : ∀ (j : Nat) a b, ns[j]? = some a → ts[j]? = some b → hasB xs b = true ∧ nodeF xs b = ndN 10 [0, a]
theorem nodeF_app {xs : List ND} (l : List ND) {t : Int} (h : hasB xs t = true) : nodeF (xs ++ l) t = nodeF xs t := by
  have h' := has_iff.1 h
  unfold nodeF
  rw [h, has_iff.2 (show 0 ≤ t ∧ t < ((xs ++ l).length : Nat) by rw [List.length_append]; omega), if_pos rfl, if_pos rfl, List.getD_eq_getElem?_getD, List.getD_eq_getElem?_getD, List.getElem?_append_left (by omega)]
theorem has_app {xs : List ND} (l : List ND) {t : Int} (h : hasB xs t = true) : hasB (xs ++ l) t = true := by
  have h' := has_iff.1 h
  exact has_iff.2 (by rw [List.length_append]; omega)
theorem TK.app {xs : List ND} {ns ts : List Int} (h : TK xs ns ts) (l : List ND) : TK (xs ++ l) ns ts :=
  ⟨h.ln, h.r, fun a ha => by have := h.n a ha; rw [List.length_append]; omega, fun j a b h1 h2 => by
    obtain ⟨e1, e2⟩ := h.t j a b h1 h2
    exact ⟨has_app l e1, by rw [nodeF_app l e1, e2]⟩⟩
theorem TK.snoc {xs : List ND} {ns ts : List Int} (h : TK xs ns ts) (i : Nat) : TK (oxE xs i) (ns ++ [((xs.length : Nat) : Int)]) (ts ++ [((xs.length + 4 : Nat) : Int)]) := by
  have lE : (oxE xs i).length = xs.length + 5 := lnE
  have hE : ∃ l, oxE xs i = xs ++ l := ⟨[atN (1000 + (i : Int))] ++ ([atN (2000 + (i : Int))] ++ ([ndN 12 [(xs.length : Nat), ((xs.length + 1 : Nat) : Int)]] ++ ([ndN 10 [0, ((xs.length + 2 : Nat) : Int)]] ++ [ndN 10 [0, (xs.length : Nat)]]))), by unfold oxE oxD oxC oxB oxA; simp only [List.append_assoc]⟩
  obtain ⟨l, hl⟩ := hE
  refine ⟨by simp [h.ln], ?_, fun a ha => ?_, fun j a b h1 h2 => ?_⟩
  · rw [List.pairwise_append]
    exact ⟨h.r, by simp, fun a ha b hb => by rw [List.mem_singleton] at hb; subst hb; exact (h.n a ha).2⟩
  · rcases List.mem_append.1 ha with ha | ha
    · have := h.n a ha; omega
    · rw [List.mem_singleton] at ha; subst ha; omega
  · rcases Nat.lt_or_ge j ns.length with hj | hj
    · rw [List.getElem?_append_left hj] at h1
      rw [List.getElem?_append_left (by rw [h.ln]; exact hj)] at h2
      rw [hl]
      exact (h.app l).t j a b h1 h2
    · rw [List.getElem?_append_right hj] at h1
      rw [List.getElem?_append_right (by rw [h.ln]; exact hj), h.ln] at h2
      rcases hk : j - ns.length with _ | k
      · rw [hk] at h1 h2
        injection h1 with h1; injection h2 with h2
        subst h1; subst h2
        exact ⟨has_iff.2 (by omega), nodeF_at atE⟩
      · rw [hk] at h1; simp at h1
theorem lbI_all {p : List Int} {x : Int} (h : ∀ a ∈ p, a < x) : lbI p x = p.length := by
  unfold lbI
  rw [List.countP_eq_length]
  intro a ha
  have := h a ha
  simpa using this
end Go.Proofs.YtfmkniakfgpgjaaDoor

/- token's laws: what is carried (without TokenCounts). -/
namespace Go.Proofs.YtfmkniakfgpgjaaDoor
open Go.RowKit Go.KK Go.Shelf Go.Maps
set_option linter.unusedVariables false
set_option linter.unusedSimpArgs false

/-- A fact of the arena stays, where nothing of its own has turned. -/
theorem LA.turn {w0 W W' : World} {Z F : Nat → Prop} {sa : Nat} {xs : List ND} (h : LA w0 W Z sa xs) (ht : Turn F W W') (hd : ∀ b, Z b → ¬ F b) (hf : ∀ b, F b → w0.heap.size ≤ b) : LA w0 W' Z sa xs :=
  ⟨h.ar.turn ht hd, h.z, h.bl.trans (ht.below hf h.bl.size)⟩
theorem SlZ.far {W W' : World} {Z F : Nat → Prop} {size : Nat} {A : Option Addr} {n c : Nat} {cs : List Value} (h : SlZ W Z size A n c cs) (ht : Turn F W W') (hn : ∀ b o, A = some ⟨b, o, none⟩ → ¬ F b) : SlZ W' Z size A n c cs := by
  refine ⟨⟨h.1.nc, h.1.cm, h.1.len, fun j u hj => ?_⟩, h.2⟩
  obtain ⟨b, off, rfl, hc⟩ := h.1.cells j u hj
  refine ⟨b, off, rfl, ?_⟩
  rw [World.cell?_of_block (a := ⟨b, off + j, none⟩) (ht.block b (block_lt_of_cell hc) (hn b off rfl))]
  exact hc
theorem MB.turn {W W' : World} {Z F : Nat → Prop} {b0 bm : Nat} {m : MT} {g p : Value} (h : MB W Z b0 bm m g p) (ht : Turn F W W') (h1 : ¬ F bm) (h2 : ∀ b, g.ownBlock = some b ∨ p.ownBlock = some b → ¬ F b) : MB W' Z b0 bm m g p := by
  refine ⟨own_block h.row fun b hb => ht.block b (h.row.lt b hb).2 (by injection hb with hb; simp only at hb; rw [← hb]; exact h1), ?_, h.nz⟩
  obtain ⟨Ag, cg, Ap, cp, rfl, rfl, s1, s2⟩ := h.mt
  exact ⟨Ag, cg, Ap, cp, rfl, rfl, s1.far ht fun b o e => h2 b (.inl (by subst e; rfl)), s2.far ht fun b o e => h2 b (.inr (by subst e; rfl))⟩
theorem map_lt {P : Program} {K : TypeId} {R : Value → Option (MD × List MemPlace)} {w : World} {mb n : Nat} {D : MD} (h : w.ownsMap P K R mb n D) : mb < w.heap.size := by
  obtain ⟨es, clock, h1, h2⟩ := h
  exact (Array.getElem?_eq_some_iff.1 h1).1
theorem MB.lt {W : World} {Z : Nat → Prop} {b0 bm : Nat} {m : MT} {g p : Value} (h : MB W Z b0 bm m g p) : b0 ≤ bm ∧ bm < W.heap.size := h.row.lt bm rfl
/-- The arena, a mint in its variable, a map of numbers. -/
structure C3 (w wr : World) (sa bm mb : Nat) (X : List ND) (Z : Nat → Prop) (m : MT) (gv pv : Value) (k : Nat) (D : MD) : Prop where
  la : LA w wr Z sa X
  m : MB wr Z w.heap.size bm m gv pv
  o : wr.ownsMap Tryd.prog 3 (plainElem Tryd.prog 3) mb k D
  nz : ¬ Z mb
  ne : mb ≠ bm
  nb : ∀ b, gv.ownBlock = some b ∨ pv.ownBlock = some b → b ≠ mb
  mb0 : w.heap.size ≤ mb
section
variable {w wr W : World} {sa bm mb k : Nat} {X X' : List ND} {Z Z' : Nat → Prop} {m m' : MT} {gv pv gv' pv' : Value} {D D' : MD}
theorem C3.ext (h : C3 w wr sa bm mb X Z m gv pv k D) (hb : Below wr.heap.size wr W) : C3 w W sa bm mb X Z m gv pv k D :=
  ⟨h.la.ext hb, h.m.ext hb, map_block h.o (hb.block mb (map_lt h.o)), h.nz, h.ne, h.nb, h.mb0⟩
theorem C3.mv (h : C3 w wr sa bm mb X Z m gv pv k D) (hl : LA w W Z' sa X') (hv : Mv Z wr Z' W) : C3 w W sa bm mb X' Z' m gv pv k D :=
  ⟨hl, h.m.mv hv, map_block h.o (hv.t.block mb (map_lt h.o) h.nz), fun hz => (hv.n mb hz).elim h.nz fun h' => by have := map_lt h.o; omega, h.ne, h.nb, h.mb0⟩
/-- The new mint is laid into the variable. -/
theorem C3.put (h : C3 w wr sa bm mb X Z m gv pv k D) (hm : MtR wr Z m' gv' pv') (hn : ∀ b, gv'.ownBlock = some b ∨ pv'.ownBlock = some b → b ≠ bm ∧ b ≠ mb) : C3 w (put4 wr bm m' gv' pv') sa bm mb X Z m' gv' pv' k D :=
  ⟨h.la.put h.m.nz h.m.lt.1, h.m.put hm fun b hb => (hn b hb).1, map_put h.o h.ne, h.nz, h.ne, fun b hb => (hn b hb).2, h.mb0⟩
end
end Go.Proofs.YtfmkniakfgpgjaaDoor

/- term: what is carried from call to call: an arena, a row of numbers. -/
namespace Go.Proofs.YtfmkniakfgpgjaaDoor
open Go.RowKit Go.KK Go.Shelf Go.Maps
set_option linter.unusedVariables false
set_option linter.unusedSimpArgs false

section
variable {w0 W W' : World} {Z Z' : Nat → Prop} {sa : Nat} {xs xs' : List ND}
end
/-- A row of numbers of the call's own. -/
abbrev RowI (W : World) (b0 : Nat) (v : Value) (l : List Int) : Prop := W.ownsRow b0 3 1 v l.length (l.map (.int .i64))
/-- The arena and a row. -/
structure T1 (w W : World) (sa : Nat) (Z : Nat → Prop) (X : List ND) (nv : Value) (ns : List Int) : Prop where
  la : LA w W Z sa X
  nr : RowI W w.heap.size nv ns
  na : ∀ b, nv.ownBlock = some b → ¬ Z b
section
variable {w W W' : World} {sa : Nat} {Z Z' : Nat → Prop} {X X' : List ND} {nv : Value} {ns : List Int}
theorem T1.ext (h : T1 w W sa Z X nv ns) (hb : Below W.heap.size W W') : T1 w W' sa Z X nv ns := ⟨h.la.ext hb, own_ext h.nr hb, h.na⟩
theorem T1.mv (h : T1 w W sa Z X nv ns) (hl : LA w W' Z' sa X') (hv : Mv Z W Z' W') : T1 w W' sa Z' X' nv ns where
  la := hl
  nr := own_block h.nr fun b hb => hv.t.block b (h.nr.lt b hb).2 (h.na b hb)
  na := fun b hb hz => (hv.n b hz).elim (h.na b hb) fun h' => by have := (h.nr.lt b hb).2; omega
theorem T1.app (h : T1 w W sa Z X nv ns) {nv' : Value} {ns' : List Int} (hn : RowI W' w.heap.size nv' ns') (hg : W.grownBy W' nv.ownBlock) (hl : nv'.ownBlock = nv.ownBlock ∨ nv'.ownBlock = some W.heap.size) : T1 w W' sa Z X nv' ns' := by
  have ht : Turn (fun b => nv.ownBlock = some b) W W' := Turn.grown hg fun b hb => .inl hb
  refine ⟨⟨h.la.ar.turn ht (fun b hz e => h.na b e hz), h.la.z, h.la.bl.trans (ht.below (fun b e => (h.nr.lt b e).1) h.la.sz)⟩, hn, fun b hb => ?_⟩
  rcases hl with hl | hl
  · exact h.na b (hl ▸ hb)
  · rw [hl] at hb
    injection hb with hb
    subst hb
    intro hz
    have := h.la.ar.zlt _ hz
    omega
end
end Go.Proofs.YtfmkniakfgpgjaaDoor

/- term: Show (without a law's live). -/
namespace Go.Proofs.YtfmkniakfgpgjaaDoor
open Go.RowKit Go.KK Go.Shelf Go.Maps
set_option linter.unusedVariables false
set_option linter.unusedSimpArgs false

section
variable {w0 W : World} {Z : Nat → Prop} {sa : Nat} {xs : List ND}
end
end Go.Proofs.YtfmkniakfgpgjaaDoor

/- plain: texts' nodes, a node made twice (of TermShort's plain text, without its atoms). -/
namespace Go.KK
open Go.RowKit
set_option linter.unusedVariables false
set_option linter.unusedSimpArgs false

/-- A text's node. -/
def txN (s : ByteArray) : ND := ⟨2, 0, s, []⟩
theorem makI_b {xs : List ND} (h : xs.length ≤ 100000) (x : ND) : 0 ≤ makI xs x ∧ makI xs x ≤ 100000 := by
  unfold makI
  split
  · split
    · rename_i hx
      have := List.idxOf_lt_length_of_mem hx
      omega
    · split <;> omega
  · omega
end Go.KK

/- plain: layers 4 and 11: secrets in words of makes; what was made once is made again. -/
namespace Go.KK
open Go.RowKit
set_option linter.unusedVariables false
set_option linter.unusedSimpArgs false

/-- A step: the arena, the number, the error. -/
abbrev Rs := List ND × Int × Int
/-- A number's node. -/
def At (X : List ND) (i : Int) (x : ND) : Prop := 0 ≤ i ∧ X[i.toNat]? = some x
theorem At.ext {X : List ND} {i : Int} {x : ND} (h : At X i x) (m : List ND) : At (X ++ m) i x :=
  ⟨h.1, by rw [List.getElem?_append_left (List.getElem?_eq_some_iff.1 h.2).1]; exact h.2⟩
theorem At.eq {X : List ND} {i : Int} {x y : ND} (h : At X i x) (k : At X i y) : x = y := by
  have := h.2.symm.trans k.2
  injection this
theorem At.has {X : List ND} {i : Int} {x : ND} (h : At X i x) : hasB X i = true := by
  have hi := (List.getElem?_eq_some_iff.1 h.2).1
  have := h.1
  exact Go.KK.has_iff.2 ⟨h.1, by omega⟩
theorem mk_at {xs : List ND} {x : ND} (h : makE xs x = 0) : At (makT xs x) (makI xs x) x ∧ mayB (makT xs x) x = true := by
  unfold makE at h
  by_cases hm : mayB xs x = true
  · rw [if_pos hm] at h
    by_cases hx : x ∈ xs
    · have e : makT xs x = xs := by unfold makT; rw [if_pos hm, if_pos hx]
      have ei : makI xs x = ((xs.idxOf x : Nat) : Int) := by unfold makI; rw [if_pos hm, if_pos hx]
      rw [e, ei]
      exact ⟨⟨by omega, by rw [Int.toNat_natCast]; exact idxOf_get hx⟩, hm⟩
    · rw [if_neg hx] at h
      by_cases hl : 100000 ≤ xs.length
      · rw [if_pos hl] at h; cases h
      · have e : makT xs x = xs ++ [x] := by unfold makT; rw [if_pos hm, if_neg hx, if_neg hl]
        have ei : makI xs x = ((xs.length : Nat) : Int) := by unfold makI; rw [if_pos hm, if_neg hx, if_neg hl]
        rw [e, ei]
        exact ⟨⟨by omega, by rw [Int.toNat_natCast, List.getElem?_append_right (Nat.le_refl _), Nat.sub_self]; rfl⟩, may_app [x] hm⟩
  · rw [if_neg hm] at h; cases h
/-- A step that goes on an arena, and that an arena which went on takes again as it was. -/
structure Sb (F : List ND → Rs) : Prop where
  ext : ∀ xs, ∃ m, (F xs).1 = xs ++ m
  fix : ∀ xs m, Okay ((F xs).1 ++ m) → (F xs).2.2 = 0 → F ((F xs).1 ++ m) = ((F xs).1 ++ m, (F xs).2.1, 0)
  has : ∀ xs, (F xs).2.2 = 0 → hasB (F xs).1 (F xs).2.1 = true
  ok : ∀ xs, Okay xs → Okay (F xs).1
/-- A secret that was derived: of which one, with which label and context. -/
def KeyAt (X : List ND) (i s : Int) (lab : ByteArray) (c : Int) : Prop := ∃ t, At X t (txN lab) ∧ At X i (ndN 6 [s, t, c])
def DvAt (X : List ND) (i s : Int) (lab : ByteArray) : Prop := ∃ n, At X n (ndN 3 []) ∧ KeyAt X i s lab n
theorem KeyAt.ext {X : List ND} {i s c : Int} {lab : ByteArray} (h : KeyAt X i s lab c) (m : List ND) : KeyAt (X ++ m) i s lab c := by
  obtain ⟨t, h1, h2⟩ := h; exact ⟨t, h1.ext m, h2.ext m⟩
theorem DvAt.ext {X : List ND} {i s : Int} {lab : ByteArray} (h : DvAt X i s lab) (m : List ND) : DvAt (X ++ m) i s lab := by
  obtain ⟨n, h1, h2⟩ := h; exact ⟨n, h1.ext m, h2.ext m⟩
theorem KeyAt.eq {X : List ND} {i s s' c c' : Int} {lab lab' : ByteArray} (h : KeyAt X i s lab c) (k : KeyAt X i s' lab' c') : s = s' ∧ lab = lab' ∧ c = c' := by
  obtain ⟨t, h1, h2⟩ := h; obtain ⟨t', k1, k2⟩ := k
  have e := h2.eq k2
  unfold ndN at e
  simp only [ND.mk.injEq, List.cons.injEq, true_and, and_true] at e
  obtain ⟨e1, e2, e3⟩ := e
  subst e2
  have e4 := h1.eq k1
  unfold txN at e4
  simp only [ND.mk.injEq, true_and, and_true] at e4
  exact ⟨e1, e4, e3⟩
theorem DvAt.eq {X : List ND} {i s s' : Int} {lab lab' : ByteArray} (h : DvAt X i s lab) (k : DvAt X i s' lab') : s = s' ∧ lab = lab' := by
  obtain ⟨n, -, h2⟩ := h; obtain ⟨n', -, k2⟩ := k
  have e := h2.eq k2
  exact ⟨e.1, e.2.1⟩
theorem mk_at' {xs : List ND} {x : ND} (h : (mk xs x).2.2 = 0) : At (mk xs x).1 (mk xs x).2.1 x := (mk_at h).1
/-- What shared secrets in one are. -/
inductive PskAt (X : List ND) : Int → List Int → Prop
  | nil {i : Int} (h : At X i (txN ⟨#[]⟩)) : PskAt X i []
  | snoc {i p s : Int} {l : List Int} (hp : PskAt X p l) (h : At X i (ndN 5 [p, s])) : PskAt X i (l ++ [s])
theorem PskAt.ext {X : List ND} {i : Int} {l : List Int} (h : PskAt X i l) (m : List ND) : PskAt (X ++ m) i l := by
  induction h with
  | nil h => exact .nil (h.ext m)
  | snoc _ h ih => exact .snoc ih (h.ext m)
theorem PskAt.eq {X : List ND} {i : Int} {l l' : List Int} (h : PskAt X i l) (k : PskAt X i l') : l = l' := by
  induction h generalizing l' with
  | nil h =>
    cases k with
    | nil _ => rfl
    | snoc hp h' => have := h.eq h'; unfold txN ndN at this; simp at this
  | snoc hp h ih =>
    cases k with
    | nil h' => have := h.eq h'; unfold txN ndN at this; simp at this
    | snoc hp' h' =>
      have e := h.eq h'
      unfold ndN at e
      simp only [ND.mk.injEq, List.cons.injEq, true_and, and_true] at e
      obtain ⟨rfl, rfl⟩ := e
      rw [ih hp']
end Go.KK

/- plain: layer 11: joiner, an epoch's secrets, what is derived for others. -/
namespace Go.KK
open Go.RowKit
set_option linter.unusedVariables false
set_option linter.unusedSimpArgs false

def lbJoiner : ByteArray := ⟨#[106, 111, 105, 110, 101, 114]⟩
def lbWelcome : ByteArray := ⟨#[119, 101, 108, 99, 111, 109, 101]⟩
def lbEpoch : ByteArray := ⟨#[101, 112, 111, 99, 104]⟩
def lbSender : ByteArray := ⟨#[115, 101, 110, 100, 101, 114]⟩
def lbEncryption : ByteArray := ⟨#[101, 110, 99, 114, 121, 112, 116, 105, 111, 110]⟩
def lbExporter : ByteArray := ⟨#[101, 120, 112, 111, 114, 116, 101, 114]⟩
def lbConfirm : ByteArray := ⟨#[99, 111, 110, 102, 105, 114, 109]⟩
def lbMembership : ByteArray := ⟨#[109, 101, 109, 98, 101, 114, 115, 104, 105, 112]⟩
def lbResumption : ByteArray := ⟨#[114, 101, 115, 117, 109, 112, 116, 105, 111, 110]⟩
def lbInit : ByteArray := ⟨#[105, 110, 105, 116]⟩
def lbExternal : ByteArray := ⟨#[101, 120, 116, 101, 114, 110, 97, 108]⟩
def lbExported : ByteArray := ⟨#[101, 120, 112, 111, 114, 116, 101, 100]⟩
/-- The labels of what is derived of Epoch. -/
def lbs8 : List ByteArray := [lbSender, lbEncryption, lbExporter, lbConfirm, lbMembership, lbResumption, lbInit, lbExternal]
/-- An epoch's eleven numbers. -/
def epL (j : Int) (a : List Int) : List Int := [j, a.getD 1 0, a.getD 2 0, a.getD 3 0, a.getD 4 0, a.getD 5 0, a.getD 6 0, a.getD 7 0, a.getD 8 0, a.getD 11 0, a.getD 9 0]
end Go.KK

/- plain: layer 11: what an epoch's secrets are made of; epochs of other secrets have none in common. -/
namespace Go.KK
open Go.RowKit
set_option linter.unusedVariables false
set_option linter.unusedSimpArgs false

/-- What an epoch's secrets are made of: the joiner secret j, the shared ones p, the context x. -/
structure BgAt (X : List ND) (j p x : Int) (a : List Int) : Prop where
  m : At X (a.getD 0 0) (ndN 5 [j, p])
  w : DvAt X (a.getD 1 0) (a.getD 0 0) lbWelcome
  e : KeyAt X (a.getD 2 0) (a.getD 0 0) lbEpoch x
  d : ∀ k, k < 8 → DvAt X (a.getD (3 + k) 0) (a.getD 2 0) (lbs8.getD k ⟨#[]⟩)
  p : At X (a.getD 11 0) (ndN 7 [a.getD 10 0])
theorem BgAt.ext {X : List ND} {j p x : Int} {a : List Int} (h : BgAt X j p x a) (m : List ND) : BgAt (X ++ m) j p x a :=
  ⟨h.m.ext m, h.w.ext m, h.e.ext m, fun k hk => (h.d k hk).ext m, h.p.ext m⟩
/-- What an epoch behind init, commit, context and shared secrets is made of. -/
structure NxAt (X : List ND) (i c x : Int) (l : List Int) (ep : List Int) : Prop where
  go : ∃ m p a, ep = epL (ep.getD 0 0) a ∧ At X m (ndN 5 [i, c]) ∧ KeyAt X (ep.getD 0 0) m lbJoiner x ∧ PskAt X p l ∧ BgAt X (ep.getD 0 0) p x a
theorem NxAt.ext {X : List ND} {i c x : Int} {l ep : List Int} (h : NxAt X i c x l ep) (m : List ND) : NxAt (X ++ m) i c x l ep := by
  obtain ⟨u, p, a, h1, h2, h3, h4, h5⟩ := h.go
  exact ⟨u, p, a, h1, h2.ext m, h3.ext m, h4.ext m, h5.ext m⟩
/-- What is derived for others. -/
def XpAt (X : List ND) (t : Int) (ep : List Int) (lab : ByteArray) (x : Int) : Prop := ∃ y, DvAt X y (ep.getD 5 0) lab ∧ KeyAt X t y lbExported x
theorem XpAt.ext {X : List ND} {t x : Int} {ep : List Int} {lab : ByteArray} (h : XpAt X t ep lab x) (m : List ND) : XpAt (X ++ m) t ep lab x := by
  obtain ⟨y, h1, h2⟩ := h; exact ⟨y, h1.ext m, h2.ext m⟩
end Go.KK

/- plain: layer 11's laws: Psk, Joins, Apart. -/
namespace Go.KK
open Go.RowKit
set_option linter.unusedVariables false
set_option linter.unusedSimpArgs false

end Go.KK

/- crypto over the law's arena: of, known, Extract, Expand, Derive, Public; Text, List. -/
namespace Go.Proofs.YtfmkniakfgpgjaaDoor
open Go.RowKit Go.KK Go.Shelf Go.Maps
set_option linter.unusedVariables false
set_option linter.unusedSimpArgs false

theorem idx_i64 {xs : List ND} (ok : Okay xs) (x : ND) : I64 (makI xs x) := by
  have := makI_b ok.len x
  exact ⟨by omega, by omega⟩
theorem Mv.trans {Z Z1 Z2 : Nat → Prop} {W W1 W2 : World} (a : Mv Z W Z1 W1) (b : Mv Z1 W1 Z2 W2) : Mv Z W Z2 W2 :=
  ⟨a.t.trans b.t a.n, fun k hk => (b.n k hk).elim (a.n k) fun h => .inr (Nat.le_trans a.t.size h)⟩
theorem Mv.alloc (Z : Nat → Prop) (W : World) (o : Obj) : Mv Z W Z (W.alloc o) := .below ((Below.refl _ _).alloc (Nat.le_refl _) o)
section
variable {w0 W W' : World} {Z Z' : Nat → Prop} {sa : Nat} {xs xs' : List ND}
end
end Go.Proofs.YtfmkniakfgpgjaaDoor

/- the document's arena: as token's texts have it. -/

/- term: the program's arena and the document's, of the same nodes. -/
namespace Go.Proofs.YtfmkniakfgpgjaaDoor
open Go.RowKit Go.KK Go.Shelf Go.Maps
set_option linter.unusedVariables false
set_option linter.unusedSimpArgs false

/-- Two arenas of the same nodes. -/
structure Tw (w W : World) (sa sb : Nat) (Z Z' : Nat → Prop) (xs : List ND) : Prop where
  a : AR W Z sa xs
  b : AQ W Z' sb xs
  d : ∀ b, Z b → ¬ Z' b
  za : ∀ b, Z b → w.heap.size ≤ b
  zb : ∀ b, Z' b → w.heap.size ≤ b
  bl : Below w.heap.size w W
section
variable {w W W' : World} {sa sb : Nat} {Z Z' : Nat → Prop} {xs ys : List ND}
theorem Tw.ext (h : Tw w W sa sb Z Z' xs) (hb : Below W.heap.size W W') : Tw w W' sa sb Z Z' xs :=
  ⟨h.a.ext hb, h.b.ext hb, h.d, h.za, h.zb, h.bl.trans (hb.mono h.bl.size)⟩
theorem Tw.sz (h : Tw w W sa sb Z Z' xs) : w.heap.size ≤ W.heap.size := h.bl.size
end
end Go.Proofs.YtfmkniakfgpgjaaDoor

/- both arenas, side by side. -/
namespace Go.Proofs.YtfmkniakfgpgjaaDoor
open Go.RowKit Go.KK Go.Shelf Go.Maps
set_option linter.unusedVariables false
set_option linter.unusedSimpArgs false

theorem Tw.la {w W : World} {sa sb : Nat} {Z Z' : Nat → Prop} {xs : List ND} (h : Tw w W sa sb Z Z' xs) : LA w W Z sa xs := ⟨h.a, h.za, h.bl⟩
end Go.Proofs.YtfmkniakfgpgjaaDoor

/- schedule: Psk, Joiner. -/
namespace Go.KK
open Go.RowKit
set_option linter.unusedVariables false
set_option linter.unusedSimpArgs false
end Go.KK
namespace Go.Proofs.YtfmkniakfgpgjaaDoor
open Go.RowKit Go.KK Go.Shelf Go.Maps

/-- A row of numbers that the arena's steps leave alone. -/
def SlM (W : World) (Z : Nat → Prop) (A : Option Addr) (n c : Nat) (l : List Int) : Prop := SlA W 1 A n c (l.map (.int .i64)) ∧ ∀ b o, A = some ⟨b, o, none⟩ → 0 < n → b < W.heap.size ∧ ¬ Z b
theorem SlM.mv {W W' : World} {Z Z' : Nat → Prop} {A : Option Addr} {n c : Nat} {l : List Int} (h : SlM W Z A n c l) (m : Mv Z W Z' W') : SlM W' Z' A n c l := by
  refine ⟨⟨h.1.nc, h.1.cm, h.1.len, fun j u hj => ?_⟩, fun b o e hn => ?_⟩
  · have hjl := (List.getElem?_eq_some_iff.1 hj).1
    have hlen := h.1.len
    obtain ⟨b, off, e, hc⟩ := h.1.cells j u hj
    have hn : 0 < n := by omega
    obtain ⟨h1, h2⟩ := h.2 b off e hn
    refine ⟨b, off, e, ?_⟩
    rw [World.cell?_of_block (a := ⟨b, off + j, none⟩) (show W'.heap[b]? = W.heap[b]? from m.t.block b h1 h2)]
    exact hc
  · obtain ⟨h1, h2⟩ := h.2 b o e hn
    refine ⟨Nat.lt_of_lt_of_le h1 m.t.size, fun hz => ?_⟩
    rcases m.n b hz with h | h
    · exact h2 h
    · omega
theorem SlM.nil (W : World) (Z : Nat → Prop) : SlM W Z none 0 0 [] := ⟨SlA.nil _ _, fun b o e => by cases e⟩
section
variable {w0 W W' : World} {Z Z' : Nat → Prop} {sa : Nat} {xs xs' : List ND}
end
end Go.Proofs.YtfmkniakfgpgjaaDoor

/- the document's arena beside the law's: calls that take a step. -/
namespace Go.Proofs.YtfmkniakfgpgjaaDoor
open Go.RowKit Go.KK Go.Shelf Go.Maps
set_option linter.unusedVariables false
set_option linter.unusedSimpArgs false

/-- The document's arena, and what the call has left alone. -/
structure LQ (w0 W : World) (Z : Nat → Prop) (sb : Nat) (ys : List ND) : Prop where
  ar : AQ W Z sb ys
  z : ∀ b, Z b → w0.heap.size ≤ b
  bl : Below w0.heap.size w0 W
section
variable {w0 W W' : World} {Z Z' Z2 : Nat → Prop} {sa sb : Nat} {xs xs' ys ys' : List ND}
theorem LQ.mv (h : LQ w0 W Z sb ys) (m : Mv Z W Z' W') (ha : AQ W' Z' sb ys') : LQ w0 W' Z' sb ys' :=
  ⟨ha, fun b hb => (m.n b hb).elim (h.z b) fun h' => Nat.le_trans h.bl.size h', h.bl.trans (m.t.below h.z h.bl.size)⟩
theorem LQ.ext (h : LQ w0 W Z sb ys) (hb : Below W.heap.size W W') : LQ w0 W' Z sb ys := h.mv (.below hb) (h.ar.ext hb)
theorem LQ.alloc (h : LQ w0 W Z sb ys) (o : Obj) : LQ w0 (W.alloc o) Z sb ys := h.ext ((Below.refl _ _).alloc (Nat.le_refl _) o)
theorem LQ.sz (h : LQ w0 W Z sb ys) : w0.heap.size ≤ W.heap.size := h.bl.size
/-- Both arenas, side by side: the law's holds these nodes, the document's those. -/
structure Tx (w0 W : World) (sa sb : Nat) (Z Z' : Nat → Prop) (xs ys : List ND) : Prop where
  a : LA w0 W Z sa xs
  b : LQ w0 W Z' sb ys
  d : ∀ b, Z b → ¬ Z' b
theorem Tx.of {xs : List ND} (h : Tw w0 W sa sb Z Z' xs) : Tx w0 W sa sb Z Z' xs xs := ⟨⟨h.a, h.za, h.bl⟩, ⟨h.b, h.zb, h.bl⟩, h.d⟩
/-- The law's arena took a step. -/
theorem Tx.onA (h : Tx w0 W sa sb Z Z' xs ys) (la : LA w0 W' Z2 sa xs') (m : Mv Z W Z2 W') : Tx w0 W' sa sb Z2 Z' xs' ys :=
  ⟨la, ⟨h.b.ar.turn m.t fun b hb k => h.d b k hb, h.b.z, la.bl⟩, fun b hb hb' => by
    rcases m.n b hb with k | k
    · exact h.d b k hb'
    · have := h.b.ar.zlt b hb'; omega⟩
/-- The document's arena took a step. -/
theorem Tx.onB (h : Tx w0 W sa sb Z Z' xs ys) (lq : LQ w0 W' Z2 sb ys') (m : Mv Z' W Z2 W') : Tx w0 W' sa sb Z Z2 xs ys' :=
  ⟨⟨AR.turn h.a.ar m.t fun b hb k => h.d b hb k, h.a.z, lq.bl⟩, lq, fun b hb hb' => by
    rcases m.n b hb' with k | k
    · exact h.d b hb k
    · have := h.a.ar.zlt b hb; omega⟩
theorem Tx.ext (h : Tx w0 W sa sb Z Z' xs ys) (hb : Below W.heap.size W W') : Tx w0 W' sa sb Z Z' xs ys := ⟨h.a.ext hb, h.b.ext hb, h.d⟩
theorem Tx.alloc (h : Tx w0 W sa sb Z Z' xs ys) (o : Obj) : Tx w0 (W.alloc o) sa sb Z Z' xs ys := h.ext ((Below.refl _ _).alloc (Nat.le_refl _) o)
/-- A call of the document's that takes a step. -/
def LrQ (w0 W : World) (Z : Nat → Prop) (sb : Nat) (r : Rs) (e : Ending) (w' : World) : Prop := ∃ Z', e = .returned (.tuple #[.int .i64 r.2.1, .int .i64 r.2.2]) ∧ LQ w0 w' Z' sb r.1 ∧ Mv Z W Z' w'
theorem q_mke (h : LQ w0 W Z sb ys) {x : ND} {A : Option Addr} {c : Nat} (hl : SlA W 1 A x.l.length c (x.l.map (.int .i64))) (hx : NdI x) :
    Calls Tryd.prog 50 #[.pointer (some ⟨sb, 0, none⟩), .agg #[.int .i64 x.o, .int .i64 x.n, .string x.s, .slice A x.l.length c]] W (LrQ w0 W Z sb (mk ys x)) := by
  refine (rmke_any Z sb ys W x A c h.ar hl hx).mono ?_
  rintro e w' ⟨rfl, Z', h1, h2, h3⟩
  exact ⟨Z', rfl, h.mv ⟨h2, h3⟩ h1, ⟨h2, h3⟩⟩
theorem q_of (h : LQ w0 W Z sb ys) {o : Int} {A : Option Addr} {n c : Nat} {l : List Int} (hl : SlA W 1 A n c (l.map (.int .i64))) (ho : I64 o) (hi : ∀ i ∈ l, I64 i) :
    Calls Tryd.prog 33 #[.pointer (some ⟨sb, 0, none⟩), .int .i64 o, .slice A n c] W (LrQ w0 W Z sb (mk ys (ndN o l))) := by
  have e := hl.lenI
  subst e
  have HM := hid (q_mke h (x := ndN o l) hl (ndI_nd ho hi))
  clear h hl
  go_enter Tryd.func33, Tryd.ntmps33
  go_wp2_with fail
  refine HM.out.mono ?_
  rintro e w' ⟨Z', rfl, h1, h2⟩
  have H1 := hid h1; have H2 := hid h2
  clear h1 h2
  go_wp2_with fail
  go_ret2
  exact ⟨Z', rfl, H1.out, H2.out⟩
end
end Go.Proofs.YtfmkniakfgpgjaaDoor

/- plain: what a term is made of, and how many terms (TermBelow). -/
namespace Go.KK
open Go.RowKit
set_option linter.unusedVariables false
set_option linter.unusedSimpArgs false

theorem nodup_le : ∀ (N : Nat) (M : List Int), M.Nodup → (∀ x ∈ M, 0 ≤ x ∧ x < N) → M.length ≤ N
  | 0, M, _, h => by
    cases M with
    | nil => simp
    | cons x M => have := h x (by simp); omega
  | N + 1, M, hn, h => by
    by_cases hm : (N : Int) ∈ M
    · have := nodup_le N (M.erase (N : Int)) (hn.erase _) fun x hx => by
        have h1 := h x (List.mem_of_mem_erase hx)
        have h2 : x ≠ (N : Int) := ((hn.mem_erase_iff).1 hx).1
        omega
      rw [List.length_erase_of_mem hm] at this
      omega
    · have := nodup_le N M hn fun x hx => by
        have h1 := h x hx
        have h2 : x ≠ (N : Int) := fun e => hm (e ▸ hx)
        omega
      omega
/-- A term is made of another one. -/
inductive Rch (xs : List ND) : Int → Int → Prop
  | self {t : Int} (h : hasB xs t = true) : Rch xs t t
  | step {t x y : Int} (h : Rch xs t x) (hy : y ∈ (nodeF xs x).l) : Rch xs t y
theorem nodeF_get {xs : List ND} {t : Int} (h : hasB xs t = true) : xs[t.toNat]? = some (nodeF xs t) := by
  have h2 := Go.KK.has_iff.1 h
  unfold nodeF
  rw [h, if_pos rfl, List.getD, List.getElem?_eq_getElem (by omega)]
  rfl
theorem part_lt {xs : List ND} (ok : Okay xs) {t x : Int} (h : hasB xs t = true) (hx : x ∈ (nodeF xs t).l) : 0 ≤ x ∧ x < t ∧ hasB xs x = true := by
  have h2 := Go.KK.has_iff.1 h
  have hm := ok.may _ _ (nodeF_get h)
  unfold mayB at hm
  simp only [Bool.and_eq_true, List.all_eq_true] at hm
  have h3 := Go.KK.has_iff.1 (hm.1.2 x hx)
  rw [List.length_take] at h3
  refine ⟨h3.1, by omega, Go.KK.has_iff.2 ⟨h3.1, by omega⟩⟩
theorem Rch.has {xs : List ND} (ok : Okay xs) {t x : Int} (h : Rch xs t x) : hasB xs t = true ∧ hasB xs x = true ∧ 0 ≤ x ∧ x ≤ t := by
  induction h with
  | self h => exact ⟨h, h, (Go.KK.has_iff.1 h).1, Int.le_refl _⟩
  | step h hy ih =>
    obtain ⟨a, b, c⟩ := part_lt ok ih.2.1 hy
    exact ⟨ih.1, c, a, by omega⟩
theorem Rch.trans {xs : List ND} {t x y : Int} (h : Rch xs t x) (k : Rch xs x y) : Rch xs t y := by
  induction k with
  | self _ => exact h
  | step _ hy ih => exact .step ih hy
theorem nodeF_app {xs : List ND} (m : List ND) {t : Int} (h : hasB xs t = true) : nodeF (xs ++ m) t = nodeF xs t ∧ hasB (xs ++ m) t = true := by
  have h2 := Go.KK.has_iff.1 h
  have h3 : hasB (xs ++ m) t = true := Go.KK.has_iff.2 ⟨h2.1, by rw [List.length_append]; omega⟩
  refine ⟨?_, h3⟩
  have e1 := nodeF_get h
  have e2 := nodeF_get h3
  rw [List.getElem?_append_left (by omega), e1] at e2
  exact (Option.some.inj e2).symm
/-- On the way: M is met, O is open, and of x (if any is being looked at) so many parts have been looked at. -/
structure Pt (xs : List ND) (t : Int) (M O : List Int) (x : Option Int) (k : Nat) : Prop where
  nd : M.Nodup
  tm : t ∈ M
  r : ∀ y ∈ M, Rch xs t y
  o : ∀ y ∈ O, y ∈ M
  c : ∀ z ∈ M, z ∉ O → x ≠ some z → ∀ y ∈ (nodeF xs z).l, y ∈ M
  x : ∀ z, x = some z → z ∈ M ∧ ∀ y ∈ (nodeF xs z).l.take k, y ∈ M
theorem Pt.new {xs : List ND} {t x y : Int} {M O : List Int} {k : Nat} (h : Pt xs t M O (some x) k) (hy : (nodeF xs x).l[k]? = some y) (hm : y ∉ M) : Pt xs t (M ++ [y]) (O ++ [y]) (some x) (k + 1) := by
  refine ⟨?_, by simp [h.tm], fun u hu => ?_, fun u hu => ?_, fun z hz hn hx u hu => ?_, fun z e => ?_⟩
  · rw [List.nodup_append]
    exact ⟨h.nd, by simp, fun a ha b hb e => by rw [List.mem_singleton] at hb; subst hb; subst e; exact hm ha⟩
  · rw [List.mem_append, List.mem_singleton] at hu
    rcases hu with hu | rfl
    · exact h.r u hu
    · exact .step (h.r x (h.x x rfl).1) (List.mem_of_getElem? hy)
  · rw [List.mem_append, List.mem_singleton] at hu ⊢
    exact hu.imp (h.o u) id
  · rw [List.mem_append, List.mem_singleton] at hn
    rw [List.mem_append, List.mem_singleton] at hz
    rcases hz with hz | rfl
    · exact List.mem_append_left _ (h.c z hz (fun h' => hn (.inl h')) hx u hu)
    · exact absurd (.inr rfl) hn
  · refine ⟨List.mem_append_left _ (h.x z e).1, fun u hu => ?_⟩
    injection e with e
    subst e
    rw [take_one hy, List.mem_append, List.mem_singleton] at hu
    rw [List.mem_append, List.mem_singleton]
    rcases hu with hu | rfl
    · exact .inl ((h.x _ rfl).2 u hu)
    · exact .inr rfl
theorem Pt.size {xs : List ND} {t : Int} {M : List Int} {k : Nat} (h : Pt xs t M [] none k) : ∀ y, y ∈ M ↔ Rch xs t y := fun y =>
  ⟨h.r y, fun hr => by
    have ht := h.tm
    induction hr with
    | self _ => exact ht
    | step _ hy ih => exact h.c _ ih (by simp) (by simp) _ hy⟩
theorem Pt.len {xs : List ND} (ok : Okay xs) {t : Int} {M O : List Int} {x : Option Int} {k : Nat} (h : Pt xs t M O x k) : M.length ≤ xs.length :=
  nodup_le _ M h.nd fun y hy => by
    have := (h.r y hy).has ok
    have := Go.KK.has_iff.1 this.2.1
    omega
end Go.KK

/- the document's Bisim: terms of two arenas that are the same. -/
namespace Go.KK
open Go.RowKit
set_option linter.unusedVariables false
set_option linter.unusedSimpArgs false

/-- The term x of the arena Y is the term y of the arena X. -/
inductive Bs (Y X : List ND) : Int → Int → Prop
  | mk {x y : Int} {a b : ND} (hx : At Y x a) (hy : At X y b) (ho : a.o = b.o) (hn : a.n = b.n) (hs : a.s = b.s) (hl : a.l.length = b.l.length) (h : ∀ (i : Nat) p q, a.l[i]? = some p → b.l[i]? = some q → Bs Y X p q) : Bs Y X x y
/-- Parts of a node have lesser numbers. -/
theorem At.part {X : List ND} (ok : Okay X) {i : Int} {x : ND} (h : At X i x) : ∀ p ∈ x.l, 0 ≤ p ∧ p < i := fun p hp => by
  have hm := ok.may _ _ h.2
  unfold mayB at hm
  simp only [Bool.and_eq_true, List.all_eq_true] at hm
  have hx := has_iff.1 (hm.1.2 p hp)
  rw [List.length_take] at hx
  have := h.1
  omega
theorem at_of_has {X : List ND} {i : Int} (h : hasB X i = true) : ∃ x, At X i x := by
  have := has_iff.1 h
  exact ⟨_, this.1, List.getElem?_eq_getElem (by omega)⟩
theorem bs_refl {X : List ND} (ok : Okay X) : ∀ (k : Nat) (x : Int), x.toNat < k → hasB X x = true → Bs X X x x := by
  intro k
  induction k with
  | zero => intro x h; omega
  | succ k ih =>
    intro x hk h
    obtain ⟨a, ha⟩ := at_of_has h
    refine .mk ha ha rfl rfl rfl rfl fun i p q hp hq => ?_
    rw [hp] at hq
    injection hq with hq
    subst hq
    have := ha.part ok p (List.mem_of_getElem? hp)
    exact ih p (by omega) (has_iff.2 ⟨this.1, by have := has_iff.1 ha.has; omega⟩)
theorem bs_same {X : List ND} (ok : Okay X) {x : Int} (h : hasB X x = true) : Bs X X x x := bs_refl ok (x.toNat + 1) x (by omega) h
theorem pairs_le {M : List (Int × Int)} (hd : M.Nodup) (h : ∀ p ∈ M, 0 ≤ p.1 ∧ p.1 < 100000 ∧ 0 ≤ p.2 ∧ p.2 < 100000) : M.length ≤ 10000000000 := by
  have h1 : (M.map fun p => p.1 * 100000 + p.2).Nodup := by
    rw [List.nodup_iff_pairwise_ne] at hd ⊢
    rw [List.pairwise_map]
    refine hd.imp_of_mem fun {a b} ha hb hne e => hne ?_
    have := h a ha; have := h b hb
    have e1 : a.1 = b.1 := by omega
    exact Prod.ext e1 (by omega)
  have := nodup_le 10000000000 _ h1 fun x hx => by
    obtain ⟨p, hp, rfl⟩ := List.mem_map.1 hx
    have := h p hp
    omega
  rwa [List.length_map] at this
end Go.KK
namespace Go.Proofs.YtfmkniakfgpgjaaDoor
open Go.RowKit Go.KK Go.Shelf Go.Maps

theorem wfP {y : Int} (h : I64 y) : (Lit.int .i64 y).wf = true := by
  have h2 := wrap64_wf y
  rwa [show RowKit.wrap64 y = y by unfold RowKit.wrap64; unfold I64 at h; omega] at h2
theorem plainP_inv {e : TypeId} (he : Tryd.prog.underlying e = some .bool) {v : Value} {z : MD × List MemPlace} (h : plainElem Tryd.prog e v = some z) : ∃ x, v = .bool x ∧ z = (.lit (.bool x), []) := by
  unfold plainElem at h
  rw [he] at h
  cases v <;> simp at h
  subst h
  exact ⟨_, rfl, rfl⟩
theorem litP_inj {a b : Bool} (h : (DataW.lit (.bool a) : MD) = .lit (.bool b)) : a = b := by
  injection h with h
  injection h
theorem zeroP (w : World) : (zeroValue 4).run Tryd.prog w = .ok (.bool false) w := by kernel_rfl
theorem arr2 : WideMaps.ArrKey Tryd.prog 82 3 2 := ⟨Tryd.underlying82, by kernel_rfl, by kernel_rfl, by kernel_rfl⟩
theorem law2 : Keyed Tryd.prog 82 := Keyed.of_law arr2.law
/-- A pair's key. -/
def kp (a b : Int) : Lit := .string (keyBytes [.int .i64 a, .int .i64 b])
theorem key_pair {a b : Int} (ha : I64 a) (hb : I64 b) : keyOf Tryd.prog 82 (.agg #[.int .i64 a, .int .i64 b]) = some (kp a b) :=
  WideMaps.keyOf_pair arr2 Tryd.underlying3 ⟨Tryd.prog.types.size - 1, by kernel_rfl⟩ (wfP ha) (wfP hb)
theorem kp_inj {a b a' b' : Int} (ha : I64 a) (hb : I64 b) (ha' : I64 a') (hb' : I64 b') (h : kp a b = kp a' b') : a = a' ∧ b = b' := by
  have := law2.inj (key_pair ha hb) (h ▸ key_pair ha' hb')
  simp at this
  exact this
/-- A map of pairs that were found to be the same. -/
def MtP (W : World) (mb : Nat) (M : List (Int × Int)) : Prop := ∃ (D : MD) (n : Nat), W.ownsMap Tryd.prog 82 (plainElem Tryd.prog 4) mb n D ∧ n ≤ M.length ∧ Tidy D ∧
  (∀ a b, I64 a → I64 b → D.atKey (kp a b) (.lit (.bool false)) = .lit (.bool (decide ((a, b) ∈ M)))) ∧ M.Nodup ∧ ∀ p ∈ M, 0 ≤ p.1 ∧ p.1 < 100000 ∧ 0 ≤ p.2 ∧ p.2 < 100000
theorem MtP.new (w : World) : MtP (w.alloc (.map #[] 0)) w.heap.size [] :=
  ⟨_, 0, World.ownsMap_made (H := Unit) w Tryd.prog 82 (plainElem Tryd.prog 4), Nat.le_refl _, tidy_empty, fun a b _ _ => rfl, List.nodup_nil, fun p h => by simp at h⟩
section
variable {w w' : World} {mb : Nat} {M : List (Int × Int)}
theorem MtP.look (h : MtP w mb M) {a b : Int} (ha : I64 a) (hb : I64 b) : (Instr.lookup 37 (.map (some mb)) (.agg #[.int .i64 a, .int .i64 b]) false).run Tryd.prog w = .ok (.bool (decide ((a, b) ∈ M))) w := by
  obtain ⟨D, n, h1, -, -, h4, -⟩ := h
  obtain ⟨v, ps, hrun, hv⟩ := h1.lookup law2 Tryd.underlying37 (zeroP w) (plainElem_bool Tryd.underlying4 false) (key_pair ha hb)
  obtain ⟨x, rfl, e⟩ := plainP_inv Tryd.underlying4 hv
  have e1 := (Prod.mk.inj e).1
  rw [h4 a b ha hb] at e1
  have e2 : decide ((a, b) ∈ M) = x := litP_inj e1
  rw [hrun, e2]
theorem MtP.block (h : MtP w mb M) (hb : w'.heap[mb]? = w.heap[mb]?) : MtP w' mb M := by
  obtain ⟨D, n, h1, r⟩ := h
  exact ⟨D, n, map_block h1 hb, r⟩
theorem MtP.lt (h : MtP w mb M) : mb < w.heap.size := by
  obtain ⟨D, n, ⟨es, clock, h1, _⟩, -⟩ := h
  exact (Array.getElem?_eq_some_iff.1 h1).1
/-- Where a cell is, the map is not. -/
theorem MtP.ne (h : MtP w mb M) {b o : Nat} {u : Value} (hc : w.cell? ⟨b, o, none⟩ = some u) : b ≠ mb := by
  rintro rfl
  obtain ⟨D, n, ⟨es, clock, h1, _⟩, -⟩ := h
  unfold World.cell? at hc
  simp only [h1] at hc
  simp at hc
theorem MtP.keep (h : MtP w mb M) (ht : Turn (fun b => b = mb) w w') {b o : Nat} {u : Value} (hc : w.cell? ⟨b, o, none⟩ = some u) : w'.cell? ⟨b, o, none⟩ = some u := by
  rw [World.cell?_of_block (a := ⟨b, o, none⟩) (show w'.heap[b]? = w.heap[b]? from ht.block b (block_lt_of_cell hc) (h.ne hc))]
  exact hc
theorem MtP.put (h : MtP w mb M) {a b : Int} (ha : 0 ≤ a ∧ a < 100000) (hb : 0 ≤ b ∧ b < 100000) (hn : (a, b) ∉ M) {D : MD} {n : Nat} (hD : w.ownsMap Tryd.prog 82 (plainElem Tryd.prog 4) mb n D) (hnl : n ≤ M.length) (ht : Tidy D)
    (hat : ∀ a b, I64 a → I64 b → D.atKey (kp a b) (.lit (.bool false)) = .lit (.bool (decide ((a, b) ∈ M)))) (hw : w'.ownsMap Tryd.prog 82 (plainElem Tryd.prog 4) mb (n + 1) (D.put (kp a b) (.lit (.bool true)))) : MtP w' mb (M ++ [(a, b)]) := by
  obtain ⟨-, -, -, -, -, -, nd, rg⟩ := h
  refine ⟨_, _, hw, by simp; omega, ht.put (by trivial) _, fun p q hp hq => ?_, ?_, fun p hp => ?_⟩
  · by_cases e : p = a ∧ q = b
    · obtain ⟨rfl, rfl⟩ := e
      rw [Maps.atKey_put_same ht.isMap (by trivial)]; simp
    · have hne : kp p q ≠ kp a b := fun k => e (kp_inj hp hq ⟨by omega, by omega⟩ ⟨by omega, by omega⟩ k)
      rw [Maps.atKey_put_other hne, hat p q hp hq]
      have : (p, q) ≠ (a, b) := fun k => e (by injection k with k1 k2; exact ⟨k1, k2⟩)
      simp [this]
  · rw [List.nodup_append]
    exact ⟨nd, by simp, fun p hp q hq e => by rw [List.mem_singleton] at hq; subst hq; subst e; exact hn hp⟩
  · rcases List.mem_append.1 hp with hp | hp
    · exact rg p hp
    · rw [List.mem_singleton] at hp
      subst hp
      exact ⟨ha.1, ha.2, hb.1, hb.2⟩
end
theorem ArV.keep {w w' : World} {T : TypeId} {st : Nat} {xs : List ND} (h : ArV w T st xs) (hb : w'.heap[st]? = w.heap[st]?) (hk : ∀ b o u, w.cell? ⟨b, o, none⟩ = some u → w'.cell? ⟨b, o, none⟩ = some u) : ArV w' T st xs := by
  obtain ⟨⟨A, c, m, h1, h2⟩, h3⟩ := h
  exact ⟨⟨A, c, m, hb.trans h1, h2.keep hk⟩, h3⟩
theorem rlenO_any (st : Nat) (xs : List ND) (w : World) (h : ArV w 78 st xs) :
    Calls Tryd.prog 46 #[.pointer (some ⟨st, 0, none⟩)] w fun e w' => e = .returned (.int .i64 xs.length) ∧ w' = w := by
  obtain ⟨A, c, m, h0, h1, hn⟩ := h.parts
  clear hn h
  go_enter Tryd.func46, Tryd.ntmps46
  go_wp2
  go_ret
  exact ⟨rfl, rfl⟩
/-- What Bisim leaves of terms that are the same. -/
def BiS (w : World) (mb : Nat) (M : List (Int × Int)) (x : Int) (e : Ending) (w' : World) : Prop := e = .returned (.bool true) ∧ (∃ M', MtP w' mb M' ∧ ∀ p ∈ M', p ∈ M ∨ p.1 ≤ x) ∧ Turn (fun b => b = mb) w w'
set_option maxHeartbeats 8000000 in
set_option maxRecDepth 100000 in
theorem bisim_ind (sb : Nat) (Y X : List ND) (A : Option Addr) (n c mb : Nat) (hn : n ≤ 100000) (okY : Okay Y) : ∀ (k : Nat) (x y : Int) (w : World) (M : List (Int × Int)), x.toNat < k → Bs Y X x y → ArV w 78 sb Y → NdA w A n c X → MtP w mb M →
    Calls Tryd.prog 20 #[.pointer (some ⟨sb, 0, none⟩), .slice A n c, .int .i64 x, .int .i64 y, .map (some mb)] w (BiS w mb M x) := by
  intro k
  induction k with
  | zero => intro x y w M h; omega
  | succ k ih =>
    intro x y w M hk hbs hY hX hM
    cases hbs with
    | @mk _ _ a b hx hy ho hnn hs hl hp =>
    have lx := (List.getElem?_eq_some_iff.1 hx.2).1
    have ly := (List.getElem?_eq_some_iff.1 hy.2).1
    have hXl := hX.len
    have hYl := okY.len
    obtain ⟨i, rfl⟩ := Int.eq_ofNat_of_zero_le hx.1
    obtain ⟨j, rfl⟩ := Int.eq_ofNat_of_zero_le hy.1
    rw [Int.toNat_natCast] at lx ly
    have hxI : I64 (i : Int) := ⟨by omega, by omega⟩
    have hyI : I64 (j : Int) := ⟨by omega, by omega⟩
    have hlk := hM.look hxI hyI
    by_cases hm : ((i : Int), (j : Int)) ∈ M
    · rw [decide_eq_true hm] at hlk
      have HM := hid hM
      clear hM hX hY ih hp
      go_enter Tryd.func20, Tryd.ntmps20
      go_wp2_with fail
      go_ret
      exact (show BiS _ _ _ _ _ _ from ⟨rfl, ⟨M, HM.out, fun p hp => .inl hp⟩, Turn.refl _ _⟩)
    · rw [decide_eq_false hm] at hlk
      have HMM := hid hm; have HM := hid hM; have HIH := hid ih; have HP := hid hp; have HYY := hid hY
      have HPT := hid (hx.part okY)
      obtain ⟨AY, cY, mY, y0, -, hN⟩ := hY.parts
      obtain ⟨b1, o1, a', A1, c1, rfl, ha', ka0, ka1, ka2, ka3, hla⟩ := hN.at lx
      obtain ⟨b2, o2, b', A2, c2, rfl, hb', kb0, kb1, kb2, kb3, hlb⟩ := hX.at (show j < n by omega)
      have hxa := hx.2; have hyb := hy.2
      rw [Int.toNat_natCast] at hxa hyb
      obtain rfl : a' = a := by rw [hxa] at ha'; injection ha' with e; exact e.symm
      obtain rfl : b' = b := by rw [hyb] at hb'; injection hb' with e; exact e.symm
      obtain ⟨ao, an, az, la⟩ := a'
      obtain ⟨bo, bn, bs, lb⟩ := b'
      dsimp only at ho hnn hs hl ka0 ka1 ka2 ka3 kb0 kb1 kb2 kb3 hla hlb
      subst ho; subst hnn; subst hs
      have HLA := hid hla; have HLB := hid hlb; have HXX := hid hX
      have HLN := hid hl
      obtain ⟨N, hN'⟩ : ∃ N, N = la.length := ⟨_, rfl⟩
      rw [← hl, ← hN'] at kb3 HLB
      rw [← hN'] at ka3 HLA
      have HNN := hid hN'
      have HLIM := hid (show N ≤ 64 by
        rw [hN']
        have := okY.may _ _ hxa
        unfold mayB shB at this
        simp only [Bool.and_eq_true, decide_eq_true_eq] at this
        exact this.1.1.1.1.1.1.2)
      have q1 : ¬ (i : Int) < 0 := by omega
      have q2 : ¬ ((Y.length : Nat) : Int) ≤ (i : Int) := by omega
      have q3 : ¬ (j : Int) < 0 := by omega
      have q4 : ¬ (n : Int) ≤ (j : Int) := by omega
      have q3d : decide ((j : Int) < 0) = false := decide_eq_false q3
      have q2d : decide (Y.length ≤ i) = false := decide_eq_false (by omega)
      have q4d : decide (n ≤ j) = false := decide_eq_false (by omega)
      have q1d : decide ((i : Int) < 0) = false := decide_eq_false q1
      have q5 : (i : Int) < (Y.length : Int) := by omega
      have q6 : (j : Int) < (n : Int) := by omega
      have up : ∀ {b o : Nat} {u : Value}, w.cell? ⟨b, o, none⟩ = some u → (w.alloc (.cells #[.int .i64 ao, .int .i64 an, .string az, .slice A1 N c1] 60)).cell? ⟨b, o, none⟩ = some u := fun hc => (((Below.refl w.heap.size w).alloc (Nat.le_refl _) _).cell (p := ⟨_, _, none⟩) (block_lt_of_cell hc)).trans hc
      have eb0 := up kb0; have eb1 := up kb1; have eb2 := up kb2; have eb3 := up kb3
      clear ih hp hm hM hN ha' hb' hxa hyb hX hY hx hy hla hlb hl hN' up
      go_enter Tryd.func20, Tryd.ntmps20
      go_wp2_with fail
      refine (rlenO_any sb Y w HYY.out).mono ?_
      rintro e wL ⟨rfl, hw0⟩
      have hw := hw0.symm
      clear hw0
      subst hw
      go_wp2_with fail
      have HB2 := hid (show Below w.heap.size w ((w.alloc (.cells #[.int .i64 ao, .int .i64 an, .string az, .slice A1 N c1] 60)).alloc (.cells #[.int .i64 ao, .int .i64 an, .string az, .slice A2 N c2] 60)) from ((Below.refl _ _).alloc (Nat.le_refl _) _).alloc (by simp) _)
      have HNB := hid (show ((w.alloc (.cells #[.int .i64 ao, .int .i64 an, .string az, .slice A1 N c1] 60)).alloc (.cells #[.int .i64 ao, .int .i64 an, .string az, .slice A2 N c2] 60)).heap[w.heap.size + 1]? = some (.cells #[.int .i64 ao, .int .i64 an, .string az, .slice A2 N c2] 60 (0, 0)) by
        have := heap_alloc_new (w.alloc (.cells #[.int .i64 ao, .int .i64 an, .string az, .slice A1 N c1] 60)) (.cells #[.int .i64 ao, .int .i64 an, .string az, .slice A2 N c2] 60)
        rwa [show (w.alloc (.cells #[.int .i64 ao, .int .i64 an, .string az, .slice A1 N c1] 60)).heap.size = w.heap.size + 1 by simp] at this)
      have HNA := hid (show ((w.alloc (.cells #[.int .i64 ao, .int .i64 an, .string az, .slice A1 N c1] 60)).alloc (.cells #[.int .i64 ao, .int .i64 an, .string az, .slice A2 N c2] 60)).heap[w.heap.size]? = some (.cells #[.int .i64 ao, .int .i64 an, .string az, .slice A1 N c1] 60 (0, 0)) from
        (((Below.refl (w.alloc (.cells #[.int .i64 ao, .int .i64 an, .string az, .slice A1 N c1] 60)).heap.size (w.alloc (.cells #[.int .i64 ao, .int .i64 an, .string az, .slice A1 N c1] 60))).alloc (Nat.le_refl _) (.cells #[.int .i64 ao, .int .i64 an, .string az, .slice A2 N c2] 60)).block _ (by simp)).trans (heap_alloc_new w _))
      have HSB := hid HM.out.lt
      generalize (w.alloc (.cells #[.int .i64 ao, .int .i64 an, .string az, .slice A1 N c1] 60)).alloc (.cells #[.int .i64 ao, .int .i64 an, .string az, .slice A2 N c2] 60) = w2 at *
      have HM2 := hid (HM.out.block (HB2.out.block mb HSB.out))
      clear y0 ka0 ka1 ka2 ka3 kb0 kb1 kb2 kb3 eb0 eb1 eb2 eb3
      go_loopw [79] (fun v wr => ∃ (j2 : Nat) (M' : List (Int × Int)), v = .int .i64 j2 ∧ j2 ≤ N ∧ Hid (MtP wr mb M' ∧ (∀ p ∈ M', p ∈ M ∨ p.1 < (i : Int)) ∧ Turn (fun b => b = mb) w2 wr)) (fun v _ => N - (intOf v).toNat)
      case atStart => exact ⟨0, M, rfl, Nat.zero_le _, hid ⟨HM2.out, fun p h => .inl h, Turn.refl _ _⟩⟩
      case round =>
        obtain ⟨j2, M', hv, hj2, HQ⟩ := hrel
        subst hv
        have HU := hid (fun (b o : Nat) (u : Value) (hc : w.cell? ⟨b, o, none⟩ = some u) => HM2.out.keep HQ.out.2.2 ((HB2.out.cell (p := ⟨b, o, none⟩) (block_lt_of_cell hc)).trans hc))
        have HSBK := hid (show wr.heap[sb]? = w.heap[sb]? from (HQ.out.2.2.block sb (Nat.lt_of_lt_of_le HYY.out.lt HB2.out.size) (by obtain ⟨_, _, _, y0, -⟩ := HYY.out.parts; exact HM.out.ne y0)).trans (HB2.out.block sb HYY.out.lt))
        by_cases hlt : j2 < N
        · have hlt' : (j2 : Int) < (N : Int) := by omega
          have HLT := hid hlt
          have hN64 : N ≤ 64 := HLIM.out
          obtain ⟨b5, o5, p, rfl, hp, hc5⟩ := HLA.out.elemI hlt
          obtain ⟨b6, o6, q, rfl, hq, hc6⟩ := HLB.out.elemI hlt
          have d5 := HU.out _ _ _ hc5; have d6 := HU.out _ _ _ hc6
          have na3 : wr.cell? ⟨w.heap.size, 3, none⟩ = some (.slice (some ⟨b5, o5, none⟩) N c1) := HM2.out.keep HQ.out.2.2 (by rw [cell_of_row w2 w.heap.size 3 _ _ (0, 0) HNA.out]; rfl)
          have nb3 : wr.cell? ⟨w.heap.size + 1, 3, none⟩ = some (.slice (some ⟨b6, o6, none⟩) N c2) := HM2.out.keep HQ.out.2.2 (by rw [cell_of_row w2 (w.heap.size + 1) 3 _ _ (0, 0) HNB.out]; rfl)
          have hpl := HPT.out p (List.mem_of_getElem? hp)
          have HCA := hid (HIH.out p q wr.drew M' (by omega) (HP.out j2 p q hp hq) (HYY.out.keep HSBK.out fun b o u hc => HU.out b o u hc) (HXX.out.keep fun b o u hc => HU.out b o u hc) (HQ.out.1.block rfl))
          clear hp hq hc5 hc6 hlt
          go_wp2_with fail
          go_still_tail 13, (by kernel_rfl)
          go_wp2_with fail
          refine HCA.out.mono ?_
          rintro e w4 ⟨rfl, ⟨M2, m2, hm2⟩, t2⟩
          have HQ2 := hid (show MtP w4 mb M2 ∧ (∀ p ∈ M2, p ∈ M ∨ p.1 < (i : Int)) ∧ Turn (fun b => b = mb) w2 w4 from ⟨m2, fun r hr => (hm2 r hr).elim (HQ.out.2.1 r) fun h => .inr (by omega), HQ.out.2.2.trans ((show Turn (fun b => b = mb) wr wr.drew from ⟨rfl, rfl, rfl, Nat.le_refl _, fun _ _ _ => rfl⟩).trans t2 fun _ h => .inl h) fun _ h => .inl h⟩)
          clear m2 hm2 t2 HCA
          go_wp2_with fail
          go_roundw
          case rel => exact ⟨j2 + 1, M2, by go_num, by have := HLT.out; omega, HQ2⟩
          case measure => have := HLT.out; simp [intOf]; omega
        · obtain rfl : j2 = N := by omega
          have hlt' : ¬ (j2 : Int) < (j2 : Int) := by omega
          have hk0 := key_pair hxI hyI
          have HNM := hid (show ((i : Int), (j : Int)) ∉ M' from fun h => (HQ.out.2.1 _ h).elim HMM.out fun h => by simp at h)
          obtain ⟨D, nD, hD, hnl, htd, hat, hnd, hrg⟩ := HQ.out.1
          have hML := pairs_le hnd hrg
          have HDD := hid hD; have HNL := hid hnl; have HTD := hid htd; have HAT := hid hat
          have na3 : wr.cell? ⟨w.heap.size, 3, none⟩ = some (.slice A1 j2 c1) := HM2.out.keep HQ.out.2.2 (by rw [cell_of_row w2 w.heap.size 3 _ _ (0, 0) HNA.out]; rfl)
          clear hnd hrg hat htd hD hnl hlt
          go_wp2_with (first
            | (at_mapUpdate; refine wpList_mapUpdate_own _ rfl _ _ _ 37 rfl 82 4 law2 Tryd.underlying37 _ mb nD D rfl HDD.out (by have := HNL.out; unfold maxLen; omega) _ _ (kp (i : Int) (j : Int)) rfl rfl hk0 (.lit (.bool true)) [] (plainElem_bool Tryd.underlying4 true) ?_; intro w5 ho5 hg5; have HO5 := hid ho5; have HG5 := hid hg5; clear ho5 hg5)
            | fail)
          go_ret
          exact (show BiS _ _ _ _ _ _ from ⟨rfl, ⟨M' ++ [((i : Int), (j : Int))], HQ.out.1.put ⟨by omega, by omega⟩ ⟨by omega, by omega⟩ HNM.out HDD.out HNL.out HTD.out HAT.out HO5.out, fun p hp => by
            rcases List.mem_append.1 hp with hp | hp
            · exact (HQ.out.2.1 p hp).imp id fun h => by omega
            · rw [List.mem_singleton] at hp; subst hp; exact .inr (Int.le_refl _)⟩, (Turn.of_below HB2.out).trans (HQ.out.2.2.trans (.grown (F := fun b => b = mb) HG5.out fun b e => .inl (by injection e with e; exact e.symm)) fun _ h => .inl h) fun _ h => .inl h⟩)
/-- Bisim, of terms that are the same. -/
theorem bisim_any {sb n c mb : Nat} {Y X : List ND} {A : Option Addr} {x y : Int} {w : World} {M : List (Int × Int)} (hn : n ≤ 100000) (okY : Okay Y) (hb : Bs Y X x y) (hY : ArV w 78 sb Y) (hX : NdA w A n c X) (hM : MtP w mb M) :
    Calls Tryd.prog 20 #[.pointer (some ⟨sb, 0, none⟩), .slice A n c, .int .i64 x, .int .i64 y, .map (some mb)] w (BiS w mb M x) :=
  bisim_ind sb Y X A n c mb hn okY (x.toNat + 1) x y w M (by omega) hb hY hX hM
end Go.Proofs.YtfmkniakfgpgjaaDoor

