import Derived.StillTail
import Derived.StillTactics
import Derived.KernelRfl
import Derived.Test.YtfmkniakfgpgjaaDoorY10
import Derived.StillTailTactics
import Derived.Deep.RegionHeld3
import Derived.Test.YtfmkniakfgpgjaaDoorY08
/- a law for a region that draws its order: its first n operations only read, each of them is awaited (on the way) by number n, and each later one waits, on the way, for number n: then the first n may be walked in the text's order, in one world; the rest in whatever order may come. -/
namespace Go.KK
open Go
set_option linter.unusedVariables false
set_option linter.unusedSimpArgs false

section
variable {P : Program} {ops : Array Oper} {md : Region.Mode} {w : World}
/-- Each operation behind number n waits for one that is not ahead of number n. -/
def treeB (md : Region.Mode) (ops : Array Oper) (n : Nat) : Bool :=
  (List.range ops.size).all fun t => decide (t ≤ n) || (List.range t).any fun s => decide (n ≤ s) && Region.waitsFor md ops t s
/-- Each operation from number k on, ahead of number n, is awaited by a later one, up to number n. -/
def sinkK (md : Region.Mode) (ops : Array Oper) (k n : Nat) : Bool :=
  (List.range n).all fun i => decide (i < k) || (List.range (n + 1)).any fun j => decide (i < j) && Region.waitsFor md ops j i
theorem awaited {k0 n : Nat} {listed : Array Bool} (hs : sinkK md ops k0 n = true) (hn : n < ops.size) (inv : HeadInv md ops n listed) (k : Nat) :
    ∀ i, n - i ≤ k → k0 ≤ i → i < n → listed.getD i true = false → n ∉ Region.ready md ops listed := by
  induction k with
  | zero => intro i h1 h2; omega
  | succ k ih =>
    intro i h1 h0 hi hun hr
    obtain ⟨_, on, hon, hall⟩ := mem_ready.1 hr
    have h3 := List.all_eq_true.1 hs i (List.mem_range.2 hi)
    rw [decide_eq_false (by omega : ¬ i < k0), Bool.false_or] at h3
    obtain ⟨j, hj, hj2⟩ := List.any_eq_true.1 h3
    simp only [Bool.and_eq_true, decide_eq_true_eq] at hj2
    obtain ⟨oj, hoj, e, he, hb, hei⟩ := Region.waitsFor_spec hj2.2
    have hjn := List.mem_range.1 hj
    have hfalse : listed.getD e.on false ≠ true := by rw [hei, getD_both hun]; decide
    by_cases hjt : j = n
    · subst hjt
      obtain rfl : oj = on := Option.some.inj (hoj.symm.trans hon)
      exact hfalse (hall e he hb)
    · rcases hl : listed.getD j false with _ | _
      · exact ih j (by omega) (by omega) (by omega) (getD_in (by rw [inv.size]; omega) hl) hr
      · exact hfalse (inv.closed j oj hoj hl e he hb)
theorem tail_waits {k0 n : Nat} {listed : Array Bool} (hs : sinkK md ops k0 n = true) (ht : treeB md ops n = true) (hn : n < ops.size) (inv : HeadInv md ops n listed)
    {i : Nat} (h0 : k0 ≤ i) (hi : i < n) (hun : listed.getD i true = false) : ∀ j ∈ Region.ready md ops listed, j < n := by
  intro t hr
  rcases Nat.lt_trichotomy t n with h | h | h
  · exact h
  · subst h; exact absurd hr (awaited hs hn inv _ i (Nat.le_refl _) h0 hi hun)
  · exfalso
    obtain ⟨_, ot, hot, hall⟩ := mem_ready.1 hr
    have htl : t < ops.size := (Array.getElem?_eq_some_iff.1 hot).1
    have h1 := List.all_eq_true.1 ht t (List.mem_range.2 htl)
    rw [decide_eq_false (by omega : ¬ t ≤ n), Bool.false_or] at h1
    obtain ⟨s, hs1, hs2⟩ := List.any_eq_true.1 h1
    simp only [Bool.and_eq_true, decide_eq_true_eq] at hs2
    obtain ⟨o', ho', e, he, hb, hes⟩ := Region.waitsFor_spec hs2.2
    obtain rfl : o' = ot := Option.some.inj (ho'.symm.trans hot)
    have h2 := hall e he hb
    rw [hes, getD_both (inv.tail s hs2.1 (by have := List.mem_range.1 hs1; omega))] at h2
    cases h2
/-- Number i of the head may be taken first. -/
theorem head_first {k0 n i : Nat} {oi : Oper} {v : Value} {L : Array Bool → Act → Prop} (hi : ops[i]? = some oi) (hsel : Region.noSelect ops = true)
    (hs : sinkK md ops k0 n = true) (ht : treeB md ops n = true) (hn : n < ops.size) (h0 : k0 ≤ i) (hin : i < n) (hL : ∀ listed a, L listed a → ∀ j ∈ Region.ready md ops listed, n ≤ j) (f : Nat) :
    ∀ (listed : Array Bool) (a : Act), HeadInv md ops n listed →
      (∀ j oj, ops[j]? = some oj → j ≠ i → listed.getD j true = false → (∀ e ∈ oj.after, Region.binds md e = true → e.on ≠ i) → oi.apart ops oj = true) →
      i ∈ Region.ready md ops listed → YieldsAt P ops w oi v a →
      wpAnyL P md ops w n L f (listed.setIfInBounds i true) (a.put oi.dst v) → wpAnyL P md ops w n L (f + 1) listed a := by
  have hns := Region.noSelect_spec hsel
  induction f with
  | zero =>
    intro listed a inv _ hr hy H
    refine ⟨fun h => (by rw [h] at hr; cases hr), fun j hj => ?_⟩
    have hjn := tail_waits hs ht hn inv h0 hin (mem_ready.1 hr).1 j hj
    by_cases hji : j = i
    · subst hji; exact ⟨hjn, hy.stOp hi H⟩
    · have := hL _ _ H j (ready_mono hj hji); omega
  | succ f ih =>
    intro listed a inv hfree hr hy H
    have hun := (mem_ready.1 hr).1
    refine ⟨fun h => (by rw [h] at hr; cases hr), fun j hj => ?_⟩
    have hjn := tail_waits hs ht hn inv h0 hin hun j hj
    by_cases hji : j = i
    · subst hji; exact ⟨hjn, hy.stOp hi H⟩
    · obtain ⟨hjun, oj, hoj, hall⟩ := mem_ready.1 hj
      have hap := hfree j oj hoj hji hjun fun e he hb heq => by
        have h1 := hall e he hb
        rw [heq, getD_both hun] at h1
        cases h1
      refine ⟨hjn, stOp_mono (fun a' h3 => ih _ a' (inv.set hj hjn) ?_ (ready_mono hr (Ne.symm hji)) h3.1 (by rw [Array.setIfInBounds_comm _ _ hji]; exact h3.2))
        (stOp_put hoj hap (fun cs b => hns i oi cs b hi) (fun cs b => hns j oj cs b hoj) hy (H.2 j (ready_mono hj hji)).2)⟩
      intro k ok hk hki hkun hno
      refine hfree k ok hk hki ?_ hno
      by_cases hjk : j = k
      · subst hjk; exact hjun
      · rw [getD_set_ne true hjk] at hkun; exact hkun
/-- The head, in the text's order: each may come up and is apart from what may come ahead of it; at its end nothing of it may come up. -/
def headB (md : Region.Mode) (ops : Array Oper) (n : Nat) : Nat → Nat → Array Bool → Bool
  | 0, _, listed => (Region.ready md ops listed).all fun j => decide (n ≤ j)
  | f + 1, k, listed => (Region.ready md ops listed).contains k && Region.free md ops listed k && headB md ops n f (k + 1) (listed.setIfInBounds k true)
def listF : Nat → Nat → Array Bool → Array Bool
  | 0, _, l => l
  | f + 1, k, l => listF f (k + 1) (l.setIfInBounds k true)
theorem head_walk {k0 n : Nat} {Lq : Act → Prop} (hsel : Region.noSelect ops = true) (hs : sinkK md ops k0 n = true) (ht : treeB md ops n = true) (hn : n < ops.size) (end_ : Array Bool) (hend : ∀ j ∈ Region.ready md ops end_, n ≤ j) :
    ∀ (l : List Oper) (k : Nat) (listed : Array Bool) (a : Act), (∀ j, j < l.length → l[j]? = ops[k + j]?) → k0 ≤ k → k + l.length = n → HeadInv md ops n listed →
    headB md ops n l.length k listed = true → listF l.length k listed = end_ → wpStill P ops w Lq l a → wpAnyL P md ops w n (fun listed' a' => listed' = end_ ∧ Lq a') l.length listed a
  | [], k, listed, a, _, _, _, _, _, he, h => ⟨he, h⟩
  | o :: l, k, listed, a, hl, h00, hk, inv, hB, he, h => by
    have h0 : ops[k]? = some o := by simpa using (hl 0 (by simp)).symm
    simp only [List.length_cons, headB, Bool.and_eq_true] at hB
    obtain ⟨⟨hr, hf⟩, hB'⟩ := hB
    have hkn : k < n := by simp only [List.length_cons] at hk; omega
    have hr' : k ∈ Region.ready md ops listed := by simpa using hr
    have hst : stOp P ops w k (wpStill P ops w Lq l) a := by unfold stOp; simp only [h0]; exact h
    obtain ⟨v, hy, hK⟩ := yieldsAt_of_stOp h0 hst
    exact head_first h0 hsel hs ht hn h00 hkn (fun l' a' h => by rw [h.1]; exact hend) l.length listed a inv (Region.free_spec h0 hf) hr' hy
      (head_walk hsel hs ht hn end_ hend l (k + 1) _ _ (fun j hj => by have := hl (j + 1) (by simp; omega); simpa [Nat.add_assoc, Nat.add_comm 1 j] using this) (by omega) (by simp only [List.length_cons] at hk; omega) (inv.set hr' hkn) hB' he hK)
def invB (md : Region.Mode) (ops : Array Oper) (n : Nat) (listed : Array Bool) : Bool :=
  decide (listed.size = ops.size) && ((List.range ops.size).all fun j => !(listed.getD j false) || match ops[j]? with
    | some o => o.after.toList.all fun e => !(Region.binds md e) || listed.getD e.on false
    | none => true) && (List.range ops.size).all fun t => decide (t < n) || !(listed.getD t true)
theorem invB_spec {n : Nat} {listed : Array Bool} (h : invB md ops n listed = true) : HeadInv md ops n listed := by
  simp only [invB, Bool.and_eq_true, decide_eq_true_eq] at h
  obtain ⟨⟨h1, h2⟩, h3⟩ := h
  refine ⟨h1, fun j oj hj hl e he hb => ?_, fun t ht hts => ?_⟩
  · have hjl : j < ops.size := (Array.getElem?_eq_some_iff.1 hj).1
    have := List.all_eq_true.1 h2 j (List.mem_range.2 hjl)
    rw [hl, hj, Bool.not_true, Bool.false_or] at this
    have h4 := List.all_eq_true.1 this e (by simpa using he)
    rw [hb, Bool.not_true, Bool.false_or] at h4
    exact h4
  · have := List.all_eq_true.1 h3 t (List.mem_range.2 hts)
    rw [decide_eq_false (by omega : ¬ t < n), Bool.false_or] at this
    simpa using this
def headTailB (md : Region.Mode) (ops : Array Oper) (k n : Nat) : Bool :=
  Region.noSelect ops && decide (k ≤ n) && decide (n < ops.size) && sinkK md ops k n && treeB md ops n && invB md ops n (listF k 0 (Array.replicate ops.size false)) && headB md ops n (n - k) k (listF k 0 (Array.replicate ops.size false)) && (Region.ready md ops (listF (n - k) k (listF k 0 (Array.replicate ops.size false)))).all fun j => decide (n ≤ j)
/-- The law: the first k operations have come up (they yield in whatever world: 'wpAny_take'); those ahead of number n only read. -/
theorem wpAny_head {Q : Exit → Act → World → Prop} {a : Act} {l : List Oper} (k n : Nat) (hB : headTailB .any l.toArray k n = true)
    (h : wpStill P l.toArray w (fun a' => wpAny P .any l.toArray Q (l.toArray.size - n) (listF (n - k) k (listF k 0 (Array.replicate l.toArray.size false))) a' w) ((l.drop k).take (n - k)) a) : wpAny P .any l.toArray Q (l.toArray.size - k) (listF k 0 (Array.replicate l.toArray.size false)) a w := by
  simp only [headTailB, Bool.and_eq_true, decide_eq_true_eq] at hB
  obtain ⟨⟨⟨⟨⟨⟨⟨hsel, hkn⟩, hn⟩, hs⟩, ht⟩, hinv⟩, hhd⟩, hend⟩ := hB
  have hn' : n < l.length := by simpa using hn
  have htl : ((l.drop k).take (n - k)).length = n - k := by simp; omega
  have H := head_walk (md := .any) hsel hs ht hn _ (fun j hj => of_decide_eq_true (List.all_eq_true.1 hend j hj)) ((l.drop k).take (n - k)) k _ a (fun j hj => by
    have hj' : j < n - k := by rw [htl] at hj; exact hj
    simp [hj']) (Nat.le_refl _) (by rw [htl]; omega) (invB_spec hinv) (by rw [htl]; exact hhd) (by rw [htl]) h
  have := wpAny_of_head (Q' := Q) (g := l.toArray.size - n) (fun listed a' hL => by
    obtain ⟨rfl, h2⟩ := hL
    exact h2) _ _ _ H
  rw [htl, show n - k + (l.toArray.size - n) = l.toArray.size - k by omega] at this
  exact this
end
end Go.KK

/- the document's token layer: Unblind. -/
namespace Go.Proofs.YtfmkniakfgpgjaaDoor
open Go.RowKit Go.KK Go.Shelf Go.Maps
set_option linter.unusedVariables false
set_option linter.unusedSimpArgs false

theorem two_cells {w : World} {A : Option Addr} {c : Nat} {a b : Int} (h : SlA w 1 A 2 c [.int .i64 a, .int .i64 b]) : ∃ bb o, A = some ⟨bb, o, none⟩ ∧ w.cell? ⟨bb, o, none⟩ = some (.int .i64 a) ∧ w.cell? ⟨bb, o + 1, none⟩ = some (.int .i64 b) := by
  obtain ⟨b0, o0, rfl, h0⟩ := h.cells 0 _ rfl
  obtain ⟨b1, o1, e, h1⟩ := h.cells 1 _ rfl
  injection e with e
  injection e with e1 e2
  subst e1; subst e2
  exact ⟨b0, o0, rfl, h0, h1⟩
section
variable {w0 W W' : World} {Z Z' : Nat → Prop} {sb : Nat} {ys ys' : List ND}
set_option maxHeartbeats 2000000 in
set_option maxRecDepth 100000 in
theorem runb_any (h : LQ w0 W Z sb ys) {sig draw : Int} :
    Calls Tryd.prog 41 #[.pointer (some ⟨sb, 0, none⟩), .int .i64 sig, .int .i64 draw] W (LrQ w0 W Z sb (unblF ys sig draw)) := by
  have HA := hid (h.alloc (.cells #[.int .i64 sig, .int .i64 draw] 3))
  have HM := hid (Mv.alloc Z W (.cells #[.int .i64 sig, .int .i64 draw] 3))
  have HK := hid (bad_any sb (W.alloc (.cells #[.int .i64 sig, .int .i64 draw] 3)) (some ⟨W.heap.size, 0, none⟩) 2 2 [sig, draw] HA.out.ar.vw (sla_row #[.int .i64 sig, .int .i64 draw] (by unfold maxLen; simp)) (by omega))
  have ok := h.ar.ok
  have H := hid h
  clear h
  rcases hk : kno ys [sig, draw] with _ | _
  · have HF := hid (show unblF ys sig draw = (ys, 0, 1) by unfold unblF; rw [if_neg (by rw [hk]; decide)])
    rw [HF.out]
    rw [hk] at HK
    clear hk ok
    go_enter Tryd.func41, Tryd.ntmps41
    go_wp2_with fail
    refine HK.out.mono ?_
    rintro e w' ⟨rfl, hw⟩
    subst hw
    go_wp2_with fail
    go_ret2
    exact ⟨Z, rfl, HA.out, HM.out⟩
  rw [hk] at HK
  have hks : hasB ys sig = true ∧ hasB ys draw = true := by
    unfold kno at hk
    simpa only [List.all_cons, List.all_nil, Bool.and_eq_true, and_true] using hk
  obtain ⟨hsig, hdr⟩ := hks
  have HSG := hid hsig
  obtain ⟨h0, h1⟩ := has_iff.1 hsig
  obtain ⟨i, rfl⟩ := Int.eq_ofNat_of_zero_le h0
  have hi : i < ys.length := by omega
  obtain ⟨b, off, c, y0, hT⟩ := ar_tab HA.out.ar.vw (by omega)
  have HT := hid hT
  obtain ⟨A, c', k0, k1, k2, k3, hl⟩ := hT i hi
  have HL := hid hl
  clear hT hl
  have HU := hid (show unblF ys (i : Int) draw = if (nodeF ys (i : Int)).o == 10 then if (nodeF ys ((nodeF ys (i : Int)).l.getD 1 0)).o == 12 && (nodeF ys ((nodeF ys (i : Int)).l.getD 1 0)).l.getD 1 0 == draw then mk ys (ndN 10 [(nodeF ys (i : Int)).l.getD 0 0, (nodeF ys ((nodeF ys (i : Int)).l.getD 1 0)).l.getD 0 0]) else (ys, 0, 40) else (ys, 0, 40) by unfold unblF; rw [if_pos hk])
  clear hk
  have HTW := hid (show (nodeF ys (i : Int)).o = 10 → ∃ a b, (nodeF ys (i : Int)).l = [a, b] ∧ hasB ys a = true ∧ hasB ys b = true from fun h => is_two ok (op := 10) (by unfold ndIs nodeE; rw [hsig, h]; rfl) rfl)
  generalize nodeF ys (i : Int) = x at *
  go_enter Tryd.func41, Tryd.ntmps41
  go_upto_region 4 with (first
    | (go_at_call 62; refine HK.out.mono ?_; rintro e w' ⟨rfl, hw⟩; subst hw)
    | fail)
  have hs : Mv Z W Z ((W.alloc (.cells #[.int .i64 i, .int .i64 draw] 3)).alloc (.cells #[.int .i64 x.o, .int .i64 x.n, .string x.s, .slice A x.l.length c'] 60)) ∧ LQ w0 ((W.alloc (.cells #[.int .i64 i, .int .i64 draw] 3)).alloc (.cells #[.int .i64 x.o, .int .i64 x.n, .string x.s, .slice A x.l.length c'] 60)) Z sb ys ∧ HasO (.cells #[.int .i64 x.o, .int .i64 x.n, .string x.s, .slice A x.l.length c'] 60 (0, 0)) (W.heap.size + 1) ((W.alloc (.cells #[.int .i64 i, .int .i64 draw] 3)).alloc (.cells #[.int .i64 x.o, .int .i64 x.n, .string x.s, .slice A x.l.length c'] 60)) ∧ Below (W.alloc (.cells #[.int .i64 i, .int .i64 draw] 3)).heap.size (W.alloc (.cells #[.int .i64 i, .int .i64 draw] 3)) ((W.alloc (.cells #[.int .i64 i, .int .i64 draw] 3)).alloc (.cells #[.int .i64 x.o, .int .i64 x.n, .string x.s, .slice A x.l.length c'] 60)) :=
    ⟨HM.out.trans (Mv.alloc Z _ _), HA.out.alloc _, HasO.new' (by simp), (Below.refl _ _).alloc (Nat.le_refl _) _⟩
  have HS := hid hs
  clear hs k0 k1 k2 k3 HK
  have HY0 := hid y0
  clear y0
  generalize W.alloc (.cells #[.int .i64 i, .int .i64 draw] 3) = W1 at *
  refine forget (R := fun V => Mv Z W Z V ∧ LQ w0 V Z sb ys ∧ HasO (.cells #[.int .i64 x.o, .int .i64 x.n, .string x.s, .slice A x.l.length c'] 60 (0, 0)) (W.heap.size + 1) V ∧ Below W1.heap.size W1 V) ?_ HS.out
  clear HS
  rintro V ⟨m1, l1, h1, b1⟩
  have M1 := hid m1; have L1 := hid l1; have X1 := hid h1; have B1 := hid b1
  have HL1 := hid (HL.out.ext b1)
  clear m1 l1 h1 b1
  have y0 := (B1.out.cell (p := ⟨sb, 0, none⟩) (block_lt_of_cell HY0.out)).trans HY0.out
  have HT1 := hid (HT.out.ext B1.out)
  clear HT HY0 HL HA HM
  clear B1
  clear W1
  obtain ⟨x0, -, -, x3⟩ := has4 X1.out
  by_cases h10 : x.o = 10
  case neg =>
    have h10' : (x.o != 10) = true := bne_iff_ne.2 h10
    have HF := hid (show unblF ys (i : Int) draw = (ys, 0, 40) by rw [HU.out, beq_eq_false_iff_ne.2 h10]; rfl)
    clear h10 HU
    go_quiet (fail)
    go_wp2_with fail
    go_ret2
    rw [HF.out]
    exact ⟨Z, rfl, L1.out.ext (below_drewN (Below.refl _ _) _), M1.out.trans (.below (below_drewN (Below.refl _ _) _))⟩
  have h10' : (x.o != 10) = false := by rw [h10]; rfl
  obtain ⟨s0, s1, hsl, hs0, hs1⟩ := HTW.out h10
  have hlen : x.l.length = 2 := by rw [hsl]; rfl
  rw [hlen, hsl] at HL1
  rw [hlen] at x3
  obtain ⟨bb, oo, rfl, c0, c1⟩ := two_cells HL1.out
  have HU2 := hid (show unblF ys (i : Int) draw = if (nodeF ys s1).o == 12 && (nodeF ys s1).l.getD 1 0 == draw then mk ys (ndN 10 [s0, (nodeF ys s1).l.getD 0 0]) else (ys, 0, 40) by rw [HU.out, h10, hsl]; rfl)
  have hi0 : I64 s0 := has_i64 ok hs0
  have HIS := hid (ris_any sb V.drew s1 12 (L1.out.ext (below_drew (Below.refl _ _))).ar.vw)
  rw [hs1, Bool.true_and] at HIS
  obtain ⟨j0, j1⟩ := has_iff.1 hs1
  obtain ⟨j, rfl⟩ := Int.eq_ofNat_of_zero_le j0
  have hj : j < ys.length := by omega
  obtain ⟨A2, c2', n0, n1, n2, n3, hl2⟩ := HT1.out j hj
  have HL2 := hid hl2
  have HT12 := hid (fun h => is_two ok (t := (j : Int)) (op := 12) h rfl)
  have HS1 := hid hs1
  clear hl2 n0 n1 n2 HU HTW HT1 h10 hs0 hs1 hsl hlen
  by_cases h12 : (nodeF ys (j : Int)).o = 12
  case neg =>
    have h12' : ((nodeF ys (j : Int)).o == 12) = false := beq_eq_false_iff_ne.2 h12
    have HF := hid (show unblF ys (i : Int) draw = (ys, 0, 40) by rw [HU2.out, h12']; rfl)
    rw [h12'] at HIS
    clear h12 h12' HU2 n3 HL2 HT12
    generalize nodeF ys (j : Int) = y at *
    go_cut [49] (fun v U => v = .bool true ∧ Mv Z W Z U ∧ LQ w0 U Z sb ys)
    case first =>
      have DZ := hid (Below.refl V.heap.size V)
      have D0 := hid (below_drew (Below.refl V.heap.size V))
      have HSC := hid (fun (U : World) (hb : Below V.heap.size V U) => (⟨(hb.cell (p := ⟨_, _, none⟩) (block_lt_of_cell x0)).trans x0, (hb.cell (p := ⟨_, _, none⟩) (block_lt_of_cell x3)).trans x3, (hb.cell (p := ⟨_, _, none⟩) (block_lt_of_cell c1)).trans c1⟩ : U.cell? ⟨W.heap.size + 1, 0, none⟩ = some (.int .i64 x.o) ∧ U.cell? ⟨W.heap.size + 1, 3, none⟩ = some (.slice (some ⟨bb, oo, none⟩) 2 c') ∧ U.cell? ⟨bb, oo + 1, none⟩ = some (.int .i64 (j : Int))))
      refine wp_region_held_drew (S := fun U => U.cell? ⟨W.heap.size + 1, 0, none⟩ = some (.int .i64 x.o) ∧ U.cell? ⟨W.heap.size + 1, 3, none⟩ = some (.slice (some ⟨bb, oo, none⟩) 2 c') ∧ U.cell? ⟨bb, oo + 1, none⟩ = some (.int .i64 (j : Int))) (by kernel_rfl) ?_ (fun hHeld => ?_)
      · exact HSC.out _ D0.out
      refine wpAnyH_take (i := 0) (v := ?_) rfl (by kernel_rfl) (by kernel_rfl) (by kernel_rfl) (fun _ _ _ h => h) (Or.inl ⟨by rfl, ?_⟩) (by assumption) ?_
      rotate_left
      · (intro w hSw; (try dsimp only at hSw); go_simp <;> with_reducible rfl)
      try simp only [Act.put, List.getElem_toArray, List.getElem_cons_zero, List.getElem_cons_succ, List.setIfInBounds_toArray, List.set_cons_zero, List.set_cons_succ]
      refine wpAnyH_take (i := 1) (v := ?_) rfl (by kernel_rfl) (by kernel_rfl) (by kernel_rfl) (fun _ _ _ h => h) (Or.inl ⟨by rfl, ?_⟩) (by assumption) ?_
      rotate_left
      · (intro w hSw; (try dsimp only at hSw); go_simp <;> with_reducible rfl)
      try simp only [Act.put, List.getElem_toArray, List.getElem_cons_zero, List.getElem_cons_succ, List.setIfInBounds_toArray, List.set_cons_zero, List.set_cons_succ]
      refine wpAnyH_take (i := 2) (v := ?_) rfl (by kernel_rfl) (by kernel_rfl) (by kernel_rfl) (fun _ _ _ h => h) (Or.inl ⟨by rfl, ?_⟩) (by assumption) ?_
      rotate_left
      · (intro w hSw; (try dsimp only at hSw); go_simp <;> with_reducible rfl)
      try simp only [Act.put, List.getElem_toArray, List.getElem_cons_zero, List.getElem_cons_succ, List.setIfInBounds_toArray, List.set_cons_zero, List.set_cons_succ]
      refine wpAnyH_take (i := 3) (v := ?_) rfl (by kernel_rfl) (by kernel_rfl) (by kernel_rfl) (fun _ _ _ h => h) (Or.inl ⟨by rfl, ?_⟩) (by assumption) ?_
      rotate_left
      · (intro w hSw; (try dsimp only at hSw); go_simp <;> with_reducible rfl)
      try simp only [Act.put, List.getElem_toArray, List.getElem_cons_zero, List.getElem_cons_succ, List.setIfInBounds_toArray, List.set_cons_zero, List.set_cons_succ]
      refine wpAnyH_take (i := 4) (v := ?_) rfl (by kernel_rfl) (by kernel_rfl) (by kernel_rfl) (fun _ _ _ h => h) (Or.inl ⟨by rfl, ?_⟩) (by assumption) ?_
      rotate_left
      · (intro w hSw; (try dsimp only at hSw); go_simp <;> with_reducible rfl)
      try simp only [Act.put, List.getElem_toArray, List.getElem_cons_zero, List.getElem_cons_succ, List.setIfInBounds_toArray, List.set_cons_zero, List.set_cons_succ]
      refine wpAnyH_take (i := 5) (v := ?_) rfl (by kernel_rfl) (by kernel_rfl) (by kernel_rfl) (fun _ _ _ h => h) (Or.inl ⟨by rfl, ?_⟩) (by assumption) ?_
      rotate_left
      · (intro w hSw; (try dsimp only at hSw); go_simp <;> with_reducible rfl)
      try simp only [Act.put, List.getElem_toArray, List.getElem_cons_zero, List.getElem_cons_succ, List.setIfInBounds_toArray, List.set_cons_zero, List.set_cons_succ]
      refine wpAnyH_take (i := 6) (v := ?_) rfl (by kernel_rfl) (by kernel_rfl) (by kernel_rfl) (fun _ _ _ h => h) (Or.inl ⟨by rfl, ?_⟩) (by assumption) ?_
      rotate_left
      · (intro w hSw; (try dsimp only at hSw); go_simp <;> with_reducible rfl)
      try simp only [Act.put, List.getElem_toArray, List.getElem_cons_zero, List.getElem_cons_succ, List.setIfInBounds_toArray, List.set_cons_zero, List.set_cons_succ]
      refine wpAnyH_take (i := 7) (v := ?_) rfl (by kernel_rfl) (by kernel_rfl) (by kernel_rfl) (fun _ _ _ h => h) (Or.inl ⟨by rfl, ?_⟩) (by assumption) ?_
      rotate_left
      · (intro w hSw; (try dsimp only at hSw); go_simp <;> with_reducible rfl)
      try simp only [Act.put, List.getElem_toArray, List.getElem_cons_zero, List.getElem_cons_succ, List.setIfInBounds_toArray, List.set_cons_zero, List.set_cons_succ]
      refine wpAnyH_take (i := 8) (v := ?_) rfl (by kernel_rfl) (by kernel_rfl) (by kernel_rfl) (fun _ _ _ h => h) (Or.inl ⟨by rfl, ?_⟩) (by assumption) ?_
      rotate_left
      · (intro w hSw; (try dsimp only at hSw); go_simp <;> with_reducible rfl)
      try simp only [Act.put, List.getElem_toArray, List.getElem_cons_zero, List.getElem_cons_succ, List.setIfInBounds_toArray, List.set_cons_zero, List.set_cons_succ]
      refine wpAnyH_ready (rs := [9]) (by kernel_rfl) (by simp) ?_
      refine AllReadyH.cons rfl (fun K hK => ?_) AllReadyH.nil
      go_simp
      go_at_call 63
      refine HIS.out.mono ?_
      rintro e9 w9 ⟨rfl, hw9⟩
      have D9 := hid (show Below V.heap.size V w9 by rw [hw9]; exact (D0.out.alloc D0.out.size _))
      clear hw9
      refine hK.out _ _ ?_ (fun hHeld => ?_)
      · exact HSC.out _ D9.out
      clear hK K
      try simp only [Act.put, List.getElem_toArray, List.getElem_cons_zero, List.getElem_cons_succ, List.setIfInBounds_toArray, List.set_cons_zero, List.set_cons_succ]
      refine wpAnyH_take (i := 10) (v := ?_) rfl (by kernel_rfl) (by kernel_rfl) (by kernel_rfl) (fun _ _ _ h => h) (Or.inl ⟨by rfl, ?_⟩) (by assumption) ?_
      rotate_left
      · (intro w hSw; (try dsimp only at hSw); go_simp <;> with_reducible rfl)
      try simp only [Act.put, List.getElem_toArray, List.getElem_cons_zero, List.getElem_cons_succ, List.setIfInBounds_toArray, List.set_cons_zero, List.set_cons_succ]
      refine wpAnyH_take (i := 11) (v := ?_) rfl (by kernel_rfl) (by kernel_rfl) (by kernel_rfl) (fun _ _ _ h => h) (Or.inl ⟨by rfl, ?_⟩) (by assumption) ?_
      rotate_left
      · (intro w hSw; (try dsimp only at hSw); go_simp <;> with_reducible rfl)
      try simp only [Act.put, List.getElem_toArray, List.getElem_cons_zero, List.getElem_cons_succ, List.setIfInBounds_toArray, List.set_cons_zero, List.set_cons_succ]
      refine wpAnyH_take (i := 12) (v := ?_) rfl (by kernel_rfl) (by kernel_rfl) (by kernel_rfl) (fun _ _ _ h => h) (Or.inl ⟨by rfl, ?_⟩) (by assumption) ?_
      rotate_left
      · (intro w hSw; (try dsimp only at hSw); go_simp <;> with_reducible rfl)
      try simp only [Act.put, List.getElem_toArray, List.getElem_cons_zero, List.getElem_cons_succ, List.setIfInBounds_toArray, List.set_cons_zero, List.set_cons_succ]
      refine wpAnyH_take (i := 13) (v := undef) rfl (by kernel_rfl) (by kernel_rfl) (by kernel_rfl) (fun _ _ _ h => h) (Or.inr ⟨by rfl, rfl⟩) (by assumption) ?_
      try simp only [Act.put, List.getElem_toArray, List.getElem_cons_zero, List.getElem_cons_succ, List.setIfInBounds_toArray, List.set_cons_zero, List.set_cons_succ]
      refine wpAnyH_take (i := 14) (v := undef) rfl (by kernel_rfl) (by kernel_rfl) (by kernel_rfl) (fun _ _ _ h => h) (Or.inr ⟨by rfl, rfl⟩) (by assumption) ?_
      try simp only [Act.put, List.getElem_toArray, List.getElem_cons_zero, List.getElem_cons_succ, List.setIfInBounds_toArray, List.set_cons_zero, List.set_cons_succ]
      refine wpAnyH_take (i := 15) (v := undef) rfl (by kernel_rfl) (by kernel_rfl) (by kernel_rfl) (fun _ _ _ h => h) (Or.inr ⟨by rfl, rfl⟩) (by assumption) ?_
      try simp only [Act.put, List.getElem_toArray, List.getElem_cons_zero, List.getElem_cons_succ, List.setIfInBounds_toArray, List.set_cons_zero, List.set_cons_succ]
      refine wpAnyH_take (i := 16) (v := undef) rfl (by kernel_rfl) (by kernel_rfl) (by kernel_rfl) (fun _ _ _ h => h) (Or.inr ⟨by rfl, rfl⟩) (by assumption) ?_
      try simp only [Act.put, List.getElem_toArray, List.getElem_cons_zero, List.getElem_cons_succ, List.setIfInBounds_toArray, List.set_cons_zero, List.set_cons_succ]
      refine wpAnyH_take (i := 17) (v := undef) rfl (by kernel_rfl) (by kernel_rfl) (by kernel_rfl) (fun _ _ _ h => h) (Or.inr ⟨by rfl, rfl⟩) (by assumption) ?_
      try simp only [Act.put, List.getElem_toArray, List.getElem_cons_zero, List.getElem_cons_succ, List.setIfInBounds_toArray, List.set_cons_zero, List.set_cons_succ]
      refine wpAnyH_take (i := 18) (v := undef) rfl (by kernel_rfl) (by kernel_rfl) (by kernel_rfl) (fun _ _ _ h => h) (Or.inr ⟨by rfl, rfl⟩) (by assumption) ?_
      try simp only [Act.put, List.getElem_toArray, List.getElem_cons_zero, List.getElem_cons_succ, List.setIfInBounds_toArray, List.set_cons_zero, List.set_cons_succ]
      refine wpAnyH_take (i := 19) (v := undef) rfl (by kernel_rfl) (by kernel_rfl) (by kernel_rfl) (fun _ _ _ h => h) (Or.inr ⟨by rfl, rfl⟩) (by assumption) ?_
      try simp only [Act.put, List.getElem_toArray, List.getElem_cons_zero, List.getElem_cons_succ, List.setIfInBounds_toArray, List.set_cons_zero, List.set_cons_succ]
      refine wpAnyH_take (i := 20) (v := undef) rfl (by kernel_rfl) (by kernel_rfl) (by kernel_rfl) (fun _ _ _ h => h) (Or.inr ⟨by rfl, rfl⟩) (by assumption) ?_
      try simp only [Act.put, List.getElem_toArray, List.getElem_cons_zero, List.getElem_cons_succ, List.setIfInBounds_toArray, List.set_cons_zero, List.set_cons_succ]
      refine wpAnyH_take (i := 21) (v := undef) rfl (by kernel_rfl) (by kernel_rfl) (by kernel_rfl) (fun _ _ _ h => h) (Or.inr ⟨by rfl, rfl⟩) (by assumption) ?_
      try simp only [Act.put, List.getElem_toArray, List.getElem_cons_zero, List.getElem_cons_succ, List.setIfInBounds_toArray, List.set_cons_zero, List.set_cons_succ]
      refine wpAnyH_take (i := 22) (v := undef) rfl (by kernel_rfl) (by kernel_rfl) (by kernel_rfl) (fun _ _ _ h => h) (Or.inr ⟨by rfl, rfl⟩) (by assumption) ?_
      try simp only [Act.put, List.getElem_toArray, List.getElem_cons_zero, List.getElem_cons_succ, List.setIfInBounds_toArray, List.set_cons_zero, List.set_cons_succ]
      refine wpAnyH_take (i := 23) (v := undef) rfl (by kernel_rfl) (by kernel_rfl) (by kernel_rfl) (fun _ _ _ h => h) (Or.inr ⟨by rfl, rfl⟩) (by assumption) ?_
      try simp only [Act.put, List.getElem_toArray, List.getElem_cons_zero, List.getElem_cons_succ, List.setIfInBounds_toArray, List.set_cons_zero, List.set_cons_succ]
      refine wpAnyH_take (i := 24) (v := undef) rfl (by kernel_rfl) (by kernel_rfl) (by kernel_rfl) (fun _ _ _ h => h) (Or.inr ⟨by rfl, rfl⟩) (by assumption) ?_
      try simp only [Act.put, List.getElem_toArray, List.getElem_cons_zero, List.getElem_cons_succ, List.setIfInBounds_toArray, List.set_cons_zero, List.set_cons_succ]
      refine wpAnyH_take (i := 25) (v := undef) rfl (by kernel_rfl) (by kernel_rfl) (by kernel_rfl) (fun _ _ _ h => h) (Or.inr ⟨by rfl, rfl⟩) (by assumption) ?_
      try simp only [Act.put, List.getElem_toArray, List.getElem_cons_zero, List.getElem_cons_succ, List.setIfInBounds_toArray, List.set_cons_zero, List.set_cons_succ]
      refine wpAnyH_take (i := 26) (v := undef) rfl (by kernel_rfl) (by kernel_rfl) (by kernel_rfl) (fun _ _ _ h => h) (Or.inr ⟨by rfl, rfl⟩) (by assumption) ?_
      try simp only [Act.put, List.getElem_toArray, List.getElem_cons_zero, List.getElem_cons_succ, List.setIfInBounds_toArray, List.set_cons_zero, List.set_cons_succ]
      refine wpAnyH_take (i := 27) (v := undef) rfl (by kernel_rfl) (by kernel_rfl) (by kernel_rfl) (fun _ _ _ h => h) (Or.inr ⟨by rfl, rfl⟩) (by assumption) ?_
      try simp only [Act.put, List.getElem_toArray, List.getElem_cons_zero, List.getElem_cons_succ, List.setIfInBounds_toArray, List.set_cons_zero, List.set_cons_succ]
      refine wpAnyH_take (i := 28) (v := ?_) rfl (by kernel_rfl) (by kernel_rfl) (by kernel_rfl) (fun _ _ _ h => h) (Or.inl ⟨by rfl, ?_⟩) (by assumption) ?_
      rotate_left
      · (intro w hSw; (try dsimp only at hSw); go_simp <;> with_reducible rfl)
      try simp only [Act.put, List.getElem_toArray, List.getElem_cons_zero, List.getElem_cons_succ, List.setIfInBounds_toArray, List.set_cons_zero, List.set_cons_succ]
      refine wpAnyH_done (by kernel_rfl) ?_ _
      go_wp2_with fail
      go_meet
      exact ⟨rfl, M1.out.trans (.below D9.out), L1.out.ext D9.out⟩
    case rest =>
      obtain ⟨rfl, m2, l2⟩ := hcut
      have M2 := hid m2; have L2 := hid l2
      clear m2 l2
      go_wp2_with fail
      go_ret2
      rw [HF.out]
      exact ⟨Z, rfl, L2.out, M2.out⟩
  have h12' : ((nodeF ys (j : Int)).o == 12) = true := beq_iff_eq.2 h12
  obtain ⟨t0, t1, htl, ht0, -⟩ := HT12.out (by unfold ndIs nodeE; rw [HS1.out, h12]; rfl)
  have HU3 := hid (show unblF ys (i : Int) draw = if t1 == draw then mk ys (ndN 10 [s0, t0]) else (ys, 0, 40) by rw [HU2.out, h12', htl]; rfl)
  rw [h12'] at HIS
  have hit0 : I64 t0 := has_i64 ok ht0
  have hyl : (nodeF ys (j : Int)).l.length = 2 := by rw [htl]; rfl
  rw [hyl] at n3
  rw [hyl, htl] at HL2
  obtain ⟨b2, o2, rfl, d0, d1⟩ := two_cells HL2.out
  have DZ := hid (Below.refl V.heap.size V)
  have D0 := hid (below_drew (Below.refl V.heap.size V))
  have HSC := hid (fun (U : World) (hb : Below V.heap.size V U) => (⟨(hb.cell (p := ⟨_, _, none⟩) (block_lt_of_cell x0)).trans x0, (hb.cell (p := ⟨_, _, none⟩) (block_lt_of_cell x3)).trans x3, (hb.cell (p := ⟨_, _, none⟩) (block_lt_of_cell c0)).trans c0, (hb.cell (p := ⟨_, _, none⟩) (block_lt_of_cell c1)).trans c1, (hb.cell (p := ⟨_, _, none⟩) (block_lt_of_cell y0)).trans y0, (hb.cell (p := ⟨_, _, none⟩) (block_lt_of_cell n3)).trans n3, (hb.cell (p := ⟨_, _, none⟩) (block_lt_of_cell d0)).trans d0, (hb.cell (p := ⟨_, _, none⟩) (block_lt_of_cell d1)).trans d1⟩ : U.cell? ⟨W.heap.size + 1, 0, none⟩ = some (.int .i64 x.o) ∧ U.cell? ⟨W.heap.size + 1, 3, none⟩ = some (.slice (some ⟨bb, oo, none⟩) 2 c') ∧ U.cell? ⟨bb, oo, none⟩ = some (.int .i64 s0) ∧ U.cell? ⟨bb, oo + 1, none⟩ = some (.int .i64 (j : Int)) ∧ U.cell? ⟨sb, 0, none⟩ = some (.slice (some ⟨b, off, none⟩) ys.length c) ∧ U.cell? ⟨b, off + j * 4 + 3, none⟩ = some (.slice (some ⟨b2, o2, none⟩) 2 c2') ∧ U.cell? ⟨b2, o2, none⟩ = some (.int .i64 t0) ∧ U.cell? ⟨b2, o2 + 1, none⟩ = some (.int .i64 t1)))
  clear h12 h12' HU2 HL2 HT12 htl ht0 hyl
  generalize nodeF ys (j : Int) = y at *
  obtain ⟨z, hz⟩ : ∃ z : Bool, z = (t1 != draw) := ⟨_, rfl⟩
  have hzc := hz.symm
  have HZ := hid hz
  clear hz
  go_cut [49] (fun v U => v = .bool z ∧ Below V.heap.size V U)
  case first =>
    refine wp_region_held_drew (S := fun U => U.cell? ⟨W.heap.size + 1, 0, none⟩ = some (.int .i64 x.o) ∧ U.cell? ⟨W.heap.size + 1, 3, none⟩ = some (.slice (some ⟨bb, oo, none⟩) 2 c') ∧ U.cell? ⟨bb, oo, none⟩ = some (.int .i64 s0) ∧ U.cell? ⟨bb, oo + 1, none⟩ = some (.int .i64 (j : Int)) ∧ U.cell? ⟨sb, 0, none⟩ = some (.slice (some ⟨b, off, none⟩) ys.length c) ∧ U.cell? ⟨b, off + j * 4 + 3, none⟩ = some (.slice (some ⟨b2, o2, none⟩) 2 c2') ∧ U.cell? ⟨b2, o2, none⟩ = some (.int .i64 t0) ∧ U.cell? ⟨b2, o2 + 1, none⟩ = some (.int .i64 t1)) (by kernel_rfl) ?_ (fun hHeld => ?_)
    · exact HSC.out _ D0.out
    refine wpAnyH_take (i := 0) (v := ?_) rfl (by kernel_rfl) (by kernel_rfl) (by kernel_rfl) (fun _ _ _ h => h) (Or.inl ⟨by rfl, ?_⟩) (by assumption) ?_
    rotate_left
    · (intro w hSw; (try dsimp only at hSw); go_simp <;> with_reducible rfl)
    try simp only [Act.put, List.getElem_toArray, List.getElem_cons_zero, List.getElem_cons_succ, List.setIfInBounds_toArray, List.set_cons_zero, List.set_cons_succ]
    refine wpAnyH_take (i := 1) (v := ?_) rfl (by kernel_rfl) (by kernel_rfl) (by kernel_rfl) (fun _ _ _ h => h) (Or.inl ⟨by rfl, ?_⟩) (by assumption) ?_
    rotate_left
    · (intro w hSw; (try dsimp only at hSw); go_simp <;> with_reducible rfl)
    try simp only [Act.put, List.getElem_toArray, List.getElem_cons_zero, List.getElem_cons_succ, List.setIfInBounds_toArray, List.set_cons_zero, List.set_cons_succ]
    refine wpAnyH_take (i := 2) (v := ?_) rfl (by kernel_rfl) (by kernel_rfl) (by kernel_rfl) (fun _ _ _ h => h) (Or.inl ⟨by rfl, ?_⟩) (by assumption) ?_
    rotate_left
    · (intro w hSw; (try dsimp only at hSw); go_simp <;> with_reducible rfl)
    try simp only [Act.put, List.getElem_toArray, List.getElem_cons_zero, List.getElem_cons_succ, List.setIfInBounds_toArray, List.set_cons_zero, List.set_cons_succ]
    refine wpAnyH_take (i := 3) (v := ?_) rfl (by kernel_rfl) (by kernel_rfl) (by kernel_rfl) (fun _ _ _ h => h) (Or.inl ⟨by rfl, ?_⟩) (by assumption) ?_
    rotate_left
    · (intro w hSw; (try dsimp only at hSw); go_simp <;> with_reducible rfl)
    try simp only [Act.put, List.getElem_toArray, List.getElem_cons_zero, List.getElem_cons_succ, List.setIfInBounds_toArray, List.set_cons_zero, List.set_cons_succ]
    refine wpAnyH_take (i := 4) (v := ?_) rfl (by kernel_rfl) (by kernel_rfl) (by kernel_rfl) (fun _ _ _ h => h) (Or.inl ⟨by rfl, ?_⟩) (by assumption) ?_
    rotate_left
    · (intro w hSw; (try dsimp only at hSw); go_simp <;> with_reducible rfl)
    try simp only [Act.put, List.getElem_toArray, List.getElem_cons_zero, List.getElem_cons_succ, List.setIfInBounds_toArray, List.set_cons_zero, List.set_cons_succ]
    refine wpAnyH_take (i := 5) (v := ?_) rfl (by kernel_rfl) (by kernel_rfl) (by kernel_rfl) (fun _ _ _ h => h) (Or.inl ⟨by rfl, ?_⟩) (by assumption) ?_
    rotate_left
    · (intro w hSw; (try dsimp only at hSw); go_simp <;> with_reducible rfl)
    try simp only [Act.put, List.getElem_toArray, List.getElem_cons_zero, List.getElem_cons_succ, List.setIfInBounds_toArray, List.set_cons_zero, List.set_cons_succ]
    refine wpAnyH_take (i := 6) (v := ?_) rfl (by kernel_rfl) (by kernel_rfl) (by kernel_rfl) (fun _ _ _ h => h) (Or.inl ⟨by rfl, ?_⟩) (by assumption) ?_
    rotate_left
    · (intro w hSw; (try dsimp only at hSw); go_simp <;> with_reducible rfl)
    try simp only [Act.put, List.getElem_toArray, List.getElem_cons_zero, List.getElem_cons_succ, List.setIfInBounds_toArray, List.set_cons_zero, List.set_cons_succ]
    refine wpAnyH_take (i := 7) (v := ?_) rfl (by kernel_rfl) (by kernel_rfl) (by kernel_rfl) (fun _ _ _ h => h) (Or.inl ⟨by rfl, ?_⟩) (by assumption) ?_
    rotate_left
    · (intro w hSw; (try dsimp only at hSw); go_simp <;> with_reducible rfl)
    try simp only [Act.put, List.getElem_toArray, List.getElem_cons_zero, List.getElem_cons_succ, List.setIfInBounds_toArray, List.set_cons_zero, List.set_cons_succ]
    refine wpAnyH_take (i := 8) (v := ?_) rfl (by kernel_rfl) (by kernel_rfl) (by kernel_rfl) (fun _ _ _ h => h) (Or.inl ⟨by rfl, ?_⟩) (by assumption) ?_
    rotate_left
    · (intro w hSw; (try dsimp only at hSw); go_simp <;> with_reducible rfl)
    try simp only [Act.put, List.getElem_toArray, List.getElem_cons_zero, List.getElem_cons_succ, List.setIfInBounds_toArray, List.set_cons_zero, List.set_cons_succ]
    refine wpAnyH_ready (rs := [9]) (by kernel_rfl) (by simp) ?_
    refine AllReadyH.cons rfl (fun K hK => ?_) AllReadyH.nil
    go_simp
    go_at_call 63
    refine HIS.out.mono ?_
    rintro e9 w9 ⟨rfl, hw9⟩
    have D9 := hid (show Below V.heap.size V w9 by rw [hw9]; exact (D0.out.alloc D0.out.size _))
    clear hw9
    refine hK.out _ _ ?_ (fun hHeld => ?_)
    · exact HSC.out _ D9.out
    clear hK K
    try simp only [Act.put, List.getElem_toArray, List.getElem_cons_zero, List.getElem_cons_succ, List.setIfInBounds_toArray, List.set_cons_zero, List.set_cons_succ]
    refine wpAnyH_take (i := 10) (v := ?_) rfl (by kernel_rfl) (by kernel_rfl) (by kernel_rfl) (fun _ _ _ h => h) (Or.inl ⟨by rfl, ?_⟩) (by assumption) ?_
    rotate_left
    · (intro w hSw; (try dsimp only at hSw); go_simp <;> with_reducible rfl)
    try simp only [Act.put, List.getElem_toArray, List.getElem_cons_zero, List.getElem_cons_succ, List.setIfInBounds_toArray, List.set_cons_zero, List.set_cons_succ]
    refine wpAnyH_take (i := 11) (v := ?_) rfl (by kernel_rfl) (by kernel_rfl) (by kernel_rfl) (fun _ _ _ h => h) (Or.inl ⟨by rfl, ?_⟩) (by assumption) ?_
    rotate_left
    · (intro w hSw; (try dsimp only at hSw); go_simp <;> with_reducible rfl)
    try simp only [Act.put, List.getElem_toArray, List.getElem_cons_zero, List.getElem_cons_succ, List.setIfInBounds_toArray, List.set_cons_zero, List.set_cons_succ]
    refine wpAnyH_take (i := 12) (v := ?_) rfl (by kernel_rfl) (by kernel_rfl) (by kernel_rfl) (fun _ _ _ h => h) (Or.inl ⟨by rfl, ?_⟩) (by assumption) ?_
    rotate_left
    · (intro w hSw; (try dsimp only at hSw); go_simp <;> with_reducible rfl)
    try simp only [Act.put, List.getElem_toArray, List.getElem_cons_zero, List.getElem_cons_succ, List.setIfInBounds_toArray, List.set_cons_zero, List.set_cons_succ]
    refine wpAnyH_take (i := 13) (v := ?_) rfl (by kernel_rfl) (by kernel_rfl) (by kernel_rfl) (fun _ _ _ h => h) (Or.inl ⟨by rfl, ?_⟩) (by assumption) ?_
    rotate_left
    · (intro w hSw; (try dsimp only at hSw); go_simp <;> with_reducible rfl)
    try simp only [Act.put, List.getElem_toArray, List.getElem_cons_zero, List.getElem_cons_succ, List.setIfInBounds_toArray, List.set_cons_zero, List.set_cons_succ]
    refine wpAnyH_take (i := 14) (v := ?_) rfl (by kernel_rfl) (by kernel_rfl) (by kernel_rfl) (fun _ _ _ h => h) (Or.inl ⟨by rfl, ?_⟩) (by assumption) ?_
    rotate_left
    · (intro w hSw; (try dsimp only at hSw); go_simp <;> with_reducible rfl)
    try simp only [Act.put, List.getElem_toArray, List.getElem_cons_zero, List.getElem_cons_succ, List.setIfInBounds_toArray, List.set_cons_zero, List.set_cons_succ]
    refine wpAnyH_take (i := 15) (v := ?_) rfl (by kernel_rfl) (by kernel_rfl) (by kernel_rfl) (fun _ _ _ h => h) (Or.inl ⟨by rfl, ?_⟩) (by assumption) ?_
    rotate_left
    · (intro w hSw; (try dsimp only at hSw); go_simp <;> with_reducible rfl)
    try simp only [Act.put, List.getElem_toArray, List.getElem_cons_zero, List.getElem_cons_succ, List.setIfInBounds_toArray, List.set_cons_zero, List.set_cons_succ]
    refine wpAnyH_take (i := 16) (v := ?_) rfl (by kernel_rfl) (by kernel_rfl) (by kernel_rfl) (fun _ _ _ h => h) (Or.inl ⟨by rfl, ?_⟩) (by assumption) ?_
    rotate_left
    · (intro w hSw; (try dsimp only at hSw); go_simp <;> with_reducible rfl)
    try simp only [Act.put, List.getElem_toArray, List.getElem_cons_zero, List.getElem_cons_succ, List.setIfInBounds_toArray, List.set_cons_zero, List.set_cons_succ]
    refine wpAnyH_take (i := 17) (v := ?_) rfl (by kernel_rfl) (by kernel_rfl) (by kernel_rfl) (fun _ _ _ h => h) (Or.inl ⟨by rfl, ?_⟩) (by assumption) ?_
    rotate_left
    · (intro w hSw; (try dsimp only at hSw); go_simp <;> with_reducible rfl)
    try simp only [Act.put, List.getElem_toArray, List.getElem_cons_zero, List.getElem_cons_succ, List.setIfInBounds_toArray, List.set_cons_zero, List.set_cons_succ]
    refine wpAnyH_take (i := 18) (v := ?_) rfl (by kernel_rfl) (by kernel_rfl) (by kernel_rfl) (fun _ _ _ h => h) (Or.inl ⟨by rfl, ?_⟩) (by assumption) ?_
    rotate_left
    · (intro w hSw; (try dsimp only at hSw); go_simp <;> with_reducible rfl)
    try simp only [Act.put, List.getElem_toArray, List.getElem_cons_zero, List.getElem_cons_succ, List.setIfInBounds_toArray, List.set_cons_zero, List.set_cons_succ]
    refine wpAnyH_take (i := 19) (v := ?_) rfl (by kernel_rfl) (by kernel_rfl) (by kernel_rfl) (fun _ _ _ h => h) (Or.inl ⟨by rfl, ?_⟩) (by assumption) ?_
    rotate_left
    · (intro w hSw; (try dsimp only at hSw); go_simp <;> with_reducible rfl)
    try simp only [Act.put, List.getElem_toArray, List.getElem_cons_zero, List.getElem_cons_succ, List.setIfInBounds_toArray, List.set_cons_zero, List.set_cons_succ]
    refine wpAnyH_take (i := 20) (v := ?_) rfl (by kernel_rfl) (by kernel_rfl) (by kernel_rfl) (fun _ _ _ h => h) (Or.inl ⟨by rfl, ?_⟩) (by assumption) ?_
    rotate_left
    · (intro w hSw; (try dsimp only at hSw); go_simp <;> with_reducible rfl)
    try simp only [Act.put, List.getElem_toArray, List.getElem_cons_zero, List.getElem_cons_succ, List.setIfInBounds_toArray, List.set_cons_zero, List.set_cons_succ]
    refine wpAnyH_take (i := 21) (v := ?_) rfl (by kernel_rfl) (by kernel_rfl) (by kernel_rfl) (fun _ _ _ h => h) (Or.inl ⟨by rfl, ?_⟩) (by assumption) ?_
    rotate_left
    · (intro w hSw; (try dsimp only at hSw); go_simp <;> with_reducible rfl)
    try simp only [Act.put, List.getElem_toArray, List.getElem_cons_zero, List.getElem_cons_succ, List.setIfInBounds_toArray, List.set_cons_zero, List.set_cons_succ]
    refine wpAnyH_take (i := 22) (v := ?_) rfl (by kernel_rfl) (by kernel_rfl) (by kernel_rfl) (fun _ _ _ h => h) (Or.inl ⟨by rfl, ?_⟩) (by assumption) ?_
    rotate_left
    · (intro w hSw; (try dsimp only at hSw); go_simp <;> with_reducible rfl)
    try simp only [Act.put, List.getElem_toArray, List.getElem_cons_zero, List.getElem_cons_succ, List.setIfInBounds_toArray, List.set_cons_zero, List.set_cons_succ]
    refine wpAnyH_take (i := 23) (v := ?_) rfl (by kernel_rfl) (by kernel_rfl) (by kernel_rfl) (fun _ _ _ h => h) (Or.inl ⟨by rfl, ?_⟩) (by assumption) ?_
    rotate_left
    · (intro w hSw; (try dsimp only at hSw); go_simp <;> with_reducible rfl)
    try simp only [Act.put, List.getElem_toArray, List.getElem_cons_zero, List.getElem_cons_succ, List.setIfInBounds_toArray, List.set_cons_zero, List.set_cons_succ]
    refine wpAnyH_take (i := 24) (v := ?_) rfl (by kernel_rfl) (by kernel_rfl) (by kernel_rfl) (fun _ _ _ h => h) (Or.inl ⟨by rfl, ?_⟩) (by assumption) ?_
    rotate_left
    · (intro w hSw; (try dsimp only at hSw); go_simp <;> with_reducible rfl)
    try simp only [Act.put, List.getElem_toArray, List.getElem_cons_zero, List.getElem_cons_succ, List.setIfInBounds_toArray, List.set_cons_zero, List.set_cons_succ]
    refine wpAnyH_take (i := 25) (v := ?_) rfl (by kernel_rfl) (by kernel_rfl) (by kernel_rfl) (fun _ _ _ h => h) (Or.inl ⟨by rfl, ?_⟩) (by assumption) ?_
    rotate_left
    · (intro w hSw; (try dsimp only at hSw); go_simp <;> with_reducible rfl)
    try simp only [Act.put, List.getElem_toArray, List.getElem_cons_zero, List.getElem_cons_succ, List.setIfInBounds_toArray, List.set_cons_zero, List.set_cons_succ]
    refine wpAnyH_take (i := 26) (v := ?_) rfl (by kernel_rfl) (by kernel_rfl) (by kernel_rfl) (fun _ _ _ h => h) (Or.inl ⟨by rfl, ?_⟩) (by assumption) ?_
    rotate_left
    · (intro w hSw; (try dsimp only at hSw); go_simp <;> with_reducible rfl)
    try simp only [Act.put, List.getElem_toArray, List.getElem_cons_zero, List.getElem_cons_succ, List.setIfInBounds_toArray, List.set_cons_zero, List.set_cons_succ]
    refine wpAnyH_take (i := 27) (v := ?_) rfl (by kernel_rfl) (by kernel_rfl) (by kernel_rfl) (fun _ _ _ h => h) (Or.inl ⟨by rfl, ?_⟩) (by assumption) ?_
    rotate_left
    · (intro w hSw; (try dsimp only at hSw); go_simp <;> with_reducible rfl)
    try simp only [Act.put, List.getElem_toArray, List.getElem_cons_zero, List.getElem_cons_succ, List.setIfInBounds_toArray, List.set_cons_zero, List.set_cons_succ]
    refine wpAnyH_take (i := 28) (v := ?_) rfl (by kernel_rfl) (by kernel_rfl) (by kernel_rfl) (fun _ _ _ h => h) (Or.inl ⟨by rfl, ?_⟩) (by assumption) ?_
    rotate_left
    · (intro w hSw; (try dsimp only at hSw); go_simp <;> with_reducible rfl)
    try simp only [Act.put, List.getElem_toArray, List.getElem_cons_zero, List.getElem_cons_succ, List.setIfInBounds_toArray, List.set_cons_zero, List.set_cons_succ]
    refine wpAnyH_done (by kernel_rfl) ?_ _
    go_wp2_with fail
    go_meet
    exact ⟨rfl, D9.out⟩
  case rest =>
    obtain ⟨rfl, hb⟩ := hcut
    have DU := hid hb
    clear hb x0 x3 c0 c1 y0 n3 d0 d1 hzc
    rcases z with _ | _
    · have hF : t1 = draw := by have := HZ.out; simpa using this.symm
      have HF := hid (show unblF ys (i : Int) draw = mk ys (ndN 10 [s0, t0]) by rw [HU3.out, hF, beq_self_eq_true, if_pos rfl])
      clear hF HU3
      obtain ⟨x0, x3, c0, c1, y0, n3, d0, d1⟩ := HSC.out _ DU.out
      have HO := hid (q_of2 (L1.out.ext (below_drew DU.out)) (o := 10) (a := s0) (b := t0) (i64_lit (by decide) (by decide)) hi0 hit0)
      have M2 := hid (M1.out.trans (.below (below_drew DU.out)))
      obtain ⟨r, hr⟩ : ∃ r : Rs, r = mk ys (ndN 10 [s0, t0]) := ⟨_, rfl⟩
      rw [← hr] at HO
      have HR := hid (HF.out.trans hr.symm)
      clear hr HF HIS HSC
      have x3d := x3
      go_upto_region 6 with fail
      go_cut [6, 7] (fun p q U => p = .int .i64 r.2.1 ∧ q = .int .i64 r.2.2 ∧ ∃ Z3, LQ w0 U Z3 sb r.1 ∧ Mv Z W Z3 U)
      case first =>
        refine wp_region_any (by kernel_rfl) ?_
        change wpAny _ _ _ _ 24 _ _ wc.drew
        refine wpAny_take (i := 0) (v := ?_) rfl (by kernel_rfl) (by kernel_rfl) (by kernel_rfl) (fun _ _ _ h => h) (Or.inl ⟨by rfl, ?_⟩) ?_
        rotate_left
        · (intro w; go_simp <;> with_reducible rfl)
        try simp only [Act.put, List.getElem_toArray, List.getElem_cons_zero, List.getElem_cons_succ, List.setIfInBounds_toArray, List.set_cons_zero, List.set_cons_succ]
        refine wpAny_head 1 18 (by kernel_rfl) ?_
        simp only [List.drop_succ_cons, List.drop_zero, List.take_succ_cons, List.take_zero]
        repeat still_step
        try refine wpStill_nil ?_
        change wpAny _ _ _ _ 6 _ _ _
        refine wpAny_ready (rs := [18]) (by kernel_rfl) (by simp) ?_
        refine AllReady.cons rfl (fun K hK => ?_) AllReady.nil
        go_simp
        refine hK _ _ ?_
        clear hK K
        try simp only [Act.put, List.getElem_toArray, List.getElem_cons_zero, List.getElem_cons_succ, List.setIfInBounds_toArray, List.set_cons_zero, List.set_cons_succ]
        refine wpAny_ready (rs := [19]) (by kernel_rfl) (by simp) ?_
        refine AllReady.cons rfl (fun K hK => ?_) AllReady.nil
        go_simp
        refine Calls.mono HO.out ?_
        rintro e9 w9 ⟨Z9, rfl, l9, m9⟩
        have S9 := hid (And.intro l9 (M2.out.trans m9))
        clear l9 m9
        refine hK _ _ ?_
        clear hK K
        try simp only [Act.put, List.getElem_toArray, List.getElem_cons_zero, List.getElem_cons_succ, List.setIfInBounds_toArray, List.set_cons_zero, List.set_cons_succ]
        refine wpAny_take (i := 20) (v := ?_) rfl (by kernel_rfl) (by kernel_rfl) (by kernel_rfl) (fun _ _ _ h => h) (Or.inl ⟨by rfl, ?_⟩) ?_
        rotate_left
        · (intro w; go_simp <;> with_reducible rfl)
        try simp only [Act.put, List.getElem_toArray, List.getElem_cons_zero, List.getElem_cons_succ, List.setIfInBounds_toArray, List.set_cons_zero, List.set_cons_succ]
        refine wpAny_take (i := 21) (v := ?_) rfl (by kernel_rfl) (by kernel_rfl) (by kernel_rfl) (fun _ _ _ h => h) (Or.inl ⟨by rfl, ?_⟩) ?_
        rotate_left
        · (intro w; go_simp <;> with_reducible rfl)
        try simp only [Act.put, List.getElem_toArray, List.getElem_cons_zero, List.getElem_cons_succ, List.setIfInBounds_toArray, List.set_cons_zero, List.set_cons_succ]
        refine wpAny_take (i := 22) (v := ?_) rfl (by kernel_rfl) (by kernel_rfl) (by kernel_rfl) (fun _ _ _ h => h) (Or.inl ⟨by rfl, ?_⟩) ?_
        rotate_left
        · (intro w; go_simp <;> with_reducible rfl)
        try simp only [Act.put, List.getElem_toArray, List.getElem_cons_zero, List.getElem_cons_succ, List.setIfInBounds_toArray, List.set_cons_zero, List.set_cons_succ]
        refine wpAny_take (i := 23) (v := ?_) rfl (by kernel_rfl) (by kernel_rfl) (by kernel_rfl) (fun _ _ _ h => h) (Or.inl ⟨by rfl, ?_⟩) ?_
        rotate_left
        · (intro w; go_simp <;> with_reducible rfl)
        try simp only [Act.put, List.getElem_toArray, List.getElem_cons_zero, List.getElem_cons_succ, List.setIfInBounds_toArray, List.set_cons_zero, List.set_cons_succ]
        refine wpAny_done (by kernel_rfl) ?_ _
        go_wp2_with fail
        go_meet
        exact ⟨rfl, rfl, _, S9.out.1, S9.out.2⟩
      case rest =>
        obtain ⟨rfl, rfl, Z3, l3, m3⟩ := hcut
        have L3 := hid l3; have M3 := hid m3
        clear l3 m3
        go_wp2_with fail
        go_ret2
        rw [HR.out]
        exact ⟨Z3, rfl, L3.out, M3.out⟩
    · have HF := hid (show unblF ys (i : Int) draw = (ys, 0, 40) by
        have h := HZ.out
        rw [HU3.out, if_neg]
        intro e
        rw [beq_iff_eq] at e
        rw [e] at h
        simp at h)
      go_wp2_with fail
      go_ret2
      rw [HF.out]
      exact ⟨Z, rfl, L1.out.ext DU.out, M1.out.trans (.below DU.out)⟩
end
end Go.Proofs.YtfmkniakfgpgjaaDoor

/- the document's token layer: Finish; the law's last. -/
namespace Go.Proofs.YtfmkniakfgpgjaaDoor
open Go.RowKit Go.KK Go.Shelf Go.Maps
set_option linter.unusedVariables false
set_option linter.unusedSimpArgs false

/-- An atom of a negative number is none. -/
theorem atN_neg {xs : List ND} {n : Int} (h : n < 0) : makT xs (atN n) = xs ∧ makI xs (atN n) = 0 ∧ makE xs (atN n) = 1 := by
  have hm : mayB xs (atN n) = false := by
    unfold mayB shB
    rw [show decide (0 ≤ (atN n).n) = false from decide_eq_false (by show ¬ 0 ≤ n; omega)]
    simp
  refine ⟨?_, ?_, ?_⟩ <;> simp [makT, makI, makE, hm]
section
variable {w0 W W' : World} {Z Z' : Nat → Prop} {sb : Nat} {ys ys' : List ND}
set_option maxHeartbeats 2000000 in
set_option maxRecDepth 100000 in
theorem rfin_any (h : LQ w0 W Z sb ys) {sig draw : Int} (hd : I64 draw) :
    Calls Tryd.prog 17 #[.pointer (some ⟨sb, 0, none⟩), .int .i64 sig, .int .i64 draw] W (LrQ w0 W Z sb (finF ys sig draw)) := by
  by_cases hd0 : 0 ≤ draw
  · have HX := hid (q_atom h (n := draw) hd)
    have hd1 : ¬ draw < 0 := by omega
    by_cases he : makE ys (atN draw) = 0
    · have HF := hid (show finF ys sig draw = unblF (makT ys (atN draw)) sig (makI ys (atN draw)) by unfold finF; rw [he]; rfl)
      rw [HF.out]
      unfold LrQ mk at HX
      rw [he] at HX
      clear he
      generalize makI ys (atN draw) = ti at *
      generalize makT ys (atN draw) = Y at *
      obtain ⟨r, hr⟩ : ∃ r : Rs, r = unblF Y sig ti := ⟨_, rfl⟩
      rw [← hr]
      have HR := hid hr
      clear hr HF h
      go_enter Tryd.func17, Tryd.ntmps17
      go_wp2_with fail
      refine HX.out.mono ?_
      rintro e w2 ⟨Z2, rfl, l2, m2⟩
      have HO := hid (runb_any l2 (sig := sig) (draw := ti))
      rw [← HR.out] at HO
      have M2 := hid m2
      clear l2 m2 HX
      go_wp2_with fail
      refine HO.out.mono ?_
      rintro e w3 ⟨Z3, rfl, l3, m3⟩
      have L3 := hid l3; have M3 := hid (M2.out.trans m3)
      clear l3 m3 HO
      go_wp2_with fail
      go_ret2
      exact ⟨Z3, rfl, L3.out, M3.out⟩
    · have HF := hid (show finF ys sig draw = (makT ys (atN draw), 0, makE ys (atN draw)) by unfold finF; rw [beq_eq_false_iff_ne.2 he]; rfl)
      rw [HF.out]
      unfold LrQ mk at HX
      have hne : (makE ys (atN draw) != 0) = true := bne_iff_ne.2 he
      clear he h
      generalize makE ys (atN draw) = te at *
      generalize makI ys (atN draw) = ti at *
      generalize makT ys (atN draw) = Y at *
      go_enter Tryd.func17, Tryd.ntmps17
      go_wp2_with fail
      refine HX.out.mono ?_
      rintro e w2 ⟨Z2, rfl, l2, m2⟩
      have L2 := hid l2; have M2 := hid m2
      clear l2 m2 HX HF
      go_wp2_with fail
      go_ret2
      exact ⟨Z2, rfl, L2.out, M2.out⟩
  · have hd1 : draw < 0 := by omega
    have HF := hid (show finF ys sig draw = (ys, 0, 1) by unfold finF; rw [(atN_neg hd1).2.2, (atN_neg hd1).1]; rfl)
    have H := hid h
    rw [HF.out]
    clear h
    go_enter Tryd.func17, Tryd.ntmps17
    go_wp2_with fail
    go_ret2
    exact ⟨Z, rfl, H.out, .below (Below.refl _ _)⟩
end
/-- A term, or one of those that were told last. -/
def lastF (l : List Int) (x : Int) : Int := if x < 100 ∨ (l.length : Int) ≤ x - 100 then min x 11 else l.getD (l.length - 1 - (x - 100).toNat) 0
set_option maxHeartbeats 2000000 in
theorem last_any (A : Option Addr) (n c : Nat) (l : List Int) (x : Int) (w : World) (h : SlA w 1 A n c (l.map (.int .i64))) (hn : n ≤ 1000000) (hx : I64 x) :
    Calls Tryd.prog 14 #[.slice A n c, .int .i64 x] w fun e w' => e = .returned (.int .i64 (lastF l x)) ∧ w' = w := by
  have e := h.lenI
  obtain ⟨hx0, hx1⟩ := hx
  have HH := hid h
  by_cases h1 : x < 100
  · have HF := hid (show lastF l x = min x 11 by unfold lastF; rw [if_pos (.inl h1)])
    rw [HF.out]
    go_enter Tryd.func14, Tryd.ntmps14
    go_wp2
    go_ret
    exact ⟨rfl, rfl⟩
  · have hw1 : RowKit.wrap64 (x - 100) = x - 100 := wrap_id (by omega) (by omega)
    by_cases h2 : (n : Int) ≤ x - 100
    · have HF := hid (show lastF l x = min x 11 by unfold lastF; rw [if_pos (.inr (by rw [e]; exact h2))])
      rw [HF.out]
      go_enter Tryd.func14, Tryd.ntmps14
      go_wp2
      go_ret
      exact ⟨rfl, rfl⟩
    · obtain ⟨j, hj⟩ : ∃ j : Nat, (n : Int) - 1 - (x - 100) = (j : Int) := Int.eq_ofNat_of_zero_le (by omega)
      obtain ⟨b, o, z, rfl, hz, hc⟩ := HH.out.elemI (k := j) (by omega)
      have HF := hid (show lastF l x = z by
        unfold lastF
        rw [if_neg (by rw [e]; omega), e, show n - 1 - (x - 100).toNat = j by omega]
        simp [List.getD, hz])
      rw [HF.out]
      have hw2 : RowKit.wrap64 ((n : Int) - 1) = (n : Int) - 1 := wrap_id (by omega) (by omega)
      have hw3 : RowKit.wrap64 ((n : Int) - 1 - (x - 100)) = (j : Int) := by rw [hj]; exact wrap_id (by omega) (by omega)
      have hjn : (j : Int) < (n : Int) := by omega
      go_enter Tryd.func14, Tryd.ntmps14
      go_wp2
      go_ret
      exact ⟨rfl, rfl⟩
end Go.Proofs.YtfmkniakfgpgjaaDoor

