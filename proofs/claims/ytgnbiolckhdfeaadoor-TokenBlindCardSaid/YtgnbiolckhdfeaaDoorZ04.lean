import Derived.Test.YtgnbiolckhdfeaaDoorZ02
import Derived.Test.YtgnbiolckhdfeaaDoorZ03
import Derived.Carry
import Derived.Deep.RegionHeld3
import Derived.Laws.ResultCell
/- the document's term: a node is made. -/
namespace Go.KK
open Go.RowKit Go.Maps
set_option linter.unusedVariables false
set_option linter.unusedSimpArgs false
theorem step_mapUpdate_own {H : Type} {P : Program} (w : World) {ops : Array Oper} {o : Oper} {a : Act} {K' : Act → World → Prop} {Q : Exit → Act → World → Prop} {E : Prop}
    (hg : o.guard = none) (m x v : Operand) (t : TypeId) (hop : o.op = Op.mapUpdate t m x v)
    (k e : TypeId) (K : Keyed P k) (ht : P.underlying t = some (.map k e)) (R : Value → Option (DataW H × List MemPlace)) (b n : Nat) (D : DataW H)
    (hm : a.eval m = .map (some b)) (hown : w.ownsMap P k R b n D) (hn : n < maxLen) (key val : Value) (kl : Lit) (hx : a.eval x = key) (hv : a.eval v = val) (hkey : keyOf P k key = some kl)
    (d : DataW H) (ps : List MemPlace) (hval : R val = some (d, ps))
    (hK : ∀ w', w'.ownsMap P k R b (n + 1) (D.put kl d) → w.grownBy w' (some b) → K' (a.put o.dst undef) w') :
    if Region.wanted o (yielded ops a.tmps) = true then Oper.wp P o a w K' Q else E := by
  have hw : Region.wanted o (yielded ops a.tmps) = true := by simp [Region.wanted, hg]
  rw [if_pos hw]
  obtain ⟨w', hrun, r1, r2⟩ := hown.update K ht hn hkey hval
  unfold Oper.wp
  simp [execOp, hop, hm, hx, hv, hrun, Result.andThen]
  exact hK w' r1 r2
end Go.KK
namespace Go.Proofs.YtgnbiolckhdfeaaDoor
open Go.RowKit Go.KK Go.Shelf Go.Maps Go.ChangeMaps

/-- What a call that makes a node leaves. -/
def MakR (w : World) (Z : Nat → Prop) (st mp : Nat) (xs : List ND) (w' : World) : Prop := ∃ Z' v' qs', ArR w' Z' st mp v' xs qs' ∧ Turn Z w w' ∧ ∀ b, Z' b → Z b ∨ w.heap.size ≤ b
theorem makR_below {w w' : World} {Z : Nat → Prop} {st mp : Nat} {v : Value} {xs : List ND} {qs : List Value} (h : ArR w Z st mp v xs qs) (hb : Below w.heap.size w w') : MakR w Z st mp xs w' :=
  ⟨Z, v, qs, h.ext hb, .of_below hb, fun _ h => .inl h⟩
theorem rmake_done {w W W1 w4 w6 : World} {Z : Nat → Prop} {st mp : Nat} {v v4 q : Value} {xs : List ND} {qs : List Value} {x : ND} {D : MD} {b2 : Nat} (h : ArR w Z st mp v xs qs) (hB : Below w.heap.size w W) (hb1 : ∀ b, b < W.heap.size → W1.heap[b]? = W.heap[b]?) (hs1 : W.heap.size ≤ W1.heap.size)
    (hot : W1.os = W.os ∧ W1.tape = W.tape ∧ W1.output = W.output)
    (hq : W.ownsRow b2 3 1 q x.l.length (x.l.map (.int .i64))) (hb2 : w.heap.size < b2) (hg4 : W1.grownBy w4 v.ownBlock) (h4 : w4.ownsRow 0 58 4 v4 (xs.length + 1) (nds xs qs ++ x.cells q)) (hl4 : v4.ownBlock = v.ownBlock ∨ v4.ownBlock = some W1.heap.size)
    (hbx : w4.heap[st]? = some (.cells #[v, .map (some mp)] 82 (0, 0))) (hm : w6.ownsMap Tryd.prog 9 (plainElem Tryd.prog 3) mp (xs.length + 1) D) (hmo : MapOk keyR (xs ++ [x]) D) (hok : Okay (xs ++ [x]))
    (hg6 : (w4.setCell ⟨st, 0, none⟩ v4).grownBy w6 (some mp)) : MakR w Z st mp (xs ++ [x]) w6 := by
  have hzl := h.zlt
  have l1 := hzl _ h.zst
  have l2 := hzl _ h.zmp.1
  have hmne := h.zmp.2
  have s1 := hB.size
  have s4 := hg4.size
  have s5 : (w4.setCell ⟨st, 0, none⟩ v4).heap.size = w4.heap.size := by simp
  have s6 := hg6.size
  rw [s5] at s6
  have hne : some st ≠ v.ownBlock := fun e => (h.zv st e.symm).2.1 rfl
  have box6 : w6.heap[st]? = some (.cells #[v4, .map (some mp)] 82 (0, 0)) := by
    rw [hg6.block st (by rw [s5]; omega) (by intro e; injection e with e; exact hmne e.symm), heap_setCell_same w4 st 0 _ _ v4 hbx]
    rfl
  have step : ∀ b, b < w4.heap.size → b ≠ st → b ≠ mp → w6.heap[b]? = w4.heap[b]? := fun b hb h1 h2 => by
    rw [hg6.block b (by rw [s5]; exact hb) (by intro e; injection e with e; exact h2 e), Below.heap_setCell w4 ⟨st, 0, none⟩ v4 b h1]
  have hv4 : v4.ownBlock = v.ownBlock ∨ ∀ b, v4.ownBlock = some b → w.heap.size ≤ b ∧ b < w6.heap.size := by
    rcases hl4 with e | e
    · exact .inl e
    · refine .inr fun b hb => ?_
      have hlt := (h4.lt b hb).2
      rw [e] at hb
      injection hb with hb
      omega
  have vlt : ∀ b, v4.ownBlock = some b → b < w4.heap.size ∧ b ≠ st ∧ b ≠ mp := fun b hb => by
    refine ⟨(h4.lt b hb).2, ?_⟩
    rcases hl4 with e | e
    · have := h.zv b (e ▸ hb); exact ⟨this.2.1, this.2.2⟩
    · rw [e] at hb; injection hb with hb; omega
  have hqk : ∀ b, q.ownBlock = some b → b2 ≤ b ∧ b < W.heap.size ∧ w6.heap[b]? = W.heap[b]? := fun b hb => by
    obtain ⟨q1, q2⟩ := hq.lt b hb
    refine ⟨q1, q2, ?_⟩
    rw [step b (by omega) (by omega) (by omega), hg4.block b (by omega) (fun e => by have := (h.zv b e.symm).1; have := hzl b this; omega), hb1 b q2]
  have hold : ∀ b, b < w.heap.size → b ≠ st → b ≠ mp → v.ownBlock ≠ some b → w6.heap[b]? = w.heap[b]? := fun b hb h1 h2 h3 => by
    rw [step b (by omega) h1 h2, hg4.block b (by omega) (fun e => h3 e.symm), hb1 b (by omega), hB.block b hb]
  have row6 : w6.ownsRow 0 58 4 v4 (xs.length + 1) (nds xs qs ++ x.cells q) := own_block h4 fun b hb => by
    obtain ⟨a1, a2, a3⟩ := vlt b hb
    exact step b a1 a2 a3
  obtain ⟨Aq, cq, hqe, -⟩ := SlA.owned hq
  have hq6 : In1 w6 q x.l := by
    have := own_block hq (w' := w6) fun b hb => (hqk b hb).2.2
    obtain ⟨A', c', e', hs'⟩ := SlA.owned this
    exact ⟨A', c', e', hs'⟩
  have hP := h.push (w' := w6) (v' := v4) (q := q) (x := x) (D := D) hok box6 row6 hv4 hq6 (fun hne' b hb => by
    obtain ⟨a1, a2, a3⟩ := hqk b hb
    refine ⟨by omega, by omega, fun e => ?_⟩
    rcases hl4 with e4 | e4
    · have := (h.zv b (e4 ▸ e)).1; have := hzl b this; omega
    · rw [e4] at e; injection e with e; omega) hm hmo (fun b hz h1 h2 h3 => hold b (hzl b hz) h1 h2 h3) (by omega)
  refine ⟨_, v4, _, hP, ⟨?_, ?_, ?_, by omega, fun b hb hz => hold b hb (fun e => hz (e ▸ h.zst)) (fun e => hz (e ▸ h.zmp.1)) (fun e => hz (h.zv b e).1)⟩, fun b hb => ?_⟩
  · rw [hg6.os, show (w4.setCell ⟨st, 0, none⟩ v4).os = w4.os from (Turn.setCell (F := fun _ => True) (w := w4) (a := ⟨st, 0, none⟩) v4 (.inl trivial)).os, hg4.os, hot.1, hB.os]
  · rw [hg6.tape, show (w4.setCell ⟨st, 0, none⟩ v4).tape = w4.tape from (Turn.setCell (F := fun _ => True) (w := w4) (a := ⟨st, 0, none⟩) v4 (.inl trivial)).tape, hg4.tape, hot.2.1, hB.tape]
  · rw [hg6.output, show (w4.setCell ⟨st, 0, none⟩ v4).output = w4.output from (Turn.setCell (F := fun _ => True) (w := w4) (a := ⟨st, 0, none⟩) v4 (.inl trivial)).output, hg4.output, hot.2.2, hB.output]
  · rcases hb with hb | hb
    · exact .inl hb
    · exact .inr hb.1
section
variable (Z : Nat → Prop) (st mp : Nat) (v : Value) (xs : List ND) (qs : List Value) (x : ND) (A : Option Addr) (c : Nat) (w : World)
set_option maxHeartbeats 1000000 in
theorem rmake_no (h : ArR w Z st mp v xs qs) (hl : SlA w 1 A x.l.length c (x.l.map (.int .i64))) (hm : mayB xs x = false) :
    Calls Tryd.prog 56 #[.pointer (some ⟨st, 0, none⟩), .agg #[.int .i64 x.o, .int .i64 x.n, .string x.s, .slice A x.l.length c]] w fun e w' => e = .returned (.tuple #[.int .i64 0, .int .i64 1]) ∧ Below w.heap.size w w' := by
  have H := hid (Ar.v h); have HS := hid hl; have HM := hid hm
  have B0 := hid (show Below w.heap.size w (w.alloc (.cells #[.int .i64 x.o, .int .i64 x.n, .string x.s, .slice A x.l.length c] 58)) from (Below.refl _ _).alloc (Nat.le_refl _) _)
  clear h hl hm
  go_enter Tryd.func56, Tryd.ntmps56
  go_wp2_with fail
  refine (rmay_any st xs x A c _ (H.out.ext B0.out) (HS.out.ext B0.out)).mono ?_
  rintro e1 w1 ⟨rfl, b1⟩
  rw [HM.out]
  have B1 := hid (B0.out.trans (b1.mono B0.out.size))
  clear b1
  go_wp2_with fail
  go_ret2
  exact ⟨rfl, B1.out⟩
set_option maxHeartbeats 4000000 in
set_option maxRecDepth 20000 in
theorem rmake_yes (h : ArR w Z st mp v xs qs) (hl : SlA w 1 A x.l.length c (x.l.map (.int .i64))) (hm : mayB xs x = true) (hx : NdI x) :
    Calls Tryd.prog 56 #[.pointer (some ⟨st, 0, none⟩), .agg #[.int .i64 x.o, .int .i64 x.n, .string x.s, .slice A x.l.length c]] w fun e w' => e = .returned (.tuple #[.int .i64 (makI xs x), .int .i64 (makE xs x)]) ∧ MakR w Z st mp (makT xs x) w' := by
  have HAR := hid h
  have H := hid (Ar.v h); have HS := hid hl; have HM := hid hm; have HX := hid hx
  have B0 := hid (show Below w.heap.size w (w.alloc (.cells #[.int .i64 x.o, .int .i64 x.n, .string x.s, .slice A x.l.length c] 58)) from (Below.refl _ _).alloc (Nat.le_refl _) _)
  have X0 := hid (show (w.alloc (.cells #[.int .i64 x.o, .int .i64 x.n, .string x.s, .slice A x.l.length c] 58)).ownsRow w.heap.size 58 4 (.slice (some ⟨w.heap.size, 0, none⟩) 1 1) 1 [.int .i64 x.o, .int .i64 x.n, .string x.s, .slice A x.l.length c] from
    ⟨by simp, .inr ⟨w.heap.size, 1, _, rfl, Nat.le_refl _, heap_alloc_new w _, Nat.le_refl _, by decide, rfl, by simp⟩⟩)
  have hsh : x.l.length ≤ 64 ∧ x.s.size ≤ 200 ∧ 0 ≤ x.n ∧ (∀ i ∈ x.l, 0 ≤ i) ∧ 0 ≤ x.o := by
    unfold mayB shB at hm
    simp only [Bool.and_eq_true, decide_eq_true_eq, List.all_eq_true] at hm
    refine ⟨hm.1.1.1.1.1.1.2, hm.1.1.1.1.2, hm.1.1.1.1.1.2, fun i hi => ?_, ?_⟩
    · have := hm.1.2 i hi
      unfold hasB at this
      simp only [Bool.and_eq_true, decide_eq_true_eq] at this
      exact this.1
    · have hlb := hm.1.1.1.1.1.1.1
      unfold lenB at hlb
      by_cases ho : 0 ≤ x.o
      · exact ho
      · have : arN x.o = none := by
          unfold arN
          split <;> first | omega | rfl
        rw [this] at hlb
        simp at hlb
        omega
  obtain ⟨hs64, hs200, hn0, hl0, ho0⟩ := hsh
  have HL0 := hid hl0
  have hlt := (Ar.v h).lt
  obtain ⟨Av, cv, rfl, -⟩ := h.rows
  obtain ⟨i0, hi, hz0, hz1, hz2⟩ := info_parts infoN
  obtain ⟨j0, hj, hy0, hy1, hy2⟩ := info_parts Tryd.infoInt
  clear h hl hm hx hl0
  go_enter Tryd.func56, Tryd.ntmps56
  go_wp2_with fail
  refine (rmay_any st xs x A c _ (H.out.ext B0.out) (HS.out.ext B0.out)).mono ?_
  rintro e1 w1 ⟨rfl, b1⟩
  rw [HM.out]
  have B1 := hid (B0.out.trans (b1.mono B0.out.size))
  have X1 := hid (own_ext X0.out b1)
  clear b1
  obtain ⟨⟨k0, k1, k2, k3⟩, -⟩ := box4 X1.out
  go_wp2_with fail
  refine (text_any x A c _ (HS.out.ext B1.out) hs64 ho0 HX.out.o hn0 HX.out.n HL0.out HX.out.l hs200).mono ?_
  rintro e2 w2 ⟨KS, rfl, hk, b2⟩
  have HK := hid hk
  have B2 := hid (B1.out.trans (b2.mono B1.out.size))
  have X2 := hid (own_ext X1.out b2)
  clear b2 hk k0 k1 k2 k3 hn0 ho0
  have AR2 := hid (HAR.out.ext B2.out)
  obtain ⟨D, hD, hMO⟩ := AR2.out.map
  have HD := hid hD; have HMO := hid hMO
  clear hD hMO
  have s0 : w2.cell? ⟨st, 0, none⟩ = some (.slice Av xs.length cv) := cell_of_row w2 st 0 _ _ (0, 0) AR2.out.box
  have s1 : w2.cell? ⟨st, 1, none⟩ = some (.map (some mp)) := cell_of_row w2 st 1 _ _ (0, 0) AR2.out.box
  have hsz : KS.size ≤ maxLen := by
    have h1 : KS.size = (keyR x).length := by rw [← HK.out]; rfl
    have h2 := itoa_le x.o HX.out.o.1 HX.out.o.2
    have h2' := itoa_le x.n HX.out.n.1 HX.out.n.2
    have h2'' := itoa_le (x.s.size : Nat) (by omega) (by omega)
    have h3 := join_le (l := x.l) HX.out.l
    have h4 : x.s.data.toList.length = x.s.size := rfl
    rw [h1]
    unfold keyR maxLen
    simp only [List.length_append, List.length_cons] at h3 ⊢
    omega
  have hkey : keyOf Tryd.prog 9 (.string KS) = some (.string (keyR x)) := by rw [← HK.out]; exact Go.WideMaps.keyOf_string_mk Tryd.underlying9 hsz
  have HKEY := hid hkey
  clear hkey hsz
  by_cases hx : x ∈ xs
  · have HH := hid (HMO.out.yes hx)
    obtain ⟨e1, e2, e3⟩ := mak_old HM.out hx
    have HI := hid e2; have HE := hid e3; have HTT := hid e1
    have HIX := hid (HMO.out.at' _ x (idxOf_get hx))
    clear hx e1 e2 e3
    go_wp2_with (at_lookup; refine wpList_lookup_own_ok_int _ rfl _ _ 80 rfl 9 3 .i64 lawS Tryd.underlying80 Tryd.underlying3 (zeroI _) mp _ D rfl HD.out _ _ rfl HKEY.out ?_; intro cc hat hwc; rw [HH.out])
    have HCC := hid (show cc = (xs.idxOf x : Nat) by
      rw [HIX.out] at hat
      injection hat with hat
      injection hat with _ hat
      exact hat.symm)
    clear hat hwc
    go_wp2
    go_ret2
    refine ⟨by rw [HI.out, HE.out, HCC.out]; rfl, ?_⟩
    rw [HTT.out]
    exact makR_below HAR.out B2.out
  · have HH := hid (HMO.out.not (fun {_ _} => keyR_inj) hx)
    by_cases hf : 100000 ≤ xs.length
    · have HI := hid (show makI xs x = 0 by unfold makI; rw [HM.out, if_pos rfl, if_neg hx, if_pos hf])
      have HE := hid (show makE xs x = 2 by unfold makE; rw [HM.out, if_pos rfl, if_neg hx, if_pos hf])
      have HTT := hid (show makT xs x = xs by unfold makT; rw [HM.out, if_pos rfl, if_neg hx, if_pos hf])
      have hf' : (100000 : Int) ≤ (xs.length : Int) := by omega
      clear hx hf
      go_wp2_with (at_lookup; refine wpList_lookup_own_ok_int _ rfl _ _ 80 rfl 9 3 .i64 lawS Tryd.underlying80 Tryd.underlying3 (zeroI _) mp _ D rfl HD.out _ _ rfl HKEY.out ?_; intro cc hat hwc; rw [HH.out])
      go_ret2
      refine ⟨by rw [HI.out, HE.out]; rfl, ?_⟩
      rw [HTT.out]
      exact makR_below HAR.out B2.out
    · obtain ⟨e1, e2, e3⟩ := mak_new HM.out hx (by omega)
      have HI := hid e2; have HE := hid e3; have HTT := hid e1; have HNX := hid hx
      have hf' : decide ((100000 : Int) ≤ (xs.length : Int)) = false := decide_eq_false (by omega)
      have HF := hid hf
      clear e1 e2 e3 hx hf
      obtain ⟨⟨k0, k1, k2, k3⟩, f0, f1, f2, f3⟩ := box4 X2.out
      have HSN := hid (HS.out.ext B2.out)
      go_wp2_with (first
        | (at_lookup; refine wpList_lookup_own_ok_int _ rfl _ _ 80 rfl 9 3 .i64 lawS Tryd.underlying80 Tryd.underlying3 (zeroI _) mp _ D rfl HD.out _ _ rfl HKEY.out ?_; intro cc hat hwc; rw [HH.out]; clear hat hwc)
        | (at_builtin; refine wpList_append_new _ rfl _ _ 29 rfl 3 j0 (.int .i64 0) 1 8 Tryd.underlying29 hj hy0 hy1 hy2 rfl (by decide) rfl _ _ _ _ rfl HSN.out (ints_one _ _) (by unfold maxLen; omega) (by omega) ?_; intro q0 w3 oq b3; obtain ⟨Aq, cq, rfl, -⟩ := SlA.owned oq; have X3 := hid (own_ext X2.out b3); have AR3 := hid (AR2.out.ext b3); have B3 := hid (B2.out.trans (b3.mono B2.out.size)); have OQ := hid oq; clear oq b3; obtain ⟨⟨l0, l1, l2, l3⟩, g0, g1, g2, g3⟩ := box4 X3.out))
      have hws : w.heap.size < w2.heap.size := (X2.out.lt w.heap.size rfl).2
      refine forget (R := fun W => ArR W Z st mp (.slice Av xs.length cv) xs qs ∧ W.ownsRow w.heap.size 58 4 (.slice (some ⟨w.heap.size, 0, none⟩) 1 1) 1 (x.cells (.slice Aq x.l.length cq)) ∧ W.ownsRow w2.heap.size 3 1 (.slice Aq x.l.length cq) x.l.length (x.l.map (.int .i64)) ∧ Below w.heap.size w W) ?_ ⟨?_, ?_, ?_, ?_⟩
      rotate_left
      · exact AR3.out.turn (Turn.setCell (F := fun b => b = w.heap.size) (.slice Aq x.l.length cq) (.inl rfl)) (fun b hz e => by have := HAR.out.zlt b hz; omega)
      · exact (X3.out.stored 3 (.slice Aq x.l.length cq)).1
      · exact own_block OQ.out fun b hb => Below.heap_setCell w3 ⟨w.heap.size, 3, none⟩ (.slice Aq x.l.length cq) b (by have := (OQ.out.lt b hb).1; show b ≠ w.heap.size; omega)
      · exact B3.out.setCell (p := ⟨w.heap.size, 3, none⟩) (Nat.le_refl _) _
      rintro W ⟨ra, rx, ro, rb⟩
      have AR4 := hid ra; have X4 := hid rx; have OQ4 := hid ro; have B4 := hid rb
      clear ra rx ro rb k0 k1 k2 k3 f0 f1 f2 f3 s0 s1 X3 AR3 B3 OQ l0 l1 l2 l3 g0 g1 g2 g3
      obtain ⟨⟨k0, k1, k2, k3⟩, -⟩ := box4 X4.out
      have s0 : W.cell? ⟨st, 0, none⟩ = some (.slice Av xs.length cv) := (ar_box AR4.out).cellAt 0 (by decide)
      have fs0 : W.frozen? ⟨st, 0, none⟩ = false := (ar_box AR4.out).frozenAt 0
      have hsW : w.heap.size < W.heap.size := (X4.out.lt w.heap.size rfl).2
      have hrow : ((W.alloc (.cells #[.int .i64 x.o, .int .i64 x.n, .string x.s, .slice Aq x.l.length cq] 58)).drew).ownsRow 0 58 4 (.slice Av xs.length cv) xs.length (nds xs qs) := own_block (AR4.out.row.alloc _) (fun _ _ => rfl)
      have HROW := hid hrow
      have HN1 := hid (show xs.length ≤ 100000 by have := HF.out; omega)
      have hstW : st < W.heap.size := by omega
      have s0' : (W.alloc (.cells #[.int .i64 x.o, .int .i64 x.n, .string x.s, .slice Aq x.l.length cq] 58)).cell? ⟨st, 0, none⟩ = some (.slice Av xs.length cv) := (World.cell?_alloc_old _ _ _ (show st ≠ W.heap.size by omega)).trans s0
      have HBX := hid (show ((W.alloc (.cells #[.int .i64 x.o, .int .i64 x.n, .string x.s, .slice Aq x.l.length cq] 58)).drew).heap[st]? = some (.cells #[.slice Av xs.length cv, .map (some mp)] 82 (0, 0)) from (Below.heap_alloc W _ st hstW).trans AR4.out.box)
      have HNE := hid (show some st ≠ (Value.slice Av xs.length cv).ownBlock from fun e => (AR4.out.zv st e.symm).2.1 rfl)
      clear hrow
      go_region_law (refine step_append_sl _ rfl (.tmp 40) (.tmp 42) 52 rfl 0 58 i0 (.agg #[.int .i64 0, .int .i64 0, .string ⟨#[]⟩, .slice none 0 0]) 4 56 Tryd.underlying52 hi hz0 hz1 hz2 rfl (by decide) (.slice Av xs.length cv) xs.length (nds xs qs) (by rfl) HROW.out (some ⟨W.heap.size, 0, none⟩) 1 1 (x.cells (.slice Aq x.l.length cq)) (by rfl) (lit4 _ _ _ _).drew (one4 _ _ _ _) (by have := HN1.out; unfold maxLen; omega) (by have := HN1.out; omega) (Nat.zero_le _) ?_; intro v4 w4 h4 g4 l4; obtain ⟨A4, c4, rfl, -⟩ := SlA.owned h4; have H4 := hid h4; have G4 := hid g4; have L4 := hid l4; have HB4 := hid ((g4.block st (by simp; omega) HNE.out).trans HBX.out); obtain ⟨s4, s5, f4⟩ := box2 HB4.out; clear h4 g4 l4)
      all_goals
        obtain ⟨D4, hD4, hM4⟩ := AR4.out.map
        have HD5 := hid (map_block (w' := w4.setCell ⟨st, 0, none⟩ (.slice A4 (xs.length + 1) c4)) hD4 (by
          have h1 := AR4.out.zlt _ AR4.out.zmp.1
          have h2 := AR4.out.zmp.2
          rw [Below.heap_setCell w4 ⟨st, 0, none⟩ _ mp h2, G4.out.block mp (by simp; omega) (fun e => (AR4.out.zv mp e.symm).2.2 rfl)]
          exact Below.heap_alloc W _ mp h1))
        have HM4 := hid hM4
        have hb6 := box2 (a := .slice A4 (xs.length + 1) c4) (b := .map (some mp)) (heap_setCell_same w4 st 0 _ _ (.slice A4 (xs.length + 1) c4) HB4.out)
        go_upto_region 11 with fail
        refine forget (R := fun V => (V.cell? ⟨st, 0, none⟩ = some (.slice A4 (xs.length + 1) c4) ∧ V.cell? ⟨st, 1, none⟩ = some (.map (some mp))) ∧ V.drew.ownsMap Tryd.prog 9 (plainElem Tryd.prog 3) mp xs.length D4 ∧ ∀ w6, V.grownBy w6 (some mp) → (w4.setCell ⟨st, 0, none⟩ (.slice A4 (xs.length + 1) c4)).grownBy w6 (some mp)) ?_ ⟨⟨hb6.1, hb6.2.1⟩, map_block HD5.out rfl, fun _ h => h⟩
        clear hD4 hM4 hb6 HD5 s4 s5 f4 s0' s0 fs0 k0 k1 k2 k3
        rintro V ⟨⟨v0, v1⟩, hvm, hvg⟩
        have HVM := hid hvm; have HVG := hid hvg
        clear hvm hvg
        have hsub : IntKind.i64.wrap (xs.length : Int) = (xs.length : Int) := by rw [IntKind.wrap_i64]; have := HN1.out; omega
        have hkk := HKEY.out
        have hnm : xs.length < maxLen := by have := HN1.out; unfold maxLen; omega
        have hpe := plainElem_int (H := Unit) Tryd.underlying3 (WalkArith.wf_i64 (n := (xs.length : Int)) (by have := HN1.out; omega))
        obtain ⟨w6, hrun, hown6, hg6⟩ := HVM.out.update lawS Tryd.underlying80 hnm hkk hpe
        have HO6 := hid hown6; have HG6 := hid hg6
        clear hown6 hg6 hkk hpe hnm
        go_region
        all_goals
          have hok : Okay (xs ++ [x]) := by
            have := okay_mak HAR.out.ok (x := x) (by have := HX.out.n.2; omega)
            rwa [HTT.out] at this
          have HG7 := hid (HVG.out _ (grown_undrew HG6.out))
          have HFIN := hid (rmake_done HAR.out B4.out (W1 := (W.alloc (.cells #[.int .i64 x.o, .int .i64 x.n, .string x.s, .slice Aq x.l.length cq] 58)).drew) (fun b hb => Below.heap_alloc W _ b hb) (by simp) ⟨rfl, rfl, rfl⟩ OQ4.out hws G4.out H4.out L4.out HB4.out HO6.out (mapOk_put HM4.out (fun {_ _} => keyR_inj) HNX.out) hok HG7.out)
          have y0 : w6.cell? ⟨st, 0, none⟩ = some (.slice A4 (xs.length + 1) c4) := by
            rw [World.cell?_of_block (a := ⟨st, 0, none⟩) (HG6.out.block st (block_lt_of_cell v0) (fun e => by injection e with e; exact HAR.out.zmp.2 e.symm))]
            exact v0
          have hn9 : (xs.length : Int) + 1 - 1 = (xs.length : Int) := by omega
          clear hrun v0 v1
          go_wp2
          go_ret2
          refine ⟨by rw [HI.out, HE.out]; rfl, ?_⟩
          rw [HTT.out]
          exact HFIN.out
/-- A node is made, whatever it is. -/
theorem rmake_any (h : ArR w Z st mp v xs qs) (hl : SlA w 1 A x.l.length c (x.l.map (.int .i64))) (hx : NdI x) :
    Calls Tryd.prog 56 #[.pointer (some ⟨st, 0, none⟩), .agg #[.int .i64 x.o, .int .i64 x.n, .string x.s, .slice A x.l.length c]] w fun e w' => e = .returned (.tuple #[.int .i64 (makI xs x), .int .i64 (makE xs x)]) ∧ MakR w Z st mp (makT xs x) w' := by
  rcases hm : mayB xs x with _ | _
  · refine (rmake_no Z st mp v xs qs x A c w h hl hm).mono ?_
    rintro e w' ⟨rfl, hb⟩
    refine ⟨?_, ?_⟩
    · unfold makI makE; rw [hm]; rfl
    · have : makT xs x = xs := by unfold makT; rw [hm]; rfl
      rw [this]
      exact makR_below h hb
  · exact rmake_yes Z st mp v xs qs x A c w h hl hm hx
end
end Go.Proofs.YtgnbiolckhdfeaaDoor

/- term: New, Len, Node; crypto: what makes and reads nodes. -/
namespace Go.Proofs.YtgnbiolckhdfeaaDoor
open Go.RowKit Go.KK Go.Shelf Go.Maps
set_option linter.unusedVariables false
set_option linter.unusedSimpArgs false

/-- The program's arena at block st, all of its blocks in Z. -/
def AR (w : World) (Z : Nat → Prop) (st : Nat) (xs : List ND) : Prop := ∃ mp v qs, ArP w Z st mp v xs qs
def ArS (w : World) (Z : Nat → Prop) (st : Nat) (xs : List ND) (w' : World) : Prop := ∃ Z', AR w' Z' st xs ∧ Turn Z w w' ∧ ∀ b, Z' b → Z b ∨ w.heap.size ≤ b
theorem ArS.of {w w' : World} {Z : Nat → Prop} {st mp : Nat} {xs : List ND} (h : MakS w Z st mp xs w') : ArS w Z st xs w' := by
  obtain ⟨Z', v, qs, h1, h2, h3⟩ := h
  exact ⟨Z', ⟨mp, v, qs, h1⟩, h2, h3⟩
theorem AR.ext {w w' : World} {Z : Nat → Prop} {st : Nat} {xs : List ND} (h : AR w Z st xs) (hb : Below w.heap.size w w') : AR w' Z st xs := by
  obtain ⟨mp, v, qs, h1⟩ := h
  exact ⟨mp, v, qs, h1.ext hb⟩
theorem AR.zlt {w : World} {Z : Nat → Prop} {st : Nat} {xs : List ND} (h : AR w Z st xs) : ∀ b, Z b → b < w.heap.size := by
  obtain ⟨mp, v, qs, h1⟩ := h
  exact h1.zlt
theorem AR.ok {w : World} {Z : Nat → Prop} {st : Nat} {xs : List ND} (h : AR w Z st xs) : Okay xs := by
  obtain ⟨mp, v, qs, h1⟩ := h
  exact h1.ok
theorem AR.vw {w : World} {Z : Nat → Prop} {st : Nat} {xs : List ND} (h : AR w Z st xs) : ArV w 91 st xs := by
  obtain ⟨mp, v, qs, h1⟩ := h
  exact Ar.v h1
theorem AR.stay {w w' : World} {Z : Nat → Prop} {st : Nat} {xs : List ND} (h : AR w Z st xs) (hb : Below w.heap.size w w') : ArS w Z st xs w' := ⟨Z, h.ext hb, .of_below hb, fun _ h => .inl h⟩
/-- Behind a call that only lays blocks. -/
theorem ArS.first {w w1 w2 : World} {Z : Nat → Prop} {st : Nat} {xs : List ND} (hb : Below w.heap.size w w1) (h : ArS w1 Z st xs w2) : ArS w Z st xs w2 := by
  obtain ⟨Z', h1, h2, h3⟩ := h
  refine ⟨Z', h1, (Turn.of_below hb).trans h2 (fun _ h => .inl h), fun b hz => (h3 b hz).imp id fun h => Nat.le_trans hb.size h⟩
theorem ArS.next {w w1 w2 : World} {Z : Nat → Prop} {st : Nat} {xs : List ND} (h : ArS w Z st xs w1) (hb : Below w1.heap.size w1 w2) : ArS w Z st xs w2 := by
  obtain ⟨Z', h1, h2, h3⟩ := h
  exact ⟨Z', h1.ext hb, h2.trans (.of_below (F := Z) hb) (fun _ h => .inl h), h3⟩
theorem ArS.chain {w w1 w2 : World} {Z Z1 : Nat → Prop} {st : Nat} {xs : List ND} (ht : Turn Z w w1) (hz : ∀ b, Z1 b → Z b ∨ w.heap.size ≤ b) (h : ArS w1 Z1 st xs w2) : ArS w Z st xs w2 := by
  obtain ⟨Z', h1, h2, h3⟩ := h
  exact ⟨Z', h1, ht.trans h2 hz, fun b hb => (h3 b hb).elim (hz b) fun h => .inr (Nat.le_trans ht.size h)⟩

theorem new_any (w : World) : Calls Tryd.prog 28 #[] w fun e w' => ∃ Z st, e = .returned (.pointer (some ⟨st, 0, none⟩)) ∧ AR w' Z st [] ∧ (∀ b, Z b → w.heap.size ≤ b) ∧ Below w.heap.size w w' := by
  have hmm := @run_makeMap Tryd.prog
  go_enter Tryd.func28, Tryd.ntmps28
  go_wp2
  go_ret
  have B1 : Below w.heap.size w (w.alloc (.map #[] 0)) := (Below.refl _ _).alloc (Nat.le_refl _) _
  have hm0 := World.ownsMap_made (H := Unit) w Tryd.prog 9 (plainElem Tryd.prog 3)
  refine ⟨fun b => b = w.heap.size ∨ b = w.heap.size + 1, w.heap.size + 1, by simp, ⟨w.heap.size, .slice none 0 0, [], ?_⟩, fun b hb => by rcases hb with rfl | rfl <;> omega, B1.alloc (by simp) _⟩
  have hsz : (w.alloc (.map #[] 0)).heap.size = w.heap.size + 1 := by simp
  refine ⟨?_, World.ownsRow_nil _ _ _ _, rfl, fun j x q h => by simp at h, fun j x q b h => by simp at h, ⟨.map [], ?_, mapOk_nil _⟩, .inr rfl, ⟨.inl rfl, by omega⟩, fun b h => (by cases h), fun b hb => ?_, okay_nil⟩
  · have := heap_alloc_new (w.alloc (.map #[] 0)) (.cells #[.slice none 0 0, .map (some w.heap.size)] 91)
    rw [hsz] at this
    exact this
  · exact hm0.alloc _
  · have h2 : ((w.alloc (.map #[] 0)).alloc (.cells #[.slice none 0 0, .map (some w.heap.size)] 91)).heap.size = w.heap.size + 1 + 1 := by simp
    rcases hb with rfl | rfl <;> omega
theorem len_any (st : Nat) (xs : List ND) (w : World) (h : ArV w 91 st xs) :
    Calls Tryd.prog 50 #[.pointer (some ⟨st, 0, none⟩)] w fun e w' => e = .returned (.int .i64 xs.length) ∧ w' = w := by
  obtain ⟨A, c, m, h0, h1, hn⟩ := h.parts
  clear hn h
  go_enter Tryd.func50, Tryd.ntmps50
  go_wp2
  go_ret
  exact ⟨rfl, rfl⟩
set_option maxHeartbeats 2000000 in
set_option maxRecDepth 20000 in
theorem node_any (st : Nat) (xs : List ND) (t : Int) (w : World) (h : ArV w 91 st xs) :
    Calls Tryd.prog 37 #[.pointer (some ⟨st, 0, none⟩), .int .i64 t] w fun e w' => ∃ A c, e = .returned (.tuple #[.agg #[.int .i64 (nodeF xs t).o, .int .i64 (nodeF xs t).n, .string (nodeF xs t).s, .slice A (nodeF xs t).l.length c], .int .i64 (nodeE xs t)]) ∧ w'.ownsRow w.heap.size 3 1 (.slice A (nodeF xs t).l.length c) (nodeF xs t).l.length ((nodeF xs t).l.map (.int .i64)) ∧ Below w.heap.size w w' := by
  have H := hid h
  have B0 := hid (show Below w.heap.size w (w.alloc (.cells #[.int .i64 0, .int .i64 0, .string ⟨#[]⟩, .slice none 0 0] 58)) from (Below.refl _ _).alloc (Nat.le_refl _) _)
  clear h
  rcases hh : hasB xs t with _ | _
  · have HF := hid (show nodeF xs t = nd0 by unfold nodeF; rw [hh]; rfl)
    have HE := hid (show nodeE xs t = 4 by unfold nodeE; rw [hh]; rfl)
    go_enter Tryd.func37, Tryd.ntmps37
    go_wp2_with fail
    refine (has_any st xs t _ (H.out.ext B0.out)).mono ?_
    rintro e1 w1 ⟨rfl, hw⟩
    subst hw
    rw [hh]
    go_wp2_with fail
    refine bodyPost_ret (v := .tuple #[.agg #[.int .i64 0, .int .i64 0, .string ⟨#[]⟩, .slice none 0 0], .int .i64 4]) ?_ rfl ⟨none, 0, ?_, ?_, B0.out⟩
    · rw [results_cell_tmp rfl]
      go_simp
    · rw [HF.out, HE.out]; rfl
    · rw [HF.out]; exact World.ownsRow_nil _ _ _ _
  · have HF := hid (show nodeE xs t = 0 by unfold nodeE; rw [hh]; rfl)
    have X0 := hid (show (w.alloc (.cells #[.int .i64 0, .int .i64 0, .string ⟨#[]⟩, .slice none 0 0] 58)).ownsRow w.heap.size 58 4 (.slice (some ⟨w.heap.size, 0, none⟩) 1 1) 1 [.int .i64 0, .int .i64 0, .string ⟨#[]⟩, .slice none 0 0] from
      ⟨by simp, .inr ⟨w.heap.size, 1, _, rfl, Nat.le_refl _, heap_alloc_new w _, Nat.le_refl _, by decide, rfl, by simp⟩⟩)
    go_enter Tryd.func37, Tryd.ntmps37
    go_wp2_with fail
    refine (has_any st xs t _ (H.out.ext B0.out)).mono ?_
    rintro e1 w1 ⟨rfl, hw⟩
    subst hw
    rw [hh]
    generalize w.alloc (.cells #[.int .i64 0, .int .i64 0, .string ⟨#[]⟩, .slice none 0 0] 58) = W0 at *
    have hhb := hh
    unfold hasB at hhb
    simp only [Bool.and_eq_true, decide_eq_true_eq] at hhb
    obtain ⟨hz0, hz1⟩ := hhb
    obtain ⟨j, rfl⟩ := Int.eq_ofNat_of_zero_le hz0
    have hlt0 : w.heap.size < W0.heap.size := (X0.out.lt w.heap.size rfl).2
    obtain ⟨A', c', m', q0, qm, hnd⟩ := (H.out.ext B0.out).parts
    have hjn : j < xs.length := by omega
    obtain ⟨bn, on, y, Ay, cy, rfl, hy, y0, y1, y2, y3, hsy⟩ := hnd.at hjn
    have HY := hid (show nodeF xs (j : Int) = y by
      unfold nodeF
      rw [hh, if_pos rfl, Int.toNat_natCast, List.getD, hy]; rfl)
    have HSY := hid hsy
    have hyl : y.l.length ≤ 64 := by
      have := (H.out.ok.may j y hy)
      unfold mayB shB at this
      simp only [Bool.and_eq_true, decide_eq_true_eq] at this
      exact this.1.1.1.1.1.1.2
    clear hh hy hsy hnd hz0 hz1
    go_wp2_with fail
    refine (clone_own Ay _ cy y.l _ (HSY.out.alloc _) (by omega)).mono ?_
    rintro e3 w3 ⟨q0', rfl, oq, b3⟩
    obtain ⟨Aq, cq, rfl, -⟩ := SlA.owned oq
    have X1 := hid (own_ext (own_ext X0.out ((Below.refl _ _).alloc (Nat.le_refl _) (.cells #[.int .i64 y.o, .int .i64 y.n, .string y.s, .slice Ay y.l.length cy] 58))) b3)
    have X2 := hid (own_ext (show (W0.alloc (.cells #[.int .i64 y.o, .int .i64 y.n, .string y.s, .slice Ay y.l.length cy] 58)).ownsRow W0.heap.size 58 4 (.slice (some ⟨W0.heap.size, 0, none⟩) 1 1) 1 [.int .i64 y.o, .int .i64 y.n, .string y.s, .slice Ay y.l.length cy] from
      ⟨by simp, .inr ⟨W0.heap.size, 1, _, rfl, Nat.le_refl _, heap_alloc_new W0 _, Nat.le_refl _, by decide, rfl, by simp⟩⟩) b3)
    have B3 := hid ((B0.out.alloc B0.out.size (.cells #[.int .i64 y.o, .int .i64 y.n, .string y.s, .slice Ay y.l.length cy] 58)).trans (b3.mono (by have := B0.out.size; simp; omega)))
    have OQ := hid oq
    have hsz1 : (W0.alloc (.cells #[.int .i64 y.o, .int .i64 y.n, .string y.s, .slice Ay y.l.length cy] 58)).heap.size = W0.heap.size + 1 := by simp
    obtain ⟨⟨k0, k1, k2, k3⟩, f0, f1, f2, f3⟩ := box4 X1.out
    obtain ⟨⟨l0, l1, l2, l3⟩, g0, g1, g2, g3⟩ := box4 X2.out
    have hne1 : ¬ W0.heap.size = w.heap.size := by omega
    have hne2 : ¬ w.heap.size = W0.heap.size := by omega
    rw [hsz1] at oq
    have HQ := hid oq
    clear oq b3 y0 y1 y2 y3 q0 qm
    go_wp2
    refine bodyPost_ret (v := .tuple #[.agg #[.int .i64 y.o, .int .i64 y.n, .string y.s, .slice Aq y.l.length cq], .int .i64 0]) ?_ rfl ⟨Aq, cq, ?_, ?_, ?_⟩
    · rw [results_cell_tmp rfl]
      go_simp
    · rw [HY.out, HF.out]
    · rw [HY.out]
      refine own_mono (own_block HQ.out fun b hb => ?_) (by omega)
      have hb1 := (HQ.out.lt b hb).1
      rw [Below.heap_setCell _ _ _ b (by show b ≠ w.heap.size; omega), Below.heap_setCell _ _ _ b (by show b ≠ w.heap.size; omega), Below.heap_setCell _ _ _ b (by show b ≠ w.heap.size; omega), Below.heap_setCell _ _ _ b (by show b ≠ w.heap.size; omega), Below.heap_setCell _ _ _ b (by show b ≠ W0.heap.size; omega)]
    · exact ((((B3.out.setCell (p := ⟨W0.heap.size, 3, none⟩) (by show w.heap.size ≤ W0.heap.size; omega) _).setCell (p := ⟨w.heap.size, 0, none⟩) (Nat.le_refl _) _).setCell (p := ⟨w.heap.size, 1, none⟩) (Nat.le_refl _) _).setCell (p := ⟨w.heap.size, 2, none⟩) (Nat.le_refl _) _).setCell (p := ⟨w.heap.size, 3, none⟩) (Nat.le_refl _) _
end Go.Proofs.YtgnbiolckhdfeaaDoor

/- crypto: of, known, node, Fresh, Blind, Sign. -/
namespace Go.Proofs.YtgnbiolckhdfeaaDoor
open Go.RowKit Go.KK Go.Shelf Go.Maps
set_option linter.unusedVariables false
set_option linter.unusedSimpArgs false

/-- A call that makes the node x. -/
def MkS (w : World) (Z : Nat → Prop) (st : Nat) (xs : List ND) (x : ND) (e : Ending) (w' : World) : Prop := e = .returned (.tuple #[.int .i64 (makI xs x), .int .i64 (makE xs x)]) ∧ ArS w Z st (makT xs x) w'
theorem sla_row {w : World} {T : TypeId} (vs : Array Value) (hm : vs.size ≤ maxLen) : SlA (w.alloc (.cells vs T)) 1 (some ⟨w.heap.size, 0, none⟩) vs.size vs.size vs.toList :=
  ⟨Nat.le_refl _, hm, by simp, fun j u hj => ⟨w.heap.size, 0, rfl, by rw [World.cell?_alloc_at _ _ _ _ rfl, Nat.zero_add]; simpa using hj⟩⟩
theorem i64_lit {n : Int} (h0 : 0 ≤ n) (h1 : n ≤ 200000) : I64 n := ⟨by omega, by omega⟩
theorem ndI_nd {o : Int} {l : List Int} (ho : I64 o) (hl : ∀ i ∈ l, I64 i) : NdI (ndN o l) := ⟨ho, by unfold I64 ndN; simp, hl⟩
theorem ndI_at {n : Int} (h : I64 n) : NdI (atN n) := ⟨by unfold I64 atN; simp, h, fun i hi => by simp [atN] at hi⟩
section
variable (Z : Nat → Prop) (st : Nat) (xs : List ND) (B : Nat) (w : World)
theorem mke_any (x : ND) (A : Option Addr) (c : Nat) (h : AR w Z st xs) (hl : SlA w 1 A x.l.length c (x.l.map (.int .i64))) (hT : Tb B w) (hB : B ≤ w.heap.size) (hx : NdI x) :
    Calls Tryd.prog 25 #[.pointer (some ⟨st, 0, none⟩), .agg #[.int .i64 x.o, .int .i64 x.n, .string x.s, .slice A x.l.length c]] w (MkS w Z st xs x) := by
  obtain ⟨mp, v, qs, h⟩ := h
  exact (make_any Z st mp v xs qs x A c B w h hl hT hB hx).mono fun e w' ⟨h1, h2⟩ => ⟨h1, .of h2⟩
theorem of_any (o : Int) (l : List Int) (A : Option Addr) (c : Nat) (h : AR w Z st xs) (hl : SlA w 1 A l.length c (l.map (.int .i64))) (hT : Tb B w) (hB : B ≤ w.heap.size) (ho : I64 o) (hli : ∀ i ∈ l, I64 i) :
    Calls Tryd.prog 59 #[.pointer (some ⟨st, 0, none⟩), .int .i64 o, .slice A l.length c] w (MkS w Z st xs (ndN o l)) := by
  have HM := hid (mke_any Z st xs B w (ndN o l) A c h hl hT hB (ndI_nd ho hli))
  clear h hl hT
  go_enter Tryd.func59, Tryd.ntmps59
  go_wp2_with fail
  refine HM.out.mono ?_
  rintro e w' ⟨rfl, hs⟩
  have HS := hid hs
  clear hs
  go_wp2_with fail
  go_ret2
  exact ⟨rfl, HS.out⟩
theorem fresh_any (n : Int) (h : AR w Z st xs) (hT : Tb B w) (hB : B ≤ w.heap.size) (hn : I64 n) :
    Calls Tryd.prog 34 #[.pointer (some ⟨st, 0, none⟩), .int .i64 n] w (MkS w Z st xs (atN n)) := by
  have HM := hid (mke_any Z st xs B w (atN n) none 0 h (SlA.nil _ _) hT hB (ndI_at hn))
  clear h hT
  go_enter Tryd.func34, Tryd.ntmps34
  go_wp2_with fail
  refine HM.out.mono ?_
  rintro e w' ⟨rfl, hs⟩
  have HS := hid hs
  clear hs
  go_wp2_with fail
  go_ret2
  exact ⟨rfl, HS.out⟩
theorem two_of {o m d : Int} (h : AR w Z st xs) (hT : Tb B w) (hB : B ≤ w.heap.size) (ho : I64 o) (hm : I64 m) (hd : I64 d) :
    let W := w.alloc (.cells #[.int .i64 m, .int .i64 d] 3)
    Calls Tryd.prog 59 #[.pointer (some ⟨st, 0, none⟩), .int .i64 o, .slice (some ⟨w.heap.size, 0, none⟩) 2 2] W (MkS w Z st xs (ndN o [m, d])) := by
  have hb : Below w.heap.size w (w.alloc (.cells #[.int .i64 m, .int .i64 d] 3)) := (Below.refl _ _).alloc (Nat.le_refl _) _
  refine (of_any Z st xs B _ o [m, d] (some ⟨w.heap.size, 0, none⟩) 2 (h.ext hb) (sla_row #[.int .i64 m, .int .i64 d] (by unfold maxLen; simp)) (hT.on (hb.mono hB)) (by simp; omega) ho (fun i hi => ?_)).mono ?_
  · simp only [List.mem_cons, List.mem_nil_iff, or_false] at hi
    rcases hi with rfl | rfl
    · exact hm
    · exact hd
  · rintro e w' ⟨rfl, hs⟩
    exact ⟨rfl, hs.first hb⟩
theorem blind_any (m d : Int) (h : AR w Z st xs) (hT : Tb B w) (hB : B ≤ w.heap.size) (hm : I64 m) (hd : I64 d) :
    Calls Tryd.prog 35 #[.pointer (some ⟨st, 0, none⟩), .int .i64 m, .int .i64 d] w (MkS w Z st xs (ndN 12 [m, d])) := by
  have HM := hid (two_of Z st xs B w (o := 12) h hT hB (i64_lit (by decide) (by decide)) hm hd)
  clear h hT
  go_enter Tryd.func35, Tryd.ntmps35
  go_wp2_with fail
  refine HM.out.mono ?_
  rintro e w' ⟨rfl, hs⟩
  have HS := hid hs
  clear hs
  go_wp2_with fail
  go_ret2
  exact ⟨rfl, HS.out⟩
theorem sign_any (m d : Int) (h : AR w Z st xs) (hT : Tb B w) (hB : B ≤ w.heap.size) (hm : I64 m) (hd : I64 d) :
    Calls Tryd.prog 38 #[.pointer (some ⟨st, 0, none⟩), .int .i64 m, .int .i64 d] w (MkS w Z st xs (ndN 10 [m, d])) := by
  have HM := hid (two_of Z st xs B w (o := 10) h hT hB (i64_lit (by decide) (by decide)) hm hd)
  clear h hT
  go_enter Tryd.func38, Tryd.ntmps38
  go_wp2_with fail
  refine HM.out.mono ?_
  rintro e w' ⟨rfl, hs⟩
  have HS := hid hs
  clear hs
  go_wp2_with fail
  go_ret2
  exact ⟨rfl, HS.out⟩
/-- Whether a term is of a kind. -/
def ndIs (xs : List ND) (t op : Int) : Bool := nodeE xs t == 0 && (nodeF xs t).o == op
set_option maxHeartbeats 2000000 in
theorem cnode_any (t op : Int) (h : ArV w 91 st xs) :
    Calls Tryd.prog 67 #[.pointer (some ⟨st, 0, none⟩), .int .i64 t, .int .i64 op] w fun e w' => ∃ A c, e = .returned (.tuple #[.agg #[.int .i64 (nodeF xs t).o, .int .i64 (nodeF xs t).n, .string (nodeF xs t).s, .slice A (nodeF xs t).l.length c], .bool (ndIs xs t op)]) ∧ w'.ownsRow w.heap.size 3 1 (.slice A (nodeF xs t).l.length c) (nodeF xs t).l.length ((nodeF xs t).l.map (.int .i64)) ∧ Below w.heap.size w w' := by
  have H := hid h
  have B0 := hid (show Below w.heap.size w (w.alloc (.cells #[.int .i64 0, .int .i64 0, .string ⟨#[]⟩, .slice none 0 0] 58)) from (Below.refl _ _).alloc (Nat.le_refl _) _)
  have X0 := hid (show (w.alloc (.cells #[.int .i64 0, .int .i64 0, .string ⟨#[]⟩, .slice none 0 0] 58)).ownsRow w.heap.size 58 4 (.slice (some ⟨w.heap.size, 0, none⟩) 1 1) 1 [.int .i64 0, .int .i64 0, .string ⟨#[]⟩, .slice none 0 0] from
    ⟨by simp, .inr ⟨w.heap.size, 1, _, rfl, Nat.le_refl _, heap_alloc_new w _, Nat.le_refl _, by decide, rfl, by simp⟩⟩)
  have HN := hid (node_any st xs t _ (H.out.ext B0.out))
  clear h
  unfold ndIs
  generalize nodeF xs t = x at *
  generalize nodeE xs t = ee at *
  go_enter Tryd.func67, Tryd.ntmps67
  go_wp2_with fail
  refine HN.out.mono ?_
  rintro e1 w1 ⟨A, c, rfl, hs, b1⟩
  have HS := hid hs
  have B1 := hid (B0.out.trans (b1.mono B0.out.size))
  have X1 := hid (own_ext X0.out b1)
  have hlt : w.heap.size < w1.heap.size := (X1.out.lt w.heap.size rfl).2
  clear hs b1
  clear HN
  go_upto_region 2 with fail
  have X2 := hid (show (w1.alloc (.cells #[.int .i64 x.o, .int .i64 x.n, .string x.s, .slice A x.l.length c] 58)).ownsRow w1.heap.size 58 4 (.slice (some ⟨w1.heap.size, 0, none⟩) 1 1) 1 [.int .i64 x.o, .int .i64 x.n, .string x.s, .slice A x.l.length c] from
    ⟨by simp, .inr ⟨w1.heap.size, 1, _, rfl, Nat.le_refl _, heap_alloc_new w1 _, Nat.le_refl _, by decide, rfl, by simp⟩⟩)
  have X3 := hid (X1.out.alloc (.cells #[.int .i64 x.o, .int .i64 x.n, .string x.s, .slice A x.l.length c] 58))
  have B2 := hid (B1.out.alloc (by omega) (.cells #[.int .i64 x.o, .int .i64 x.n, .string x.s, .slice A x.l.length c] 58))
  have HS2 := hid (HS.out.alloc (.cells #[.int .i64 x.o, .int .i64 x.n, .string x.s, .slice A x.l.length c] 58))
  refine forget (R := fun W => W = w1.alloc (.cells #[.int .i64 x.o, .int .i64 x.n, .string x.s, .slice A x.l.length c] 58)) ?_ rfl
  intro W hW
  rw [← hW] at X2 X3 B2 HS2
  clear hW
  obtain ⟨⟨k0, k1, k2, k3⟩, f0, f1, f2, f3⟩ := box4 X3.out
  obtain ⟨⟨l0, l1, l2, l3⟩, g0, g1, g2, g3⟩ := box4 X2.out
  have hne1 : ¬ w1.heap.size = w.heap.size := by omega
  have hne2 : ¬ w.heap.size = w1.heap.size := by omega
  have hend : ∀ q : Nat, let W' := ((((W.setCell ⟨w.heap.size, 0, none⟩ (.int .i64 x.o)).setCell ⟨w.heap.size, 1, none⟩ (.int .i64 x.n)).setCell ⟨w.heap.size, 2, none⟩ (.string x.s)).setCell ⟨w.heap.size, 3, none⟩ (.slice A x.l.length c)).drewN q
      (W'.cell? ⟨w.heap.size, 0, none⟩ = some (.int .i64 x.o) ∧ W'.cell? ⟨w.heap.size, 1, none⟩ = some (.int .i64 x.n) ∧ W'.cell? ⟨w.heap.size, 2, none⟩ = some (.string x.s) ∧ W'.cell? ⟨w.heap.size, 3, none⟩ = some (.slice A x.l.length c)) ∧ W'.ownsRow w.heap.size 3 1 (.slice A x.l.length c) x.l.length (x.l.map (.int .i64)) ∧ Below w.heap.size w W' := fun q => by
    have r1 := ((((X3.out.stored 0 (.int .i64 x.o)).1.stored 1 (.int .i64 x.n)).1.stored 2 (.string x.s)).1.stored 3 (.slice A x.l.length c)).1
    refine ⟨(box4 r1).1, ?_, below_drewN ((((B2.out.setCell (p := ⟨w.heap.size, 0, none⟩) (Nat.le_refl _) _).setCell (p := ⟨w.heap.size, 1, none⟩) (Nat.le_refl _) _).setCell (p := ⟨w.heap.size, 2, none⟩) (Nat.le_refl _) _).setCell (p := ⟨w.heap.size, 3, none⟩) (Nat.le_refl _) _) q⟩
    refine own_mono (own_block (w' := ((((W.setCell ⟨w.heap.size, 0, none⟩ (.int .i64 x.o)).setCell ⟨w.heap.size, 1, none⟩ (.int .i64 x.n)).setCell ⟨w.heap.size, 2, none⟩ (.string x.s)).setCell ⟨w.heap.size, 3, none⟩ (.slice A x.l.length c)).drewN q) HS2.out fun b hb => ?_) (by simp)
    have hb1 := (HS2.out.lt b hb).1
    have hb2 : b ≠ w.heap.size := by simp at hb1; omega
    show ((((W.setCell ⟨w.heap.size, 0, none⟩ (.int .i64 x.o)).setCell ⟨w.heap.size, 1, none⟩ (.int .i64 x.n)).setCell ⟨w.heap.size, 2, none⟩ (.string x.s)).setCell ⟨w.heap.size, 3, none⟩ (.slice A x.l.length c)).heap[b]? = _
    rw [Below.heap_setCell _ _ _ b hb2, Below.heap_setCell _ _ _ b hb2, Below.heap_setCell _ _ _ b hb2, Below.heap_setCell _ _ _ b hb2]
  have HEND := hid hend
  clear hend
  rcases he : (ee == 0) with _ | _
  all_goals
    go_region
    obtain ⟨⟨m0, m1, m2, m3⟩, m4, m5⟩ := HEND.out 1
    rw [show ((((W.setCell ⟨w.heap.size, 0, none⟩ (.int .i64 x.o)).setCell ⟨w.heap.size, 1, none⟩ (.int .i64 x.n)).setCell ⟨w.heap.size, 2, none⟩ (.string x.s)).setCell ⟨w.heap.size, 3, none⟩ (.slice A x.l.length c)).drew = ((((W.setCell ⟨w.heap.size, 0, none⟩ (.int .i64 x.o)).setCell ⟨w.heap.size, 1, none⟩ (.int .i64 x.n)).setCell ⟨w.heap.size, 2, none⟩ (.string x.s)).setCell ⟨w.heap.size, 3, none⟩ (.slice A x.l.length c)).drewN 1 from rfl]
    generalize ((((W.setCell ⟨w.heap.size, 0, none⟩ (.int .i64 x.o)).setCell ⟨w.heap.size, 1, none⟩ (.int .i64 x.n)).setCell ⟨w.heap.size, 2, none⟩ (.string x.s)).setCell ⟨w.heap.size, 3, none⟩ (.slice A x.l.length c)).drewN 1 = W9 at *
    have M4 := hid m4; have M5 := hid m5
    clear m4 m5
    go_wp2
  · refine bodyPost_ret (v := .tuple #[.agg #[.int .i64 x.o, .int .i64 x.n, .string x.s, .slice A x.l.length c], .bool false]) ?_ rfl ⟨A, c, rfl, M4.out, M5.out⟩
    rw [results_cell_tmp rfl]
    go_simp
  · refine bodyPost_ret (v := .tuple #[.agg #[.int .i64 x.o, .int .i64 x.n, .string x.s, .slice A x.l.length c], .bool (x.o == op)]) ?_ rfl ⟨A, c, rfl, M4.out, M5.out⟩
    rw [results_cell_tmp rfl]
    go_simp
end
end Go.Proofs.YtgnbiolckhdfeaaDoor

/- crypto: known, Unblind; token: known. -/
namespace Go.Proofs.YtgnbiolckhdfeaaDoor
open Go.RowKit Go.KK Go.Shelf Go.Maps
set_option linter.unusedVariables false
set_option linter.unusedSimpArgs false

theorem nd_at {xs : List ND} {t : Int} (h : hasB xs t = true) : ∃ j : Nat, t = (j : Int) ∧ xs[j]? = some (nodeF xs t) := by
  have hh := h
  unfold hasB at hh
  simp only [Bool.and_eq_true, decide_eq_true_eq] at hh
  obtain ⟨j, rfl⟩ := Int.eq_ofNat_of_zero_le hh.1
  have hj : j < xs.length := by omega
  refine ⟨j, rfl, ?_⟩
  unfold nodeF
  rw [h, if_pos rfl, Int.toNat_natCast, List.getD, List.getElem?_eq_getElem hj]
  rfl
theorem is_has {xs : List ND} {t op : Int} (h : ndIs xs t op = true) : hasB xs t = true ∧ (nodeF xs t).o = op := by
  unfold ndIs nodeE at h
  simp only [Bool.and_eq_true, beq_iff_eq] at h
  rcases hb : hasB xs t with _ | _
  · rw [hb] at h; exact absurd h.1 (by decide)
  · exact ⟨rfl, h.2⟩
theorem is_two {xs : List ND} {t op : Int} (hok : Okay xs) (h : ndIs xs t op = true) (ha : arN op = some 2) : ∃ a b, (nodeF xs t).l = [a, b] ∧ hasB xs a = true ∧ hasB xs b = true := by
  obtain ⟨h1, h2⟩ := is_has h
  obtain ⟨j, rfl, hj⟩ := nd_at h1
  have hm := hok.may j _ hj
  unfold mayB shB lenB at hm
  rw [h2, ha] at hm
  simp only [Bool.and_eq_true, beq_iff_eq, List.all_eq_true] at hm
  have hl := hm.1.1.1.1.1.1.1
  have hp := hm.1.2
  generalize nodeF xs (j : Int) = x at *
  obtain ⟨_, _, _, l⟩ := x
  simp only at hl hp
  rcases l with _ | ⟨a, _ | ⟨b, _ | ⟨c, l⟩⟩⟩
  · cases hl
  · cases hl
  · have up : ∀ i, hasB (xs.take j) i = true → hasB xs i = true := fun i hi => by
      unfold hasB at hi ⊢
      simp only [Bool.and_eq_true, decide_eq_true_eq, List.length_take] at hi ⊢
      omega
    exact ⟨a, b, rfl, up a (hp a (by simp)), up b (hp b (by simp))⟩
  · simp at hl
theorem has_i64 {xs : List ND} {t : Int} (hok : Okay xs) (h : hasB xs t = true) : I64 t := by
  unfold hasB at h
  simp only [Bool.and_eq_true, decide_eq_true_eq] at h
  have := hok.len
  exact ⟨by omega, by omega⟩
section
variable (Z : Nat → Prop) (st : Nat) (xs : List ND) (B : Nat) (w : World)
theorem cknown_any (A : Option Addr) (n c : Nat) (l : List Int) (h : ArV w 91 st xs) (hl : SlA w 1 A n c (l.map (.int .i64))) (hn : n ≤ 2147483648) :
    Calls Tryd.prog 66 #[.pointer (some ⟨st, 0, none⟩), .slice A n c] w fun e w' => e = .returned (.bool (kno xs l)) ∧ w' = w := by
  have H := hid h; have HS := hid hl; have HL := hid hl.lenI
  clear h hl
  unfold kno
  go_enter Tryd.func66, Tryd.ntmps66
  go_wp2
  go_loopw [9] (fun i wr => ∃ j : Nat, i = .int .i64 j ∧ j ≤ n ∧ Hid (l.all (hasB xs) = (l.drop j).all (hasB xs)) ∧ wr = w) (fun i _ => n - (intOf i).toNat)
  case atStart => exact ⟨0, rfl, by omega, hid rfl, rfl⟩
  case round =>
    obtain ⟨j, hi, hj, HJ, hw⟩ := hrel
    subst hi; subst hw
    by_cases hlt : j < n
    · obtain ⟨b1, o, z, rfl, hz, hc⟩ := HS.out.elemI hlt
      have HD := hid (drop_get hz); clear hz
      by_cases hz0 : z < 0
      · have HF := hid (show l.all (hasB xs) = false by
          rw [HJ.out, HD.out, List.all_cons, show hasB xs z = false by unfold hasB; rw [decide_eq_false (by omega : ¬ 0 ≤ z)]; rfl]; rfl)
        go_wp2
        go_ret
        exact ⟨by rw [HF.out]; rfl, rfl⟩
      · by_cases hz1 : (xs.length : Int) ≤ z
        · have HF := hid (show l.all (hasB xs) = false by
            rw [HJ.out, HD.out, List.all_cons, show hasB xs z = false by unfold hasB; rw [decide_eq_false (by omega : ¬ z < (xs.length : Int))]; simp]; rfl)
          go_wp2_with (go_at_call 50; refine (len_any st xs _ H.out).mono ?_; rintro e w' ⟨rfl, hw'⟩; subst hw')
          go_ret
          exact ⟨by rw [HF.out]; rfl, rfl⟩
        · have HF := hid (show l.all (hasB xs) = (l.drop (j + 1)).all (hasB xs) by
            rw [HJ.out, HD.out, List.all_cons, show hasB xs z = true by unfold hasB; rw [decide_eq_true (by omega : z < (xs.length : Int)), decide_eq_true (by omega : 0 ≤ z)]; rfl]; rfl)
          go_wp2_with (go_at_call 50; refine (len_any st xs _ H.out).mono ?_; rintro e w' ⟨rfl, hw'⟩; subst hw')
          go_roundw
          case rel => exact ⟨j + 1, by go_num, by omega, HF, by first | rfl | trivial⟩
          case measure => simp [intOf]; omega
    · have HF := hid (show l.all (hasB xs) = true by rw [HJ.out, List.drop_of_length_le (by have := HL.out; omega)]; rfl)
      go_wp2
      go_ret
      exact ⟨by rw [HF.out]; rfl, rfl⟩
theorem known1_any (b : Nat) (t : Int) (h : ArV w 91 st xs) (hb : w.cell? ⟨b, 0, none⟩ = some (.pointer (some ⟨st, 0, none⟩))) :
    Calls Tryd.prog 58 #[.int .i64 t, .pointer (some ⟨b, 0, none⟩)] w fun e w' => e = .returned (.bool (!hasB xs t)) ∧ w' = w := by
  have H := hid h
  clear h
  by_cases hz0 : t < 0
  · have HF := hid (show hasB xs t = false by unfold hasB; rw [decide_eq_false (by omega : ¬ 0 ≤ t)]; rfl)
    go_enter Tryd.func58, Tryd.ntmps58
    go_wp2
    go_ret
    exact ⟨by rw [HF.out]; rfl, rfl⟩
  · by_cases hz1 : (xs.length : Int) ≤ t
    · have HF := hid (show hasB xs t = false by unfold hasB; rw [decide_eq_false (by omega : ¬ t < (xs.length : Int))]; simp)
      go_enter Tryd.func58, Tryd.ntmps58
      go_wp2_with (go_at_call 50; refine (len_any st xs _ H.out).mono ?_; rintro e w' ⟨rfl, hw'⟩; subst hw')
      go_ret
      exact ⟨by rw [HF.out]; rfl, rfl⟩
    · have HF := hid (show hasB xs t = true by unfold hasB; rw [decide_eq_true (by omega : t < (xs.length : Int)), decide_eq_true (by omega : 0 ≤ t)]; rfl)
      go_enter Tryd.func58, Tryd.ntmps58
      go_wp2_with (go_at_call 50; refine (len_any st xs _ H.out).mono ?_; rintro e w' ⟨rfl, hw'⟩; subst hw')
      go_ret
      exact ⟨by rw [HF.out]; show Ending.returned (.bool (decide ((xs.length : Int) ≤ t))) = _; rw [decide_eq_false (by omega : ¬ (xs.length : Int) ≤ t)]; rfl, rfl⟩
set_option maxHeartbeats 1000000 in
theorem ixf_kn (b : Nat) (A : Option Addr) (n c : Nat) (l : List Int) (h : ArV w 91 st xs) (hb : w.cell? ⟨b, 0, none⟩ = some (.pointer (some ⟨st, 0, none⟩))) (hl : SlA w 1 A n c (l.map (.int .i64))) (hn : n ≤ 2147483648) :
    Calls Tryd.prog 84 #[.slice A n c, .func (.func 58) #[] #[.pointer (some ⟨b, 0, none⟩)]] w fun e w' => (∃ k : Int, e = .returned (.int .i64 k) ∧ decide (0 ≤ k) = !l.all (hasB xs)) ∧ w' = w := by
  have H := hid h; have HB := hid hb; have HS := hid hl; have HL := hid hl.lenI
  clear h hb hl
  go_enter Tryd.func84, Tryd.ntmps84
  go_wp2
  go_loopw [8] (fun i wr => ∃ j : Nat, i = .int .i64 j ∧ j ≤ n ∧ Hid (l.all (hasB xs) = (l.drop j).all (hasB xs)) ∧ wr = w) (fun i _ => n - (intOf i).toNat)
  case atStart => exact ⟨0, rfl, by omega, hid rfl, rfl⟩
  case round =>
    obtain ⟨j, hi, hj, HJ, hw⟩ := hrel
    subst hi; subst hw
    by_cases hlt : j < n
    · obtain ⟨b1, o, z, rfl, hz, hc⟩ := HS.out.elemI hlt
      have HD := hid (drop_get hz); clear hz
      rcases hh : hasB xs z with _ | _
      · have HF := hid (show l.all (hasB xs) = false by rw [HJ.out, HD.out, List.all_cons, hh]; rfl)
        go_wp2_with (go_at_call 58; refine (known1_any st xs _ b z H.out HB.out).mono ?_; rintro e w' ⟨rfl, hw'⟩; subst hw'; rw [hh])
        go_ret
        exact ⟨⟨j, rfl, by rw [HF.out, decide_eq_true (by omega)]; rfl⟩, rfl⟩
      · have HF := hid (show l.all (hasB xs) = (l.drop (j + 1)).all (hasB xs) by rw [HJ.out, HD.out, List.all_cons, hh]; rfl)
        go_wp2_with (go_at_call 58; refine (known1_any st xs _ b z H.out HB.out).mono ?_; rintro e w' ⟨rfl, hw'⟩; subst hw'; rw [hh])
        go_roundw
        case rel => exact ⟨j + 1, by go_num, by omega, HF, by first | rfl | trivial⟩
        case measure => simp [intOf]; omega
    · have HF := hid (show l.all (hasB xs) = true by rw [HJ.out, List.drop_of_length_le (by have := HL.out; omega)]; rfl)
      go_wp2
      go_ret
      exact ⟨⟨-1, rfl, by rw [HF.out]; rfl⟩, rfl⟩
theorem ctf_kn (b : Nat) (A : Option Addr) (n c : Nat) (l : List Int) (h : ArV w 91 st xs) (hb : w.cell? ⟨b, 0, none⟩ = some (.pointer (some ⟨st, 0, none⟩))) (hl : SlA w 1 A n c (l.map (.int .i64))) (hn : n ≤ 2147483648) :
    Calls Tryd.prog 57 #[.slice A n c, .func (.func 58) #[] #[.pointer (some ⟨b, 0, none⟩)]] w fun e w' => e = .returned (.bool (!l.all (hasB xs))) ∧ w' = w := by
  have HX := hid (ixf_kn st xs w b A n c l h hb hl hn)
  clear h hb hl
  go_enter Tryd.func57, Tryd.ntmps57
  go_wp2_with fail
  refine HX.out.mono ?_
  rintro e w' ⟨⟨k, rfl, hk⟩, hw⟩
  subst hw
  have HK := hid hk
  clear hk
  go_wp2
  go_ret
  exact ⟨by rw [← HK.out]; rfl, rfl⟩

/-- Whether all are terms. -/
theorem known_any (A : Option Addr) (n c : Nat) (l : List Int) (h : ArV w 91 st xs) (hl : SlA w 1 A n c (l.map (.int .i64))) (hn : n ≤ 2147483648) :
    Calls Tryd.prog 31 #[.pointer (some ⟨st, 0, none⟩), .slice A n c] w fun e w' => e = .returned (.bool (kno xs l)) ∧ Below w.heap.size w w' := by
  have B0 := hid (show Below w.heap.size w (w.alloc (.cells #[.pointer (some ⟨st, 0, none⟩)] 24)) from (Below.refl _ _).alloc (Nat.le_refl _) _)
  have HX := hid (ctf_kn st xs (w.alloc (.cells #[.pointer (some ⟨st, 0, none⟩)] 24)) w.heap.size A n c l (h.ext B0.out) (by rw [World.cell?_alloc_at _ _ _ _ rfl]; rfl) (hl.ext B0.out) hn)
  clear h hl
  go_enter Tryd.func31, Tryd.ntmps31
  go_wp2_with fail
  refine HX.out.mono ?_
  rintro e w' ⟨rfl, hw⟩
  subst hw
  go_wp2
  go_ret
  exact ⟨by unfold kno; simp, B0.out⟩
end
end Go.Proofs.YtgnbiolckhdfeaaDoor

