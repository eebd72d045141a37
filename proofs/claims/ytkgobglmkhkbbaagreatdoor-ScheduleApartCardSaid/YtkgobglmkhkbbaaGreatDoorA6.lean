/- term: a node is made. -/
import Derived.Test.YtkgobglmkhkbbaaGreatDoorA5
import Derived.Test.YtkgobglmkhkbbaaGreatDoorK6
import Derived.Maps.OwnSet
import Derived.Test.YtkgobglmkhkbbaaGreatDoorB1
namespace Go.Proofs.YtkgobglmkhkbbaaGreatDoor
open Go.RowKit Go.KK Go.Shelf Go.Maps Go.ChangeMaps
set_option linter.unusedVariables false
set_option linter.unusedSimpArgs false

theorem sla_getD {w : World} {b o n c : Nat} {l : List Int} (h : SlA w 1 (some ⟨b, o, none⟩) n c (l.map (.int .i64))) : ∀ j, j < l.length → w.cell? ⟨b, o + j, none⟩ = some (.int .i64 (l.getD j 0)) := by
  intro j hj
  obtain ⟨b1, o1, e, hc⟩ := h.cells j (.int .i64 (l[j]'hj)) (by rw [List.getElem?_map, List.getElem?_eq_getElem hj]; rfl)
  injection e with e
  injection e with e1 e2
  subst e1; subst e2
  rw [hc, List.getD, List.getElem?_eq_getElem hj]
  rfl
theorem clone_own (A : Option Addr) (n c : Nat) (l : List Int) (w : World) (h : SlA w 1 A n c (l.map (.int .i64))) (hn47 : n ≤ 2147483648) :
    Calls Tryz.prog 93 #[.slice A n c] w fun e w' => ∃ v, e = .returned v ∧ w'.ownsRow w.heap.size 3 1 v n (l.map (.int .i64)) ∧ Below w.heap.size w w' := by
  have hn := h.lenI
  rcases A with _ | a
  · have hl : l = [] := by
      rcases l with _ | ⟨x, l⟩
      · rfl
      · obtain ⟨b, o, e, _⟩ := h.cells 0 _ rfl; cases e
    subst hl
    simp at hn
    subst hn
    exact (Tryz.slices_Clone_int_nil 0 c w).mono fun e w' ⟨h1, h2⟩ => ⟨_, h1, World.ownsRow_nil _ _ _ _, by rw [h2]; exact Below.refl _ _⟩
  · rcases l with _ | ⟨x, l⟩
    · simp at hn
      subst hn
      exact (Tryz.slices_Clone_int_zero a c w).mono fun e w' ⟨v, h1, h2, _, h3⟩ => ⟨v, h1, h2, h3⟩
    · obtain ⟨b, o, e, _⟩ := h.cells 0 _ rfl
      injection e with e
      subst e
      have := Tryz.slices_Clone_int b o n c (x :: l) w (by omega) (by omega) (sla_getD h)
      rw [List.take_of_length_le (by omega)] at this
      exact this.mono fun e w' ⟨v, h1, h2, _, h3⟩ => ⟨v, h1, h2, h3⟩
theorem lawS : Keyed Tryz.prog 9 := string_keyed Tryz.underlying9
theorem zeroI (w : World) : (zeroValue 3).run Tryz.prog w = .ok (.int .i64 0) w := by kernel_rfl
theorem infoN : (Tryz.prog.info? 88).map (fun i => (i.zero, i.size, i.bytes)) = some (some (.agg #[.int .i64 0, .int .i64 0, .string ⟨#[]⟩, .slice none 0 0]), 4, 56) := by kernel_rfl
theorem forget {P : Program} {c : Code} {Q : Exit → Act → World → Prop} {a : Act} {W0 : World} {R : World → Prop} (h : ∀ W, R W → Code.wp P c Q a W) (r : R W0) : Code.wp P c Q a W0 := h W0 r
theorem box4 {W : World} {base g : Nat} {e : TypeId} {v0 v1 v2 v3 : Value} (h : W.ownsRow base e 4 (.slice (some ⟨g, 0, none⟩) 1 1) 1 [v0, v1, v2, v3]) :
    (W.cell? ⟨g, 0, none⟩ = some v0 ∧ W.cell? ⟨g, 1, none⟩ = some v1 ∧ W.cell? ⟨g, 2, none⟩ = some v2 ∧ W.cell? ⟨g, 3, none⟩ = some v3) ∧ W.frozen? ⟨g, 0, none⟩ = false ∧ W.frozen? ⟨g, 1, none⟩ = false ∧ W.frozen? ⟨g, 2, none⟩ = false ∧ W.frozen? ⟨g, 3, none⟩ = false :=
  ⟨⟨h.cellAt 0 (by decide), h.cellAt 1 (by decide), h.cellAt 2 (by decide), h.cellAt 3 (by decide)⟩, h.frozenAt 0, h.frozenAt 1, h.frozenAt 2, h.frozenAt 3⟩
theorem ar_box {NT K E T : TypeId} {kf : ND → List UInt8} {w : World} {Z : Nat → Prop} {st mp : Nat} {v : Value} {xs : List ND} {qs : List Value} (h : Ar Tryz.prog NT K E T kf w Z st mp v xs qs) : w.ownsRow 0 T 2 (.slice (some ⟨st, 0, none⟩) 1 1) 1 [v, .map (some mp)] :=
  ⟨by simp, .inr ⟨st, 1, _, rfl, Nat.zero_le _, h.box, Nat.le_refl _, by decide, rfl, by simp⟩⟩
theorem box2 {w : World} {st : Nat} {a b : Value} {T : TypeId} (h : w.heap[st]? = some (.cells #[a, b] T (0, 0))) : w.cell? ⟨st, 0, none⟩ = some a ∧ w.cell? ⟨st, 1, none⟩ = some b ∧ w.frozen? ⟨st, 0, none⟩ = false := by
  have hr : w.ownsRow 0 T 2 (.slice (some ⟨st, 0, none⟩) 1 1) 1 [a, b] := ⟨by simp, .inr ⟨st, 1, _, rfl, Nat.zero_le _, h, Nat.le_refl _, by decide, rfl, by simp⟩⟩
  exact ⟨hr.cellAt 0 (by decide), hr.cellAt 1 (by decide), hr.frozenAt 0⟩
theorem lit4 {w : World} {T : TypeId} (v0 v1 v2 v3 : Value) : SlA (w.alloc (.cells #[v0, v1, v2, v3] T)) 4 (some ⟨w.heap.size, 0, none⟩) 1 1 [v0, v1, v2, v3] :=
  (SlA.of_own (World.ownsRow_lit (e := T) (base := 0) (size := 4) w #[v0, v1, v2, v3] 1 (Nat.zero_le _) (by unfold maxLen; omega) rfl)).2
theorem one4 (x : ND) (A : Option Addr) (n c : Nat) : ∀ u ∈ x.cells (.slice A n c), u.oneCell' = true := by
  intro u hu
  simp only [ND.cells, List.mem_cons, List.mem_nil_iff, or_false] at hu
  rcases hu with rfl | rfl | rfl | rfl <;> rfl
/-- What a call that makes a node leaves. -/
def MakS (w : World) (Z : Nat → Prop) (st mp : Nat) (xs : List ND) (w' : World) : Prop := ∃ Z' v' qs', ArP w' Z' st mp v' xs qs' ∧ Turn Z w w' ∧ ∀ b, Z' b → Z b ∨ w.heap.size ≤ b
theorem makS_below {w w' : World} {Z : Nat → Prop} {st mp : Nat} {v : Value} {xs : List ND} {qs : List Value} (h : ArP w Z st mp v xs qs) (hb : Below w.heap.size w w') : MakS w Z st mp xs w' :=
  ⟨Z, v, qs, h.ext hb, .of_below hb, fun b h => .inl h⟩
/-- int's numbers in a node. -/
structure NdI (x : ND) : Prop where
  o : I64 x.o
  n : I64 x.n
  l : ∀ i ∈ x.l, I64 i
theorem make_done {w W W1 w4 w6 : World} {Z : Nat → Prop} {st mp : Nat} {v v4 q : Value} {xs : List ND} {qs : List Value} {x : ND} {D : MD} {b2 : Nat} (h : ArP w Z st mp v xs qs) (hB : Below w.heap.size w W) (hb1 : ∀ b, b < W.heap.size → W1.heap[b]? = W.heap[b]?) (hs1 : W.heap.size ≤ W1.heap.size)
    (hot : W1.os = W.os ∧ W1.tape = W.tape ∧ W1.output = W.output)
    (hq : W.ownsRow b2 3 1 q x.l.length (x.l.map (.int .i64))) (hb2 : w.heap.size < b2) (hg4 : W1.grownBy w4 v.ownBlock) (h4 : w4.ownsRow 0 88 4 v4 (xs.length + 1) (nds xs qs ++ x.cells q)) (hl4 : v4.ownBlock = v.ownBlock ∨ v4.ownBlock = some W1.heap.size)
    (hbx : w4.heap[st]? = some (.cells #[v, .map (some mp)] 124 (0, 0))) (hm : w6.ownsMap Tryz.prog 9 (plainElem Tryz.prog 3) mp (xs.length + 1) D) (hmo : MapOk keyP (xs ++ [x]) D) (hok : Okay (xs ++ [x]))
    (hg6 : (w4.setCell ⟨st, 0, none⟩ v4).grownBy w6 (some mp)) : MakS w Z st mp (xs ++ [x]) w6 := by
  have hzl := h.zlt
  have l1 := hzl _ h.zst
  have l2 := hzl _ h.zmp.1
  have hmne := h.zmp.2
  have s1 := hB.size
  have s4 := hg4.size
  have s5 : (w4.setCell ⟨st, 0, none⟩ v4).heap.size = w4.heap.size := by simp
  have s6 := hg6.size
  rw [s5] at s6
  have hne : some st ≠ v.ownBlock := fun e => (h.zv st e.symm).2.1 rfl
  have box6 : w6.heap[st]? = some (.cells #[v4, .map (some mp)] 124 (0, 0)) := by
    rw [hg6.block st (by rw [s5]; omega) (by intro e; injection e with e; exact hmne e.symm), heap_setCell_same w4 st 0 _ _ v4 hbx]
    rfl
  have step : ∀ b, b < w4.heap.size → b ≠ st → b ≠ mp → w6.heap[b]? = w4.heap[b]? := fun b hb h1 h2 => by
    rw [hg6.block b (by rw [s5]; exact hb) (by intro e; injection e with e; exact h2 e), Below.heap_setCell w4 ⟨st, 0, none⟩ v4 b h1]
  have hv4 : v4.ownBlock = v.ownBlock ∨ ∀ b, v4.ownBlock = some b → w.heap.size ≤ b ∧ b < w6.heap.size := by
    rcases hl4 with e | e
    · exact .inl e
    · refine .inr fun b hb => ?_
      have hlt := (h4.lt b hb).2
      rw [e] at hb
      injection hb with hb
      omega
  have vlt : ∀ b, v4.ownBlock = some b → b < w4.heap.size ∧ b ≠ st ∧ b ≠ mp := fun b hb => by
    refine ⟨(h4.lt b hb).2, ?_⟩
    rcases hl4 with e | e
    · have := h.zv b (e ▸ hb); exact ⟨this.2.1, this.2.2⟩
    · rw [e] at hb; injection hb with hb; omega
  have hqk : ∀ b, q.ownBlock = some b → b2 ≤ b ∧ b < W.heap.size ∧ w6.heap[b]? = W.heap[b]? := fun b hb => by
    obtain ⟨q1, q2⟩ := hq.lt b hb
    refine ⟨q1, q2, ?_⟩
    rw [step b (by omega) (by omega) (by omega), hg4.block b (by omega) (fun e => by have := (h.zv b e.symm).1; have := hzl b this; omega), hb1 b q2]
  have hold : ∀ b, b < w.heap.size → b ≠ st → b ≠ mp → v.ownBlock ≠ some b → w6.heap[b]? = w.heap[b]? := fun b hb h1 h2 h3 => by
    rw [step b (by omega) h1 h2, hg4.block b (by omega) (fun e => h3 e.symm), hb1 b (by omega), hB.block b hb]
  have row6 : w6.ownsRow 0 88 4 v4 (xs.length + 1) (nds xs qs ++ x.cells q) := own_block h4 fun b hb => by
    obtain ⟨a1, a2, a3⟩ := vlt b hb
    exact step b a1 a2 a3
  obtain ⟨Aq, cq, hqe, -⟩ := SlA.owned hq
  have hq6 : In1 w6 q x.l := by
    have := own_block hq (w' := w6) fun b hb => (hqk b hb).2.2
    obtain ⟨A', c', e', hs'⟩ := SlA.owned this
    exact ⟨A', c', e', hs'⟩
  have hP := h.push (w' := w6) (v' := v4) (q := q) (x := x) (D := D) hok box6 row6 hv4 hq6 (fun hne' b hb => by
    obtain ⟨a1, a2, a3⟩ := hqk b hb
    refine ⟨by omega, by omega, fun e => ?_⟩
    rcases hl4 with e4 | e4
    · have := (h.zv b (e4 ▸ e)).1; have := hzl b this; omega
    · rw [e4] at e; injection e with e; omega) hm hmo (fun b hz h1 h2 h3 => hold b (hzl b hz) h1 h2 h3) (by omega)
  refine ⟨_, v4, _, hP, ⟨?_, ?_, ?_, by omega, fun b hb hz => hold b hb (fun e => hz (e ▸ h.zst)) (fun e => hz (e ▸ h.zmp.1)) (fun e => hz (h.zv b e).1)⟩, fun b hb => ?_⟩
  · rw [hg6.os, show (w4.setCell ⟨st, 0, none⟩ v4).os = w4.os from (Turn.setCell (F := fun _ => True) (w := w4) (a := ⟨st, 0, none⟩) v4 (.inl trivial)).os, hg4.os, hot.1, hB.os]
  · rw [hg6.tape, show (w4.setCell ⟨st, 0, none⟩ v4).tape = w4.tape from (Turn.setCell (F := fun _ => True) (w := w4) (a := ⟨st, 0, none⟩) v4 (.inl trivial)).tape, hg4.tape, hot.2.1, hB.tape]
  · rw [hg6.output, show (w4.setCell ⟨st, 0, none⟩ v4).output = w4.output from (Turn.setCell (F := fun _ => True) (w := w4) (a := ⟨st, 0, none⟩) v4 (.inl trivial)).output, hg4.output, hot.2.2, hB.output]
  · rcases hb with hb | hb
    · exact .inl hb
    · exact .inr hb.1
section
variable (Z : Nat → Prop) (st mp : Nat) (v : Value) (xs : List ND) (qs : List Value) (x : ND) (A : Option Addr) (c B : Nat) (w : World)
set_option maxHeartbeats 1000000 in
theorem make_no (h : ArP w Z st mp v xs qs) (hl : SlA w 1 A x.l.length c (x.l.map (.int .i64))) (hm : mayB xs x = false) :
    Calls Tryz.prog 57 #[.pointer (some ⟨st, 0, none⟩), .agg #[.int .i64 x.o, .int .i64 x.n, .string x.s, .slice A x.l.length c]] w fun e w' => e = .returned (.tuple #[.int .i64 0, .int .i64 1]) ∧ Below w.heap.size w w' := by
  have H := hid (Ar.v h); have HS := hid hl; have HM := hid hm
  have B0 := hid (show Below w.heap.size w (w.alloc (.cells #[.int .i64 x.o, .int .i64 x.n, .string x.s, .slice A x.l.length c] 88)) from (Below.refl _ _).alloc (Nat.le_refl _) _)
  clear h hl hm
  go_enter Tryz.func57, Tryz.ntmps57
  go_wp2_with fail
  refine (may_any st xs x A c _ (H.out.ext B0.out) (HS.out.ext B0.out)).mono ?_
  rintro e1 w1 ⟨rfl, b1⟩
  rw [HM.out]
  have B1 := hid (B0.out.trans (b1.mono B0.out.size))
  clear b1
  go_wp2_with fail
  go_ret2
  exact ⟨rfl, B1.out⟩
set_option maxHeartbeats 4000000 in
set_option maxRecDepth 20000 in
theorem make_yes (h : ArP w Z st mp v xs qs) (hl : SlA w 1 A x.l.length c (x.l.map (.int .i64))) (hm : mayB xs x = true) (hT : Tb B w) (hB : B ≤ w.heap.size) (hx : NdI x) :
    Calls Tryz.prog 57 #[.pointer (some ⟨st, 0, none⟩), .agg #[.int .i64 x.o, .int .i64 x.n, .string x.s, .slice A x.l.length c]] w fun e w' => e = .returned (.tuple #[.int .i64 (makI xs x), .int .i64 (makE xs x)]) ∧ MakS w Z st mp (makT xs x) w' := by
  have HAR := hid h
  have H := hid (Ar.v h); have HS := hid hl; have HM := hid hm; have HT := hid hT; have HX := hid hx
  have B0 := hid (show Below w.heap.size w (w.alloc (.cells #[.int .i64 x.o, .int .i64 x.n, .string x.s, .slice A x.l.length c] 88)) from (Below.refl _ _).alloc (Nat.le_refl _) _)
  have X0 := hid (show (w.alloc (.cells #[.int .i64 x.o, .int .i64 x.n, .string x.s, .slice A x.l.length c] 88)).ownsRow w.heap.size 88 4 (.slice (some ⟨w.heap.size, 0, none⟩) 1 1) 1 [.int .i64 x.o, .int .i64 x.n, .string x.s, .slice A x.l.length c] from
    ⟨by simp, .inr ⟨w.heap.size, 1, _, rfl, Nat.le_refl _, heap_alloc_new w _, Nat.le_refl _, by decide, rfl, by simp⟩⟩)
  have hsh : x.l.length ≤ 64 ∧ x.s.size ≤ 200 := by
    unfold mayB shB at hm
    simp only [Bool.and_eq_true, decide_eq_true_eq] at hm
    exact ⟨hm.1.1.1.1.1.1.2, hm.1.1.1.1.2⟩
  obtain ⟨hs64, hs200⟩ := hsh
  have hlt := (Ar.v h).lt
  obtain ⟨Av, cv, rfl, -⟩ := h.rows
  obtain ⟨i0, hi, hz0, hz1, hz2⟩ := info_parts infoN
  clear h hl hm hT hx
  go_enter Tryz.func57, Tryz.ntmps57
  go_wp2_with fail
  refine (may_any st xs x A c _ (H.out.ext B0.out) (HS.out.ext B0.out)).mono ?_
  rintro e1 w1 ⟨rfl, b1⟩
  rw [HM.out]
  have B1 := hid (B0.out.trans (b1.mono B0.out.size))
  have X1 := hid (own_ext X0.out b1)
  clear b1
  have k0 : w1.cell? ⟨w.heap.size, 0, none⟩ = some (.int .i64 x.o) := X1.out.cellAt 0 (by decide)
  have k1 : w1.cell? ⟨w.heap.size, 1, none⟩ = some (.int .i64 x.n) := X1.out.cellAt 1 (by decide)
  have k2 : w1.cell? ⟨w.heap.size, 2, none⟩ = some (.string x.s) := X1.out.cellAt 2 (by decide)
  have k3 : w1.cell? ⟨w.heap.size, 3, none⟩ = some (.slice A x.l.length c) := X1.out.cellAt 3 (by decide)
  go_wp2_with fail
  refine (key_any x A c _ (HS.out.ext B1.out) (Tb.up (HT.out.on (B1.out.mono hB)) (Nat.le_trans hB B1.out.size)) hs64 HX.out.o HX.out.n HX.out.l hs200).mono ?_
  rintro e2 w2 ⟨KS, rfl, hk, b2⟩
  have HK := hid hk
  have B2 := hid (B1.out.trans (b2.mono B1.out.size))
  have X2 := hid (own_ext X1.out b2)
  clear b2 hk k0 k1 k2 k3
  have AR2 := hid (HAR.out.ext B2.out)
  obtain ⟨D, hD, hMO⟩ := AR2.out.map
  have HD := hid hD; have HMO := hid hMO
  clear hD hMO
  have s0 : w2.cell? ⟨st, 0, none⟩ = some (.slice Av xs.length cv) := cell_of_row w2 st 0 _ _ (0, 0) AR2.out.box
  have s1 : w2.cell? ⟨st, 1, none⟩ = some (.map (some mp)) := cell_of_row w2 st 1 _ _ (0, 0) AR2.out.box
  have hsz : KS.size ≤ maxLen := by
    have h1 : KS.size = (keyP x).length := by rw [← HK.out]; rfl
    have h2 := itoa_le x.o HX.out.o.1 HX.out.o.2
    have h3 := join_le (l := x.n :: x.l) (fun i hi => by
      rcases List.mem_cons.1 hi with rfl | hi
      · exact HX.out.n
      · exact HX.out.l i hi)
    have h4 : x.s.data.toList.length = x.s.size := rfl
    rw [h1]
    unfold keyP maxLen
    simp only [List.length_append, List.length_cons] at h3 ⊢
    omega
  have hkey : keyOf Tryz.prog 9 (.string KS) = some (.string (keyP x)) := by rw [← HK.out]; exact Go.WideMaps.keyOf_string_mk Tryz.underlying9 hsz
  have HKEY := hid hkey
  clear hkey
  by_cases hx : x ∈ xs
  · have HH := hid (HMO.out.yes hx)
    obtain ⟨e1, e2, e3⟩ := mak_old HM.out hx
    have HI := hid e2; have HE := hid e3; have HTT := hid e1
    have HIX := hid (HMO.out.at' _ x (idxOf_get hx))
    clear hx e1 e2 e3
    go_wp2_with (at_lookup; refine wpList_lookup_own_ok_int _ rfl _ _ 102 rfl 9 3 .i64 lawS Tryz.underlying102 Tryz.underlying3 (zeroI _) mp _ D rfl HD.out _ _ rfl HKEY.out ?_; intro cc hat hwc; rw [HH.out])
    have HCC := hid (show cc = (xs.idxOf x : Nat) by
      rw [HIX.out] at hat
      injection hat with hat
      injection hat with _ hat
      exact hat.symm)
    clear hat hwc
    go_wp2
    go_ret2
    refine ⟨by rw [HI.out, HE.out, HCC.out]; rfl, ?_⟩
    rw [HTT.out]
    exact makS_below HAR.out B2.out
  · have HH := hid (HMO.out.not (fun {_ _} => keyP_inj) hx)
    by_cases hf : 100000 ≤ xs.length
    · have HI := hid (show makI xs x = 0 by unfold makI; rw [HM.out, if_pos rfl, if_neg hx, if_pos hf])
      have HE := hid (show makE xs x = 2 by unfold makE; rw [HM.out, if_pos rfl, if_neg hx, if_pos hf])
      have HTT := hid (show makT xs x = xs by unfold makT; rw [HM.out, if_pos rfl, if_neg hx, if_pos hf])
      have hf' : (100000 : Int) ≤ (xs.length : Int) := by omega
      clear hx hf
      go_wp2_with (at_lookup; refine wpList_lookup_own_ok_int _ rfl _ _ 102 rfl 9 3 .i64 lawS Tryz.underlying102 Tryz.underlying3 (zeroI _) mp _ D rfl HD.out _ _ rfl HKEY.out ?_; intro cc hat hwc; rw [HH.out])
      go_ret2
      refine ⟨by rw [HI.out, HE.out]; rfl, ?_⟩
      rw [HTT.out]
      exact makS_below HAR.out B2.out
    · obtain ⟨e1, e2, e3⟩ := mak_new HM.out hx (by omega)
      have HI := hid e2; have HE := hid e3; have HTT := hid e1; have HNX := hid hx
      have hf' : decide ((100000 : Int) ≤ (xs.length : Int)) = false := decide_eq_false (by omega)
      have HF := hid hf
      clear e1 e2 e3 hx hf
      obtain ⟨⟨k0, k1, k2, k3⟩, f0, f1, f2, f3⟩ := box4 X2.out
      go_wp2_with (at_lookup; refine wpList_lookup_own_ok_int _ rfl _ _ 102 rfl 9 3 .i64 lawS Tryz.underlying102 Tryz.underlying3 (zeroI _) mp _ D rfl HD.out _ _ rfl HKEY.out ?_; intro cc hat hwc; rw [HH.out]; clear hat hwc)
      refine (clone_own A _ c x.l _ (HS.out.ext B2.out) (by omega)).mono ?_
      rintro e3 w3 ⟨q0, rfl, oq, b3⟩
      obtain ⟨Aq, cq, rfl, -⟩ := SlA.owned oq
      have X3 := hid (own_ext X2.out b3)
      have AR3 := hid (AR2.out.ext b3)
      have B3 := hid (B2.out.trans (b3.mono B2.out.size))
      have OQ := hid oq
      clear k0 k1 k2 k3 f0 f1 f2 f3
      obtain ⟨⟨k0, k1, k2, k3⟩, f0, f1, f2, f3⟩ := box4 X3.out
      clear oq b3
      go_upto_region 11 with fail
      have hws : w.heap.size < w2.heap.size := by
        have := (X2.out.lt w.heap.size rfl).2
        exact this
      refine forget (R := fun W => ArP W Z st mp (.slice Av xs.length cv) xs qs ∧ W.ownsRow w.heap.size 88 4 (.slice (some ⟨w.heap.size, 0, none⟩) 1 1) 1 (x.cells (.slice Aq x.l.length cq)) ∧ W.ownsRow w2.heap.size 3 1 (.slice Aq x.l.length cq) x.l.length (x.l.map (.int .i64)) ∧ Below w.heap.size w W) ?_ ⟨?_, ?_, ?_, ?_⟩
      rotate_left
      · exact AR3.out.turn (Turn.setCell (F := fun b => b = w.heap.size) (.slice Aq x.l.length cq) (.inl rfl)) (fun b hz e => by have := HAR.out.zlt b hz; omega)
      · exact (X3.out.stored 3 (.slice Aq x.l.length cq)).1
      · exact own_block OQ.out fun b hb => Below.heap_setCell w3 ⟨w.heap.size, 3, none⟩ (.slice Aq x.l.length cq) b (by have := (OQ.out.lt b hb).1; show b ≠ w.heap.size; omega)
      · exact B3.out.setCell (p := ⟨w.heap.size, 3, none⟩) (Nat.le_refl _) _
      rintro W ⟨ra, rx, ro, rb⟩
      have AR4 := hid ra; have X4 := hid rx; have OQ4 := hid ro; have B4 := hid rb
      clear ra rx ro rb k0 k1 k2 k3 f0 f1 f2 f3 s0 s1 X3 AR3 B3 OQ
      obtain ⟨⟨k0, k1, k2, k3⟩, -⟩ := box4 X4.out
      have s0 : W.cell? ⟨st, 0, none⟩ = some (.slice Av xs.length cv) := (ar_box AR4.out).cellAt 0 (by decide)
      have fs0 : W.frozen? ⟨st, 0, none⟩ = false := (ar_box AR4.out).frozenAt 0
      have hsW : w.heap.size < W.heap.size := (X4.out.lt w.heap.size rfl).2
      have hrow : ((W.alloc (.cells #[.int .i64 x.o, .int .i64 x.n, .string x.s, .slice Aq x.l.length cq] 88)).drew).ownsRow 0 88 4 (.slice Av xs.length cv) xs.length (nds xs qs) := own_block (AR4.out.row.alloc _) (fun _ _ => rfl)
      have HROW := hid hrow
      have HN1 := hid (show xs.length ≤ 100000 by have := HF.out; omega)
      have hstW : st < W.heap.size := by omega
      have s0' : (W.alloc (.cells #[.int .i64 x.o, .int .i64 x.n, .string x.s, .slice Aq x.l.length cq] 88)).cell? ⟨st, 0, none⟩ = some (.slice Av xs.length cv) := (World.cell?_alloc_old _ _ _ (show st ≠ W.heap.size by omega)).trans s0
      have HBX := hid (show ((W.alloc (.cells #[.int .i64 x.o, .int .i64 x.n, .string x.s, .slice Aq x.l.length cq] 88)).drew).heap[st]? = some (.cells #[.slice Av xs.length cv, .map (some mp)] 124 (0, 0)) from (Below.heap_alloc W _ st hstW).trans AR4.out.box)
      have HNE := hid (show some st ≠ (Value.slice Av xs.length cv).ownBlock from fun e => (AR4.out.zv st e.symm).2.1 rfl)
      clear hrow
      go_region_law (refine step_append_sl _ rfl (.tmp 42) (.tmp 44) 47 rfl 0 88 i0 (.agg #[.int .i64 0, .int .i64 0, .string ⟨#[]⟩, .slice none 0 0]) 4 56 Tryz.underlying47 hi hz0 hz1 hz2 rfl (by decide) (.slice Av xs.length cv) xs.length (nds xs qs) (by rfl) HROW.out (some ⟨W.heap.size, 0, none⟩) 1 1 (x.cells (.slice Aq x.l.length cq)) (by rfl) (lit4 _ _ _ _).drew (one4 _ _ _ _) (by have := HN1.out; unfold maxLen; omega) (by have := HN1.out; omega) (Nat.zero_le _) ?_; intro v4 w4 h4 g4 l4; obtain ⟨A4, c4, rfl, -⟩ := SlA.owned h4; have H4 := hid h4; have G4 := hid g4; have L4 := hid l4; have HB4 := hid ((g4.block st (by simp; omega) HNE.out).trans HBX.out); obtain ⟨s4, s5, f4⟩ := box2 HB4.out; clear h4 g4 l4)
      all_goals
        obtain ⟨D4, hD4, hM4⟩ := AR4.out.map
        have HD5 := hid (map_block (w' := w4.setCell ⟨st, 0, none⟩ (.slice A4 (xs.length + 1) c4)) hD4 (by
          have h1 := AR4.out.zlt _ AR4.out.zmp.1
          have h2 := AR4.out.zmp.2
          rw [Below.heap_setCell w4 ⟨st, 0, none⟩ _ mp h2, G4.out.block mp (by simp; omega) (fun e => (AR4.out.zv mp e.symm).2.2 rfl)]
          exact Below.heap_alloc W _ mp h1))
        have HM4 := hid hM4
        clear hD4 hM4
        have s6 : (w4.setCell ⟨st, 0, none⟩ (.slice A4 (xs.length + 1) c4)).cell? ⟨st, 1, none⟩ = some (.map (some mp)) := by
          have hb := heap_setCell_same w4 st 0 _ _ (.slice A4 (xs.length + 1) c4) HB4.out
          exact (box2 (a := .slice A4 (xs.length + 1) c4) (b := .map (some mp)) hb).2.1
        go_wp2_with (at_mapUpdate; refine wpList_mapUpdate_own _ rfl _ _ _ 102 rfl 9 3 lawS Tryz.underlying102 _ mp xs.length D4 rfl HD5.out (by have := HN1.out; unfold maxLen; omega) _ _ (.string (keyP x)) rfl rfl HKEY.out (.lit (.int .i64 (xs.length : Nat))) [] (plainElem_int Tryz.underlying3 (WalkArith.wf_i64 (by have := HN1.out; omega))) ?_; intro w6 hown6 hg6; have HO6 := hid hown6; have HG6 := hid hg6; clear hown6 hg6)
        go_wp2
        go_ret2
        refine ⟨by rw [HI.out, HE.out]; rfl, ?_⟩
        have hok : Okay (xs ++ [x]) := by
          have := okay_mak HAR.out.ok (x := x) (by have := HX.out.n.2; omega)
          rwa [HTT.out] at this
        rw [HTT.out]
        exact make_done HAR.out B4.out (W1 := (W.alloc (.cells #[.int .i64 x.o, .int .i64 x.n, .string x.s, .slice Aq x.l.length cq] 88)).drew) (fun b hb => Below.heap_alloc W _ b hb) (by simp) ⟨rfl, rfl, rfl⟩ OQ4.out hws G4.out H4.out L4.out HB4.out HO6.out (mapOk_put HM4.out (fun {_ _} => keyP_inj) HNX.out) hok HG6.out
/-- A node is made, whatever it is. -/
theorem make_any (h : ArP w Z st mp v xs qs) (hl : SlA w 1 A x.l.length c (x.l.map (.int .i64))) (hT : Tb B w) (hB : B ≤ w.heap.size) (hx : NdI x) :
    Calls Tryz.prog 57 #[.pointer (some ⟨st, 0, none⟩), .agg #[.int .i64 x.o, .int .i64 x.n, .string x.s, .slice A x.l.length c]] w fun e w' => e = .returned (.tuple #[.int .i64 (makI xs x), .int .i64 (makE xs x)]) ∧ MakS w Z st mp (makT xs x) w' := by
  rcases hm : mayB xs x with _ | _
  · refine (make_no Z st mp v xs qs x A c w h hl hm).mono ?_
    rintro e w' ⟨rfl, hb⟩
    refine ⟨?_, ?_⟩
    · unfold makI makE; rw [hm]; rfl
    · have : makT xs x = xs := by unfold makT; rw [hm]; rfl
      rw [this]
      exact makS_below h hb
  · exact make_yes Z st mp v xs qs x A c B w h hl hm hT hB hx
end
end Go.Proofs.YtkgobglmkhkbbaaGreatDoor
