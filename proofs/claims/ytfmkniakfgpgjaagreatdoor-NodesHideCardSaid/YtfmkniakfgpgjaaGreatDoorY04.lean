import Derived.Test.YtfmkniakfgpgjaaGreatDoorY03
import Derived.Maps.OwnSet
import Derived.Test.YtfmkniakfgpgjaaGreatDoorY01
import Derived.Carry
import Derived.Deep.RegionHeld3
import Derived.Laws.ResultCell
import Derived.Lib.Builder
import Derived.Lib.AppendStr
import Derived.Lib.UnsafeStr
import Derived.Laws.Externs
import Derived.Maps.Range
import Derived.Test.YtfmkniakfgpgjaaGreatDoorY02
/- term: a node is made. -/
namespace Go.Proofs.YtfmkniakfgpgjaaGreatDoor
open Go.RowKit Go.KK Go.Shelf Go.Maps Go.ChangeMaps
set_option linter.unusedVariables false
set_option linter.unusedSimpArgs false

theorem sla_getD {w : World} {b o n c : Nat} {l : List Int} (h : SlA w 1 (some ⟨b, o, none⟩) n c (l.map (.int .i64))) : ∀ j, j < l.length → w.cell? ⟨b, o + j, none⟩ = some (.int .i64 (l.getD j 0)) := by
  intro j hj
  obtain ⟨b1, o1, e, hc⟩ := h.cells j (.int .i64 (l[j]'hj)) (by rw [List.getElem?_map, List.getElem?_eq_getElem hj]; rfl)
  injection e with e
  injection e with e1 e2
  subst e1; subst e2
  rw [hc, List.getD, List.getElem?_eq_getElem hj]
  rfl
theorem clone_own (A : Option Addr) (n c : Nat) (l : List Int) (w : World) (h : SlA w 1 A n c (l.map (.int .i64))) (hn47 : n ≤ 2147483648) :
    Calls Tryz.prog 67 #[.slice A n c] w fun e w' => ∃ v, e = .returned v ∧ w'.ownsRow w.heap.size 3 1 v n (l.map (.int .i64)) ∧ Below w.heap.size w w' := by
  have hn := h.lenI
  rcases A with _ | a
  · have hl : l = [] := by
      rcases l with _ | ⟨x, l⟩
      · rfl
      · obtain ⟨b, o, e, _⟩ := h.cells 0 _ rfl; cases e
    subst hl
    simp at hn
    subst hn
    exact (Tryz.slices_Clone_int_nil 0 c w).mono fun e w' ⟨h1, h2⟩ => ⟨_, h1, World.ownsRow_nil _ _ _ _, by rw [h2]; exact Below.refl _ _⟩
  · rcases l with _ | ⟨x, l⟩
    · simp at hn
      subst hn
      exact (Tryz.slices_Clone_int_zero a c w).mono fun e w' ⟨v, h1, h2, _, h3⟩ => ⟨v, h1, h2, h3⟩
    · obtain ⟨b, o, e, _⟩ := h.cells 0 _ rfl
      injection e with e
      subst e
      have := Tryz.slices_Clone_int b o n c (x :: l) w (by omega) (by omega) (sla_getD h)
      rw [List.take_of_length_le (by omega)] at this
      exact this.mono fun e w' ⟨v, h1, h2, _, h3⟩ => ⟨v, h1, h2, h3⟩
theorem lawS : Keyed Tryz.prog 9 := string_keyed Tryz.underlying9
theorem zeroI (w : World) : (zeroValue 3).run Tryz.prog w = .ok (.int .i64 0) w := by kernel_rfl
theorem infoN : (Tryz.prog.info? 64).map (fun i => (i.zero, i.size, i.bytes)) = some (some (.agg #[.int .i64 0, .int .i64 0, .string ⟨#[]⟩, .slice none 0 0]), 4, 56) := by kernel_rfl
theorem forget {P : Program} {c : Code} {Q : Exit → Act → World → Prop} {a : Act} {W0 : World} {R : World → Prop} (h : ∀ W, R W → Code.wp P c Q a W) (r : R W0) : Code.wp P c Q a W0 := h W0 r
theorem box4 {W : World} {base g : Nat} {e : TypeId} {v0 v1 v2 v3 : Value} (h : W.ownsRow base e 4 (.slice (some ⟨g, 0, none⟩) 1 1) 1 [v0, v1, v2, v3]) :
    (W.cell? ⟨g, 0, none⟩ = some v0 ∧ W.cell? ⟨g, 1, none⟩ = some v1 ∧ W.cell? ⟨g, 2, none⟩ = some v2 ∧ W.cell? ⟨g, 3, none⟩ = some v3) ∧ W.frozen? ⟨g, 0, none⟩ = false ∧ W.frozen? ⟨g, 1, none⟩ = false ∧ W.frozen? ⟨g, 2, none⟩ = false ∧ W.frozen? ⟨g, 3, none⟩ = false :=
  ⟨⟨h.cellAt 0 (by decide), h.cellAt 1 (by decide), h.cellAt 2 (by decide), h.cellAt 3 (by decide)⟩, h.frozenAt 0, h.frozenAt 1, h.frozenAt 2, h.frozenAt 3⟩
theorem ar_box {NT K E T : TypeId} {kf : ND → List UInt8} {w : World} {Z : Nat → Prop} {st mp : Nat} {v : Value} {xs : List ND} {qs : List Value} (h : Ar Tryz.prog NT K E T kf w Z st mp v xs qs) : w.ownsRow 0 T 2 (.slice (some ⟨st, 0, none⟩) 1 1) 1 [v, .map (some mp)] :=
  ⟨by simp, .inr ⟨st, 1, _, rfl, Nat.zero_le _, h.box, Nat.le_refl _, by decide, rfl, by simp⟩⟩
theorem box2 {w : World} {st : Nat} {a b : Value} {T : TypeId} (h : w.heap[st]? = some (.cells #[a, b] T (0, 0))) : w.cell? ⟨st, 0, none⟩ = some a ∧ w.cell? ⟨st, 1, none⟩ = some b ∧ w.frozen? ⟨st, 0, none⟩ = false := by
  have hr : w.ownsRow 0 T 2 (.slice (some ⟨st, 0, none⟩) 1 1) 1 [a, b] := ⟨by simp, .inr ⟨st, 1, _, rfl, Nat.zero_le _, h, Nat.le_refl _, by decide, rfl, by simp⟩⟩
  exact ⟨hr.cellAt 0 (by decide), hr.cellAt 1 (by decide), hr.frozenAt 0⟩
theorem lit4 {w : World} {T : TypeId} (v0 v1 v2 v3 : Value) : SlA (w.alloc (.cells #[v0, v1, v2, v3] T)) 4 (some ⟨w.heap.size, 0, none⟩) 1 1 [v0, v1, v2, v3] :=
  (SlA.of_own (World.ownsRow_lit (e := T) (base := 0) (size := 4) w #[v0, v1, v2, v3] 1 (Nat.zero_le _) (by unfold maxLen; omega) rfl)).2
theorem one4 (x : ND) (A : Option Addr) (n c : Nat) : ∀ u ∈ x.cells (.slice A n c), u.oneCell' = true := by
  intro u hu
  simp only [ND.cells, List.mem_cons, List.mem_nil_iff, or_false] at hu
  rcases hu with rfl | rfl | rfl | rfl <;> rfl
/-- What a call that makes a node leaves. -/
def MakS (w : World) (Z : Nat → Prop) (st mp : Nat) (xs : List ND) (w' : World) : Prop := ∃ Z' v' qs', ArP w' Z' st mp v' xs qs' ∧ Turn Z w w' ∧ ∀ b, Z' b → Z b ∨ w.heap.size ≤ b
theorem makS_below {w w' : World} {Z : Nat → Prop} {st mp : Nat} {v : Value} {xs : List ND} {qs : List Value} (h : ArP w Z st mp v xs qs) (hb : Below w.heap.size w w') : MakS w Z st mp xs w' :=
  ⟨Z, v, qs, h.ext hb, .of_below hb, fun b h => .inl h⟩
/-- int's numbers in a node. -/
structure NdI (x : ND) : Prop where
  o : I64 x.o
  n : I64 x.n
  l : ∀ i ∈ x.l, I64 i
theorem make_done {w W W1 w4 w6 : World} {Z : Nat → Prop} {st mp : Nat} {v v4 q : Value} {xs : List ND} {qs : List Value} {x : ND} {D : MD} {b2 : Nat} (h : ArP w Z st mp v xs qs) (hB : Below w.heap.size w W) (hb1 : ∀ b, b < W.heap.size → W1.heap[b]? = W.heap[b]?) (hs1 : W.heap.size ≤ W1.heap.size)
    (hot : W1.os = W.os ∧ W1.tape = W.tape ∧ W1.output = W.output)
    (hq : W.ownsRow b2 3 1 q x.l.length (x.l.map (.int .i64))) (hb2 : w.heap.size < b2) (hg4 : W1.grownBy w4 v.ownBlock) (h4 : w4.ownsRow 0 64 4 v4 (xs.length + 1) (nds xs qs ++ x.cells q)) (hl4 : v4.ownBlock = v.ownBlock ∨ v4.ownBlock = some W1.heap.size)
    (hbx : w4.heap[st]? = some (.cells #[v, .map (some mp)] 122 (0, 0))) (hm : w6.ownsMap Tryz.prog 9 (plainElem Tryz.prog 3) mp (xs.length + 1) D) (hmo : MapOk keyP (xs ++ [x]) D) (hok : Okay (xs ++ [x]))
    (hg6 : (w4.setCell ⟨st, 0, none⟩ v4).grownBy w6 (some mp)) : MakS w Z st mp (xs ++ [x]) w6 := by
  have hzl := h.zlt
  have l1 := hzl _ h.zst
  have l2 := hzl _ h.zmp.1
  have hmne := h.zmp.2
  have s1 := hB.size
  have s4 := hg4.size
  have s5 : (w4.setCell ⟨st, 0, none⟩ v4).heap.size = w4.heap.size := by simp
  have s6 := hg6.size
  rw [s5] at s6
  have hne : some st ≠ v.ownBlock := fun e => (h.zv st e.symm).2.1 rfl
  have box6 : w6.heap[st]? = some (.cells #[v4, .map (some mp)] 122 (0, 0)) := by
    rw [hg6.block st (by rw [s5]; omega) (by intro e; injection e with e; exact hmne e.symm), heap_setCell_same w4 st 0 _ _ v4 hbx]
    rfl
  have step : ∀ b, b < w4.heap.size → b ≠ st → b ≠ mp → w6.heap[b]? = w4.heap[b]? := fun b hb h1 h2 => by
    rw [hg6.block b (by rw [s5]; exact hb) (by intro e; injection e with e; exact h2 e), Below.heap_setCell w4 ⟨st, 0, none⟩ v4 b h1]
  have hv4 : v4.ownBlock = v.ownBlock ∨ ∀ b, v4.ownBlock = some b → w.heap.size ≤ b ∧ b < w6.heap.size := by
    rcases hl4 with e | e
    · exact .inl e
    · refine .inr fun b hb => ?_
      have hlt := (h4.lt b hb).2
      rw [e] at hb
      injection hb with hb
      omega
  have vlt : ∀ b, v4.ownBlock = some b → b < w4.heap.size ∧ b ≠ st ∧ b ≠ mp := fun b hb => by
    refine ⟨(h4.lt b hb).2, ?_⟩
    rcases hl4 with e | e
    · have := h.zv b (e ▸ hb); exact ⟨this.2.1, this.2.2⟩
    · rw [e] at hb; injection hb with hb; omega
  have hqk : ∀ b, q.ownBlock = some b → b2 ≤ b ∧ b < W.heap.size ∧ w6.heap[b]? = W.heap[b]? := fun b hb => by
    obtain ⟨q1, q2⟩ := hq.lt b hb
    refine ⟨q1, q2, ?_⟩
    rw [step b (by omega) (by omega) (by omega), hg4.block b (by omega) (fun e => by have := (h.zv b e.symm).1; have := hzl b this; omega), hb1 b q2]
  have hold : ∀ b, b < w.heap.size → b ≠ st → b ≠ mp → v.ownBlock ≠ some b → w6.heap[b]? = w.heap[b]? := fun b hb h1 h2 h3 => by
    rw [step b (by omega) h1 h2, hg4.block b (by omega) (fun e => h3 e.symm), hb1 b (by omega), hB.block b hb]
  have row6 : w6.ownsRow 0 64 4 v4 (xs.length + 1) (nds xs qs ++ x.cells q) := own_block h4 fun b hb => by
    obtain ⟨a1, a2, a3⟩ := vlt b hb
    exact step b a1 a2 a3
  obtain ⟨Aq, cq, hqe, -⟩ := SlA.owned hq
  have hq6 : In1 w6 q x.l := by
    have := own_block hq (w' := w6) fun b hb => (hqk b hb).2.2
    obtain ⟨A', c', e', hs'⟩ := SlA.owned this
    exact ⟨A', c', e', hs'⟩
  have hP := h.push (w' := w6) (v' := v4) (q := q) (x := x) (D := D) hok box6 row6 hv4 hq6 (fun hne' b hb => by
    obtain ⟨a1, a2, a3⟩ := hqk b hb
    refine ⟨by omega, by omega, fun e => ?_⟩
    rcases hl4 with e4 | e4
    · have := (h.zv b (e4 ▸ e)).1; have := hzl b this; omega
    · rw [e4] at e; injection e with e; omega) hm hmo (fun b hz h1 h2 h3 => hold b (hzl b hz) h1 h2 h3) (by omega)
  refine ⟨_, v4, _, hP, ⟨?_, ?_, ?_, by omega, fun b hb hz => hold b hb (fun e => hz (e ▸ h.zst)) (fun e => hz (e ▸ h.zmp.1)) (fun e => hz (h.zv b e).1)⟩, fun b hb => ?_⟩
  · rw [hg6.os, show (w4.setCell ⟨st, 0, none⟩ v4).os = w4.os from (Turn.setCell (F := fun _ => True) (w := w4) (a := ⟨st, 0, none⟩) v4 (.inl trivial)).os, hg4.os, hot.1, hB.os]
  · rw [hg6.tape, show (w4.setCell ⟨st, 0, none⟩ v4).tape = w4.tape from (Turn.setCell (F := fun _ => True) (w := w4) (a := ⟨st, 0, none⟩) v4 (.inl trivial)).tape, hg4.tape, hot.2.1, hB.tape]
  · rw [hg6.output, show (w4.setCell ⟨st, 0, none⟩ v4).output = w4.output from (Turn.setCell (F := fun _ => True) (w := w4) (a := ⟨st, 0, none⟩) v4 (.inl trivial)).output, hg4.output, hot.2.2, hB.output]
  · rcases hb with hb | hb
    · exact .inl hb
    · exact .inr hb.1
section
variable (Z : Nat → Prop) (st mp : Nat) (v : Value) (xs : List ND) (qs : List Value) (x : ND) (A : Option Addr) (c B : Nat) (w : World)
set_option maxHeartbeats 1000000 in
theorem make_no (h : ArP w Z st mp v xs qs) (hl : SlA w 1 A x.l.length c (x.l.map (.int .i64))) (hm : mayB xs x = false) :
    Calls Tryz.prog 34 #[.pointer (some ⟨st, 0, none⟩), .agg #[.int .i64 x.o, .int .i64 x.n, .string x.s, .slice A x.l.length c]] w fun e w' => e = .returned (.tuple #[.int .i64 0, .int .i64 1]) ∧ Below w.heap.size w w' := by
  have H := hid (Ar.v h); have HS := hid hl; have HM := hid hm
  have B0 := hid (show Below w.heap.size w (w.alloc (.cells #[.int .i64 x.o, .int .i64 x.n, .string x.s, .slice A x.l.length c] 64)) from (Below.refl _ _).alloc (Nat.le_refl _) _)
  clear h hl hm
  go_enter Tryz.func34, Tryz.ntmps34
  go_wp2_with fail
  refine (may_any st xs x A c _ (H.out.ext B0.out) (HS.out.ext B0.out)).mono ?_
  rintro e1 w1 ⟨rfl, b1⟩
  rw [HM.out]
  have B1 := hid (B0.out.trans (b1.mono B0.out.size))
  clear b1
  go_wp2_with fail
  go_ret2
  exact ⟨rfl, B1.out⟩
set_option maxHeartbeats 4000000 in
set_option maxRecDepth 20000 in
theorem make_yes (h : ArP w Z st mp v xs qs) (hl : SlA w 1 A x.l.length c (x.l.map (.int .i64))) (hm : mayB xs x = true) (hT : Tb B w) (hB : B ≤ w.heap.size) (hx : NdI x) :
    Calls Tryz.prog 34 #[.pointer (some ⟨st, 0, none⟩), .agg #[.int .i64 x.o, .int .i64 x.n, .string x.s, .slice A x.l.length c]] w fun e w' => e = .returned (.tuple #[.int .i64 (makI xs x), .int .i64 (makE xs x)]) ∧ MakS w Z st mp (makT xs x) w' := by
  have HAR := hid h
  have H := hid (Ar.v h); have HS := hid hl; have HM := hid hm; have HT := hid hT; have HX := hid hx
  have B0 := hid (show Below w.heap.size w (w.alloc (.cells #[.int .i64 x.o, .int .i64 x.n, .string x.s, .slice A x.l.length c] 64)) from (Below.refl _ _).alloc (Nat.le_refl _) _)
  have X0 := hid (show (w.alloc (.cells #[.int .i64 x.o, .int .i64 x.n, .string x.s, .slice A x.l.length c] 64)).ownsRow w.heap.size 64 4 (.slice (some ⟨w.heap.size, 0, none⟩) 1 1) 1 [.int .i64 x.o, .int .i64 x.n, .string x.s, .slice A x.l.length c] from
    ⟨by simp, .inr ⟨w.heap.size, 1, _, rfl, Nat.le_refl _, heap_alloc_new w _, Nat.le_refl _, by decide, rfl, by simp⟩⟩)
  have hsh : x.l.length ≤ 64 ∧ x.s.size ≤ 200 := by
    unfold mayB shB at hm
    simp only [Bool.and_eq_true, decide_eq_true_eq] at hm
    exact ⟨hm.1.1.1.1.1.1.2, hm.1.1.1.1.2⟩
  obtain ⟨hs64, hs200⟩ := hsh
  have hlt := (Ar.v h).lt
  obtain ⟨Av, cv, rfl, -⟩ := h.rows
  obtain ⟨i0, hi, hz0, hz1, hz2⟩ := info_parts infoN
  clear h hl hm hT hx
  go_enter Tryz.func34, Tryz.ntmps34
  go_wp2_with fail
  refine (may_any st xs x A c _ (H.out.ext B0.out) (HS.out.ext B0.out)).mono ?_
  rintro e1 w1 ⟨rfl, b1⟩
  rw [HM.out]
  have B1 := hid (B0.out.trans (b1.mono B0.out.size))
  have X1 := hid (own_ext X0.out b1)
  clear b1
  have k0 : w1.cell? ⟨w.heap.size, 0, none⟩ = some (.int .i64 x.o) := X1.out.cellAt 0 (by decide)
  have k1 : w1.cell? ⟨w.heap.size, 1, none⟩ = some (.int .i64 x.n) := X1.out.cellAt 1 (by decide)
  have k2 : w1.cell? ⟨w.heap.size, 2, none⟩ = some (.string x.s) := X1.out.cellAt 2 (by decide)
  have k3 : w1.cell? ⟨w.heap.size, 3, none⟩ = some (.slice A x.l.length c) := X1.out.cellAt 3 (by decide)
  go_wp2_with fail
  refine (key_any x A c _ (HS.out.ext B1.out) (Tb.up (HT.out.on (B1.out.mono hB)) (Nat.le_trans hB B1.out.size)) hs64 HX.out.o HX.out.n HX.out.l hs200).mono ?_
  rintro e2 w2 ⟨KS, rfl, hk, b2⟩
  have HK := hid hk
  have B2 := hid (B1.out.trans (b2.mono B1.out.size))
  have X2 := hid (own_ext X1.out b2)
  clear b2 hk k0 k1 k2 k3
  have AR2 := hid (HAR.out.ext B2.out)
  obtain ⟨D, hD, hMO⟩ := AR2.out.map
  have HD := hid hD; have HMO := hid hMO
  clear hD hMO
  have s0 : w2.cell? ⟨st, 0, none⟩ = some (.slice Av xs.length cv) := cell_of_row w2 st 0 _ _ (0, 0) AR2.out.box
  have s1 : w2.cell? ⟨st, 1, none⟩ = some (.map (some mp)) := cell_of_row w2 st 1 _ _ (0, 0) AR2.out.box
  have hsz : KS.size ≤ maxLen := by
    have h1 : KS.size = (keyP x).length := by rw [← HK.out]; rfl
    have h2 := itoa_le x.o HX.out.o.1 HX.out.o.2
    have h3 := join_le (l := x.n :: x.l) (fun i hi => by
      rcases List.mem_cons.1 hi with rfl | hi
      · exact HX.out.n
      · exact HX.out.l i hi)
    have h4 : x.s.data.toList.length = x.s.size := rfl
    rw [h1]
    unfold keyP maxLen
    simp only [List.length_append, List.length_cons] at h3 ⊢
    omega
  have hkey : keyOf Tryz.prog 9 (.string KS) = some (.string (keyP x)) := by rw [← HK.out]; exact Go.WideMaps.keyOf_string_mk Tryz.underlying9 hsz
  have HKEY := hid hkey
  clear hkey
  by_cases hx : x ∈ xs
  · have HH := hid (HMO.out.yes hx)
    obtain ⟨e1, e2, e3⟩ := mak_old HM.out hx
    have HI := hid e2; have HE := hid e3; have HTT := hid e1
    have HIX := hid (HMO.out.at' _ x (idxOf_get hx))
    clear hx e1 e2 e3
    go_wp2_with (at_lookup; refine wpList_lookup_own_ok_int _ rfl _ _ 97 rfl 9 3 .i64 lawS Tryz.underlying97 Tryz.underlying3 (zeroI _) mp _ D rfl HD.out _ _ rfl HKEY.out ?_; intro cc hat hwc; rw [HH.out])
    have HCC := hid (show cc = (xs.idxOf x : Nat) by
      rw [HIX.out] at hat
      injection hat with hat
      injection hat with _ hat
      exact hat.symm)
    clear hat hwc
    go_wp2
    go_ret2
    refine ⟨by rw [HI.out, HE.out, HCC.out]; rfl, ?_⟩
    rw [HTT.out]
    exact makS_below HAR.out B2.out
  · have HH := hid (HMO.out.not (fun {_ _} => keyP_inj) hx)
    by_cases hf : 100000 ≤ xs.length
    · have HI := hid (show makI xs x = 0 by unfold makI; rw [HM.out, if_pos rfl, if_neg hx, if_pos hf])
      have HE := hid (show makE xs x = 2 by unfold makE; rw [HM.out, if_pos rfl, if_neg hx, if_pos hf])
      have HTT := hid (show makT xs x = xs by unfold makT; rw [HM.out, if_pos rfl, if_neg hx, if_pos hf])
      have hf' : (100000 : Int) ≤ (xs.length : Int) := by omega
      clear hx hf
      go_wp2_with (at_lookup; refine wpList_lookup_own_ok_int _ rfl _ _ 97 rfl 9 3 .i64 lawS Tryz.underlying97 Tryz.underlying3 (zeroI _) mp _ D rfl HD.out _ _ rfl HKEY.out ?_; intro cc hat hwc; rw [HH.out])
      go_ret2
      refine ⟨by rw [HI.out, HE.out]; rfl, ?_⟩
      rw [HTT.out]
      exact makS_below HAR.out B2.out
    · obtain ⟨e1, e2, e3⟩ := mak_new HM.out hx (by omega)
      have HI := hid e2; have HE := hid e3; have HTT := hid e1; have HNX := hid hx
      have hf' : decide ((100000 : Int) ≤ (xs.length : Int)) = false := decide_eq_false (by omega)
      have HF := hid hf
      clear e1 e2 e3 hx hf
      obtain ⟨⟨k0, k1, k2, k3⟩, f0, f1, f2, f3⟩ := box4 X2.out
      go_wp2_with (at_lookup; refine wpList_lookup_own_ok_int _ rfl _ _ 97 rfl 9 3 .i64 lawS Tryz.underlying97 Tryz.underlying3 (zeroI _) mp _ D rfl HD.out _ _ rfl HKEY.out ?_; intro cc hat hwc; rw [HH.out]; clear hat hwc)
      refine (clone_own A _ c x.l _ (HS.out.ext B2.out) (by omega)).mono ?_
      rintro e3 w3 ⟨q0, rfl, oq, b3⟩
      obtain ⟨Aq, cq, rfl, -⟩ := SlA.owned oq
      have X3 := hid (own_ext X2.out b3)
      have AR3 := hid (AR2.out.ext b3)
      have B3 := hid (B2.out.trans (b3.mono B2.out.size))
      have OQ := hid oq
      clear k0 k1 k2 k3 f0 f1 f2 f3
      obtain ⟨⟨k0, k1, k2, k3⟩, f0, f1, f2, f3⟩ := box4 X3.out
      clear oq b3
      go_upto_region 11 with fail
      have hws : w.heap.size < w2.heap.size := by
        have := (X2.out.lt w.heap.size rfl).2
        exact this
      refine forget (R := fun W => ArP W Z st mp (.slice Av xs.length cv) xs qs ∧ W.ownsRow w.heap.size 64 4 (.slice (some ⟨w.heap.size, 0, none⟩) 1 1) 1 (x.cells (.slice Aq x.l.length cq)) ∧ W.ownsRow w2.heap.size 3 1 (.slice Aq x.l.length cq) x.l.length (x.l.map (.int .i64)) ∧ Below w.heap.size w W) ?_ ⟨?_, ?_, ?_, ?_⟩
      rotate_left
      · exact AR3.out.turn (Turn.setCell (F := fun b => b = w.heap.size) (.slice Aq x.l.length cq) (.inl rfl)) (fun b hz e => by have := HAR.out.zlt b hz; omega)
      · exact (X3.out.stored 3 (.slice Aq x.l.length cq)).1
      · exact own_block OQ.out fun b hb => Below.heap_setCell w3 ⟨w.heap.size, 3, none⟩ (.slice Aq x.l.length cq) b (by have := (OQ.out.lt b hb).1; show b ≠ w.heap.size; omega)
      · exact B3.out.setCell (p := ⟨w.heap.size, 3, none⟩) (Nat.le_refl _) _
      rintro W ⟨ra, rx, ro, rb⟩
      have AR4 := hid ra; have X4 := hid rx; have OQ4 := hid ro; have B4 := hid rb
      clear ra rx ro rb k0 k1 k2 k3 f0 f1 f2 f3 s0 s1 X3 AR3 B3 OQ
      obtain ⟨⟨k0, k1, k2, k3⟩, -⟩ := box4 X4.out
      have s0 : W.cell? ⟨st, 0, none⟩ = some (.slice Av xs.length cv) := (ar_box AR4.out).cellAt 0 (by decide)
      have fs0 : W.frozen? ⟨st, 0, none⟩ = false := (ar_box AR4.out).frozenAt 0
      have hsW : w.heap.size < W.heap.size := (X4.out.lt w.heap.size rfl).2
      have hrow : ((W.alloc (.cells #[.int .i64 x.o, .int .i64 x.n, .string x.s, .slice Aq x.l.length cq] 64)).drew).ownsRow 0 64 4 (.slice Av xs.length cv) xs.length (nds xs qs) := own_block (AR4.out.row.alloc _) (fun _ _ => rfl)
      have HROW := hid hrow
      have HN1 := hid (show xs.length ≤ 100000 by have := HF.out; omega)
      have hstW : st < W.heap.size := by omega
      have s0' : (W.alloc (.cells #[.int .i64 x.o, .int .i64 x.n, .string x.s, .slice Aq x.l.length cq] 64)).cell? ⟨st, 0, none⟩ = some (.slice Av xs.length cv) := (World.cell?_alloc_old _ _ _ (show st ≠ W.heap.size by omega)).trans s0
      have HBX := hid (show ((W.alloc (.cells #[.int .i64 x.o, .int .i64 x.n, .string x.s, .slice Aq x.l.length cq] 64)).drew).heap[st]? = some (.cells #[.slice Av xs.length cv, .map (some mp)] 122 (0, 0)) from (Below.heap_alloc W _ st hstW).trans AR4.out.box)
      have HNE := hid (show some st ≠ (Value.slice Av xs.length cv).ownBlock from fun e => (AR4.out.zv st e.symm).2.1 rfl)
      clear hrow
      go_region_law (refine step_append_sl _ rfl (.tmp 42) (.tmp 44) 39 rfl 0 64 i0 (.agg #[.int .i64 0, .int .i64 0, .string ⟨#[]⟩, .slice none 0 0]) 4 56 Tryz.underlying39 hi hz0 hz1 hz2 rfl (by decide) (.slice Av xs.length cv) xs.length (nds xs qs) (by rfl) HROW.out (some ⟨W.heap.size, 0, none⟩) 1 1 (x.cells (.slice Aq x.l.length cq)) (by rfl) (lit4 _ _ _ _).drew (one4 _ _ _ _) (by have := HN1.out; unfold maxLen; omega) (by have := HN1.out; omega) (Nat.zero_le _) ?_; intro v4 w4 h4 g4 l4; obtain ⟨A4, c4, rfl, -⟩ := SlA.owned h4; have H4 := hid h4; have G4 := hid g4; have L4 := hid l4; have HB4 := hid ((g4.block st (by simp; omega) HNE.out).trans HBX.out); obtain ⟨s4, s5, f4⟩ := box2 HB4.out; clear h4 g4 l4)
      all_goals
        obtain ⟨D4, hD4, hM4⟩ := AR4.out.map
        have HD5 := hid (map_block (w' := w4.setCell ⟨st, 0, none⟩ (.slice A4 (xs.length + 1) c4)) hD4 (by
          have h1 := AR4.out.zlt _ AR4.out.zmp.1
          have h2 := AR4.out.zmp.2
          rw [Below.heap_setCell w4 ⟨st, 0, none⟩ _ mp h2, G4.out.block mp (by simp; omega) (fun e => (AR4.out.zv mp e.symm).2.2 rfl)]
          exact Below.heap_alloc W _ mp h1))
        have HM4 := hid hM4
        clear hD4 hM4
        have s6 : (w4.setCell ⟨st, 0, none⟩ (.slice A4 (xs.length + 1) c4)).cell? ⟨st, 1, none⟩ = some (.map (some mp)) := by
          have hb := heap_setCell_same w4 st 0 _ _ (.slice A4 (xs.length + 1) c4) HB4.out
          exact (box2 (a := .slice A4 (xs.length + 1) c4) (b := .map (some mp)) hb).2.1
        go_wp2_with (at_mapUpdate; refine wpList_mapUpdate_own _ rfl _ _ _ 97 rfl 9 3 lawS Tryz.underlying97 _ mp xs.length D4 rfl HD5.out (by have := HN1.out; unfold maxLen; omega) _ _ (.string (keyP x)) rfl rfl HKEY.out (.lit (.int .i64 (xs.length : Nat))) [] (plainElem_int Tryz.underlying3 (WalkArith.wf_i64 (by have := HN1.out; omega))) ?_; intro w6 hown6 hg6; have HO6 := hid hown6; have HG6 := hid hg6; clear hown6 hg6)
        go_wp2
        go_ret2
        refine ⟨by rw [HI.out, HE.out]; rfl, ?_⟩
        have hok : Okay (xs ++ [x]) := by
          have := okay_mak HAR.out.ok (x := x) (by have := HX.out.n.2; omega)
          rwa [HTT.out] at this
        rw [HTT.out]
        exact make_done HAR.out B4.out (W1 := (W.alloc (.cells #[.int .i64 x.o, .int .i64 x.n, .string x.s, .slice Aq x.l.length cq] 64)).drew) (fun b hb => Below.heap_alloc W _ b hb) (by simp) ⟨rfl, rfl, rfl⟩ OQ4.out hws G4.out H4.out L4.out HB4.out HO6.out (mapOk_put HM4.out (fun {_ _} => keyP_inj) HNX.out) hok HG6.out
/-- A node is made, whatever it is. -/
theorem make_any (h : ArP w Z st mp v xs qs) (hl : SlA w 1 A x.l.length c (x.l.map (.int .i64))) (hT : Tb B w) (hB : B ≤ w.heap.size) (hx : NdI x) :
    Calls Tryz.prog 34 #[.pointer (some ⟨st, 0, none⟩), .agg #[.int .i64 x.o, .int .i64 x.n, .string x.s, .slice A x.l.length c]] w fun e w' => e = .returned (.tuple #[.int .i64 (makI xs x), .int .i64 (makE xs x)]) ∧ MakS w Z st mp (makT xs x) w' := by
  rcases hm : mayB xs x with _ | _
  · refine (make_no Z st mp v xs qs x A c w h hl hm).mono ?_
    rintro e w' ⟨rfl, hb⟩
    refine ⟨?_, ?_⟩
    · unfold makI makE; rw [hm]; rfl
    · have : makT xs x = xs := by unfold makT; rw [hm]; rfl
      rw [this]
      exact makS_below h hb
  · exact make_yes Z st mp v xs qs x A c B w h hl hm hT hB hx
end
end Go.Proofs.YtfmkniakfgpgjaaGreatDoor

/- term: New, Len, Node; crypto: what makes and reads nodes. -/
namespace Go.Proofs.YtfmkniakfgpgjaaGreatDoor
open Go.RowKit Go.KK Go.Shelf Go.Maps
set_option linter.unusedVariables false
set_option linter.unusedSimpArgs false

/-- The program's arena at block st, all of its blocks in Z. -/
def AR (w : World) (Z : Nat → Prop) (st : Nat) (xs : List ND) : Prop := ∃ mp v qs, ArP w Z st mp v xs qs
def ArS (w : World) (Z : Nat → Prop) (st : Nat) (xs : List ND) (w' : World) : Prop := ∃ Z', AR w' Z' st xs ∧ Turn Z w w' ∧ ∀ b, Z' b → Z b ∨ w.heap.size ≤ b
theorem ArS.of {w w' : World} {Z : Nat → Prop} {st mp : Nat} {xs : List ND} (h : MakS w Z st mp xs w') : ArS w Z st xs w' := by
  obtain ⟨Z', v, qs, h1, h2, h3⟩ := h
  exact ⟨Z', ⟨mp, v, qs, h1⟩, h2, h3⟩
theorem AR.ext {w w' : World} {Z : Nat → Prop} {st : Nat} {xs : List ND} (h : AR w Z st xs) (hb : Below w.heap.size w w') : AR w' Z st xs := by
  obtain ⟨mp, v, qs, h1⟩ := h
  exact ⟨mp, v, qs, h1.ext hb⟩
theorem AR.zlt {w : World} {Z : Nat → Prop} {st : Nat} {xs : List ND} (h : AR w Z st xs) : ∀ b, Z b → b < w.heap.size := by
  obtain ⟨mp, v, qs, h1⟩ := h
  exact h1.zlt
theorem AR.ok {w : World} {Z : Nat → Prop} {st : Nat} {xs : List ND} (h : AR w Z st xs) : Okay xs := by
  obtain ⟨mp, v, qs, h1⟩ := h
  exact h1.ok
theorem AR.vw {w : World} {Z : Nat → Prop} {st : Nat} {xs : List ND} (h : AR w Z st xs) : ArV w 122 st xs := by
  obtain ⟨mp, v, qs, h1⟩ := h
  exact Ar.v h1
theorem AR.stay {w w' : World} {Z : Nat → Prop} {st : Nat} {xs : List ND} (h : AR w Z st xs) (hb : Below w.heap.size w w') : ArS w Z st xs w' := ⟨Z, h.ext hb, .of_below hb, fun _ h => .inl h⟩
/-- Behind a call that only lays blocks. -/
theorem ArS.first {w w1 w2 : World} {Z : Nat → Prop} {st : Nat} {xs : List ND} (hb : Below w.heap.size w w1) (h : ArS w1 Z st xs w2) : ArS w Z st xs w2 := by
  obtain ⟨Z', h1, h2, h3⟩ := h
  refine ⟨Z', h1, (Turn.of_below hb).trans h2 (fun _ h => .inl h), fun b hz => (h3 b hz).imp id fun h => Nat.le_trans hb.size h⟩
theorem ArS.next {w w1 w2 : World} {Z : Nat → Prop} {st : Nat} {xs : List ND} (h : ArS w Z st xs w1) (hb : Below w1.heap.size w1 w2) : ArS w Z st xs w2 := by
  obtain ⟨Z', h1, h2, h3⟩ := h
  exact ⟨Z', h1.ext hb, h2.trans (.of_below (F := Z) hb) (fun _ h => .inl h), h3⟩
theorem ArS.chain {w w1 w2 : World} {Z Z1 : Nat → Prop} {st : Nat} {xs : List ND} (ht : Turn Z w w1) (hz : ∀ b, Z1 b → Z b ∨ w.heap.size ≤ b) (h : ArS w1 Z1 st xs w2) : ArS w Z st xs w2 := by
  obtain ⟨Z', h1, h2, h3⟩ := h
  exact ⟨Z', h1, ht.trans h2 hz, fun b hb => (h3 b hb).elim (hz b) fun h => .inr (Nat.le_trans ht.size h)⟩

theorem new_any (w : World) : Calls Tryz.prog 32 #[] w fun e w' => ∃ Z st, e = .returned (.pointer (some ⟨st, 0, none⟩)) ∧ AR w' Z st [] ∧ (∀ b, Z b → w.heap.size ≤ b) ∧ Below w.heap.size w w' := by
  have hmm := @run_makeMap Tryz.prog
  go_enter Tryz.func32, Tryz.ntmps32
  go_wp2
  go_ret
  have B1 : Below w.heap.size w (w.alloc (.map #[] 0)) := (Below.refl _ _).alloc (Nat.le_refl _) _
  have hm0 := World.ownsMap_made (H := Unit) w Tryz.prog 9 (plainElem Tryz.prog 3)
  refine ⟨fun b => b = w.heap.size ∨ b = w.heap.size + 1, w.heap.size + 1, by simp, ⟨w.heap.size, .slice none 0 0, [], ?_⟩, fun b hb => by rcases hb with rfl | rfl <;> omega, B1.alloc (by simp) _⟩
  have hsz : (w.alloc (.map #[] 0)).heap.size = w.heap.size + 1 := by simp
  refine ⟨?_, World.ownsRow_nil _ _ _ _, rfl, fun j x q h => by simp at h, fun j x q b h => by simp at h, ⟨.map [], ?_, mapOk_nil _⟩, .inr rfl, ⟨.inl rfl, by omega⟩, fun b h => (by cases h), fun b hb => ?_, okay_nil⟩
  · have := heap_alloc_new (w.alloc (.map #[] 0)) (.cells #[.slice none 0 0, .map (some w.heap.size)] 122)
    rw [hsz] at this
    exact this
  · exact hm0.alloc _
  · have h2 : ((w.alloc (.map #[] 0)).alloc (.cells #[.slice none 0 0, .map (some w.heap.size)] 122)).heap.size = w.heap.size + 1 + 1 := by simp
    rcases hb with rfl | rfl <;> omega
theorem len_any (st : Nat) (xs : List ND) (w : World) (h : ArV w 122 st xs) :
    Calls Tryz.prog 41 #[.pointer (some ⟨st, 0, none⟩)] w fun e w' => e = .returned (.int .i64 xs.length) ∧ w' = w := by
  obtain ⟨A, c, m, h0, h1, hn⟩ := h.parts
  clear hn h
  go_enter Tryz.func41, Tryz.ntmps41
  go_wp2
  go_ret
  exact ⟨rfl, rfl⟩
set_option maxHeartbeats 2000000 in
set_option maxRecDepth 20000 in
theorem node_any (st : Nat) (xs : List ND) (t : Int) (w : World) (h : ArV w 122 st xs) :
    Calls Tryz.prog 31 #[.pointer (some ⟨st, 0, none⟩), .int .i64 t] w fun e w' => ∃ A c, e = .returned (.tuple #[.agg #[.int .i64 (nodeF xs t).o, .int .i64 (nodeF xs t).n, .string (nodeF xs t).s, .slice A (nodeF xs t).l.length c], .int .i64 (nodeE xs t)]) ∧ w'.ownsRow w.heap.size 3 1 (.slice A (nodeF xs t).l.length c) (nodeF xs t).l.length ((nodeF xs t).l.map (.int .i64)) ∧ Below w.heap.size w w' := by
  have H := hid h
  have B0 := hid (show Below w.heap.size w (w.alloc (.cells #[.int .i64 0, .int .i64 0, .string ⟨#[]⟩, .slice none 0 0] 64)) from (Below.refl _ _).alloc (Nat.le_refl _) _)
  clear h
  rcases hh : hasB xs t with _ | _
  · have HF := hid (show nodeF xs t = Go.KK.nd0 by unfold nodeF; rw [hh]; rfl)
    have HE := hid (show nodeE xs t = 4 by unfold nodeE; rw [hh]; rfl)
    go_enter Tryz.func31, Tryz.ntmps31
    go_wp2_with fail
    refine (has_any st xs t _ (H.out.ext B0.out)).mono ?_
    rintro e1 w1 ⟨rfl, hw⟩
    subst hw
    rw [hh]
    go_wp2_with fail
    refine bodyPost_ret (v := .tuple #[.agg #[.int .i64 0, .int .i64 0, .string ⟨#[]⟩, .slice none 0 0], .int .i64 4]) ?_ rfl ⟨none, 0, ?_, ?_, B0.out⟩
    · rw [results_cell_tmp rfl]
      go_simp
    · rw [HF.out, HE.out]; rfl
    · rw [HF.out]; exact World.ownsRow_nil _ _ _ _
  · have HF := hid (show nodeE xs t = 0 by unfold nodeE; rw [hh]; rfl)
    have X0 := hid (show (w.alloc (.cells #[.int .i64 0, .int .i64 0, .string ⟨#[]⟩, .slice none 0 0] 64)).ownsRow w.heap.size 64 4 (.slice (some ⟨w.heap.size, 0, none⟩) 1 1) 1 [.int .i64 0, .int .i64 0, .string ⟨#[]⟩, .slice none 0 0] from
      ⟨by simp, .inr ⟨w.heap.size, 1, _, rfl, Nat.le_refl _, heap_alloc_new w _, Nat.le_refl _, by decide, rfl, by simp⟩⟩)
    go_enter Tryz.func31, Tryz.ntmps31
    go_wp2_with fail
    refine (has_any st xs t _ (H.out.ext B0.out)).mono ?_
    rintro e1 w1 ⟨rfl, hw⟩
    subst hw
    rw [hh]
    generalize w.alloc (.cells #[.int .i64 0, .int .i64 0, .string ⟨#[]⟩, .slice none 0 0] 64) = W0 at *
    have hhb := hh
    unfold hasB at hhb
    simp only [Bool.and_eq_true, decide_eq_true_eq] at hhb
    obtain ⟨hz0, hz1⟩ := hhb
    obtain ⟨j, rfl⟩ := Int.eq_ofNat_of_zero_le hz0
    have hlt0 : w.heap.size < W0.heap.size := (X0.out.lt w.heap.size rfl).2
    obtain ⟨A', c', m', q0, qm, hnd⟩ := (H.out.ext B0.out).parts
    have hjn : j < xs.length := by omega
    obtain ⟨bn, on, y, Ay, cy, rfl, hy, y0, y1, y2, y3, hsy⟩ := hnd.at hjn
    have HY := hid (show nodeF xs (j : Int) = y by
      unfold nodeF
      rw [hh, if_pos rfl, Int.toNat_natCast, List.getD, hy]; rfl)
    have HSY := hid hsy
    have hyl : y.l.length ≤ 64 := by
      have := (H.out.ok.may j y hy)
      unfold mayB shB at this
      simp only [Bool.and_eq_true, decide_eq_true_eq] at this
      exact this.1.1.1.1.1.1.2
    clear hh hy hsy hnd hz0 hz1
    go_wp2_with fail
    refine (clone_own Ay _ cy y.l _ (HSY.out.alloc _) (by omega)).mono ?_
    rintro e3 w3 ⟨q0', rfl, oq, b3⟩
    obtain ⟨Aq, cq, rfl, -⟩ := SlA.owned oq
    have X1 := hid (own_ext (own_ext X0.out ((Below.refl _ _).alloc (Nat.le_refl _) (.cells #[.int .i64 y.o, .int .i64 y.n, .string y.s, .slice Ay y.l.length cy] 64))) b3)
    have X2 := hid (own_ext (show (W0.alloc (.cells #[.int .i64 y.o, .int .i64 y.n, .string y.s, .slice Ay y.l.length cy] 64)).ownsRow W0.heap.size 64 4 (.slice (some ⟨W0.heap.size, 0, none⟩) 1 1) 1 [.int .i64 y.o, .int .i64 y.n, .string y.s, .slice Ay y.l.length cy] from
      ⟨by simp, .inr ⟨W0.heap.size, 1, _, rfl, Nat.le_refl _, heap_alloc_new W0 _, Nat.le_refl _, by decide, rfl, by simp⟩⟩) b3)
    have B3 := hid ((B0.out.alloc B0.out.size (.cells #[.int .i64 y.o, .int .i64 y.n, .string y.s, .slice Ay y.l.length cy] 64)).trans (b3.mono (by have := B0.out.size; simp; omega)))
    have OQ := hid oq
    have hsz1 : (W0.alloc (.cells #[.int .i64 y.o, .int .i64 y.n, .string y.s, .slice Ay y.l.length cy] 64)).heap.size = W0.heap.size + 1 := by simp
    obtain ⟨⟨k0, k1, k2, k3⟩, f0, f1, f2, f3⟩ := box4 X1.out
    obtain ⟨⟨l0, l1, l2, l3⟩, g0, g1, g2, g3⟩ := box4 X2.out
    have hne1 : ¬ W0.heap.size = w.heap.size := by omega
    have hne2 : ¬ w.heap.size = W0.heap.size := by omega
    rw [hsz1] at oq
    have HQ := hid oq
    clear oq b3 y0 y1 y2 y3 q0 qm
    go_wp2
    refine bodyPost_ret (v := .tuple #[.agg #[.int .i64 y.o, .int .i64 y.n, .string y.s, .slice Aq y.l.length cq], .int .i64 0]) ?_ rfl ⟨Aq, cq, ?_, ?_, ?_⟩
    · rw [results_cell_tmp rfl]
      go_simp
    · rw [HY.out, HF.out]
    · rw [HY.out]
      refine Go.KK.own_mono (own_block HQ.out fun b hb => ?_) (by omega)
      have hb1 := (HQ.out.lt b hb).1
      rw [Below.heap_setCell _ _ _ b (by show b ≠ w.heap.size; omega), Below.heap_setCell _ _ _ b (by show b ≠ w.heap.size; omega), Below.heap_setCell _ _ _ b (by show b ≠ w.heap.size; omega), Below.heap_setCell _ _ _ b (by show b ≠ w.heap.size; omega), Below.heap_setCell _ _ _ b (by show b ≠ W0.heap.size; omega)]
    · exact ((((B3.out.setCell (p := ⟨W0.heap.size, 3, none⟩) (by show w.heap.size ≤ W0.heap.size; omega) _).setCell (p := ⟨w.heap.size, 0, none⟩) (Nat.le_refl _) _).setCell (p := ⟨w.heap.size, 1, none⟩) (Nat.le_refl _) _).setCell (p := ⟨w.heap.size, 2, none⟩) (Nat.le_refl _) _).setCell (p := ⟨w.heap.size, 3, none⟩) (Nat.le_refl _) _
end Go.Proofs.YtfmkniakfgpgjaaGreatDoor

/- term: the arena's Make, Len, Node told in words. -/
namespace Go.Proofs.YtfmkniakfgpgjaaGreatDoor
open Go.RowKit Go.KK Go.Shelf Go.Maps
set_option linter.unusedVariables false
set_option linter.unusedSimpArgs false

/-- A call that makes the node x. -/
def MkS (w : World) (Z : Nat → Prop) (st : Nat) (xs : List ND) (x : ND) (e : Ending) (w' : World) : Prop := e = .returned (.tuple #[.int .i64 (makI xs x), .int .i64 (makE xs x)]) ∧ ArS w Z st (makT xs x) w'
theorem sla_row {w : World} {T : TypeId} (vs : Array Value) (hm : vs.size ≤ maxLen) : SlA (w.alloc (.cells vs T)) 1 (some ⟨w.heap.size, 0, none⟩) vs.size vs.size vs.toList :=
  ⟨Nat.le_refl _, hm, by simp, fun j u hj => ⟨w.heap.size, 0, rfl, by rw [World.cell?_alloc_at _ _ _ _ rfl, Nat.zero_add]; simpa using hj⟩⟩
theorem i64_lit {n : Int} (h0 : 0 ≤ n) (h1 : n ≤ 200000) : I64 n := ⟨by omega, by omega⟩
theorem ndI_nd {o : Int} {l : List Int} (ho : I64 o) (hl : ∀ i ∈ l, I64 i) : NdI (ndN o l) := ⟨ho, by unfold I64 ndN; simp, hl⟩
theorem ndI_at {n : Int} (h : I64 n) : NdI (atN n) := ⟨by unfold I64 atN; simp, h, fun i hi => by simp [atN] at hi⟩
theorem AR.turn {F : Nat → Prop} {w w' : World} {Z : Nat → Prop} {st : Nat} {xs : List ND} (h : AR w Z st xs) (ht : Turn F w w') (hd : ∀ b, Z b → ¬ F b) : AR w' Z st xs := by
  obtain ⟨mp, v, qs, h1⟩ := h
  exact ⟨mp, v, qs, h1.turn ht hd⟩
section
variable (Z : Nat → Prop) (st : Nat) (xs : List ND) (B : Nat) (w : World)
theorem mke_any (x : ND) (A : Option Addr) (c : Nat) (h : AR w Z st xs) (hl : SlA w 1 A x.l.length c (x.l.map (.int .i64))) (hT : Tb B w) (hB : B ≤ w.heap.size) (hx : NdI x) :
    Calls Tryz.prog 34 #[.pointer (some ⟨st, 0, none⟩), .agg #[.int .i64 x.o, .int .i64 x.n, .string x.s, .slice A x.l.length c]] w (MkS w Z st xs x) := by
  obtain ⟨mp, v, qs, h⟩ := h
  exact (make_any Z st mp v xs qs x A c B w h hl hT hB hx).mono fun e w' ⟨h1, h2⟩ => ⟨h1, .of h2⟩
end
end Go.Proofs.YtfmkniakfgpgjaaGreatDoor

/- term: a strings.Builder at the head of a writer: copyCheck, Len, WriteString, WriteByte, String. -/
namespace Go.Proofs.YtfmkniakfgpgjaaGreatDoor
open Go.RowKit Go.KK Go.Shelf Go.Maps
set_option linter.unusedVariables false
set_option linter.unusedSimpArgs false

/-- All blocks but b and rows of bytes are as they were. -/
def Oth (b : Nat) (w w' : World) : Prop := ∀ k cs T fz, w.heap[k]? = some (.cells cs T fz) → T ≠ 5 → k ≠ b → w'.heap[k]? = w.heap[k]?
theorem Oth.refl (b : Nat) (w : World) : Oth b w w := fun _ _ _ _ _ _ _ => rfl
theorem Oth.trans {b : Nat} {w w' w'' : World} (h : Oth b w w') (k : Oth b w' w'') : Oth b w w'' := fun i cs T fz e hT hb => (k i cs T fz ((h i cs T fz e hT hb).trans e) hT hb).trans (h i cs T fz e hT hb)
theorem Oth.below {b : Nat} {w w' : World} (h : Below w.heap.size w w') : Oth b w w' := fun i cs T fz e _ _ => h.block i (by
  rcases Nat.lt_or_ge i w.heap.size with h' | h'
  · exact h'
  · simp [Array.getElem?_eq_none h'] at e)
theorem Oth.set (b o : Nat) (w : World) (v : Value) : Oth b w (w.setCell ⟨b, o, none⟩ v) := fun i _ _ _ _ _ hb => Below.heap_setCell w ⟨b, o, none⟩ v i hb
theorem Oth.grown {b base n : Nat} {v : Value} {bs : List Value} {w w' : World} (h : w.ownsRow base 5 1 v n bs) (hg : w.grownBy w' v.ownBlock) : Oth b w w' := fun i cs T fz e hT _ => hg.block i (by
  rcases Nat.lt_or_ge i w.heap.size with h' | h'
  · exact h'
  · simp [Array.getElem?_eq_none h'] at e) (fun e2 => by
    rcases h.2 with ⟨rfl, _⟩ | ⟨g, cap, cur, rfl, _, hg', _⟩
    · cases e2
    · injection e2 with e2
      simp only at e2
      subst e2
      rw [hg'] at e
      injection e with e
      injection e with _ e _
      exact hT e.symm)
theorem Oth.cell {b : Nat} {w w' : World} {k o : Nat} {cs : Array Value} {T : TypeId} {fz : Nat × Nat} {v : Value} (h : Oth b w w') (e : w.heap[k]? = some (.cells cs T fz)) (hT : T ≠ 5) (hb : k ≠ b) (hc : w.cell? ⟨k, o, none⟩ = some v) : w'.cell? ⟨k, o, none⟩ = some v :=
  (World.cell?_of_block (a := ⟨k, o, none⟩) (h k cs T fz e hT hb)).trans hc
section
variable {B b : Nat} {p a : Value} {bs : List Value} {w w' : World}
end
section
variable (B b : Nat) (a : Value) (bs : List Value) (w : World)
end
end Go.Proofs.YtfmkniakfgpgjaaGreatDoor

/- term: a writer writes a term (of its texts what a Replacer makes of them). -/
namespace Go.Proofs.YtfmkniakfgpgjaaGreatDoor
open Go.RowKit Go.KK Go.Shelf Go.Maps
set_option linter.unusedVariables false
set_option linter.unusedSimpArgs false

theorem itoa_any (n : Int) (hn : I64 n) (w : World) (hT : Tb w.heap.size w) : Calls Tryz.prog 82 #[.int .i64 n] w fun e w' => ∃ S : ByteArray, e = .returned (.string S) ∧ S = ⟨(Lib.itoa n).toArray⟩ ∧ Below w.heap.size w w' := by
  refine (Tryz.strconv_Itoa n hn.1 hn.2 w hT.here).mono ?_
  rintro e w' ⟨rfl, k, os, rfl⟩
  exact ⟨_, rfl, rfl, Lib.below_grow _ _ (Nat.le_refl _) _ _⟩
section
variable (W0 : World) (sa b : Nat) (xs : List ND)
end
end Go.Proofs.YtfmkniakfgpgjaaGreatDoor

/- Rows of cells in words (of no program). -/
namespace Go.KK
open Go.RowKit
set_option linter.unusedVariables false
set_option linter.unusedSimpArgs false

section
variable {w : World} {base : Nat} {e : TypeId} {g n cap : Nat} {xs : List Value}
end
theorem grown_undrew {a w : World} {r : Option Nat} (h : a.drew.grownBy w r) : a.grownBy w r := ⟨h.os, h.tape, h.output, h.size, h.block⟩
/-- A number put in at its place. -/
def insL (u : List Int) (i : Nat) (x : Int) : List Int := u.take i ++ x :: u.drop i
theorem insL_len (u : List Int) (i : Nat) (x : Int) (h : i ≤ u.length) : (insL u i x).length = u.length + 1 := by
  unfold insL; simp; omega
end Go.KK

/- term: what is carried from call to call: an arena, a row of numbers. -/
namespace Go.Proofs.YtfmkniakfgpgjaaGreatDoor
open Go.RowKit Go.KK Go.Shelf Go.Maps
set_option linter.unusedVariables false
set_option linter.unusedSimpArgs false

/-- The law's arena, and what the call has left alone. -/
structure LA (w0 W : World) (Z : Nat → Prop) (sa : Nat) (xs : List ND) : Prop where
  ar : AR W Z sa xs
  z : ∀ b, Z b → w0.heap.size ≤ b
  bl : Below w0.heap.size w0 W
/-- From one world to the next. -/
structure Mv (Z : Nat → Prop) (W : World) (Z' : Nat → Prop) (W' : World) : Prop where
  t : Turn Z W W'
  n : ∀ b, Z' b → Z b ∨ W.heap.size ≤ b
theorem Mv.below {Z : Nat → Prop} {W W' : World} (hb : Below W.heap.size W W') : Mv Z W Z W' := ⟨.of_below hb, fun _ h => .inl h⟩
section
variable {w0 W W' : World} {Z Z' : Nat → Prop} {sa : Nat} {xs xs' : List ND}
theorem LA.mv (h : LA w0 W Z sa xs) (m : Mv Z W Z' W') (ha : AR W' Z' sa xs') : LA w0 W' Z' sa xs' :=
  ⟨ha, fun b hb => (m.n b hb).elim (h.z b) fun h' => Nat.le_trans h.bl.size h', h.bl.trans (m.t.below h.z h.bl.size)⟩
theorem LA.ext (h : LA w0 W Z sa xs) (hb : Below W.heap.size W W') : LA w0 W' Z sa xs := h.mv (.below hb) (h.ar.ext hb)
theorem LA.alloc (h : LA w0 W Z sa xs) (o : Obj) : LA w0 (W.alloc o) Z sa xs := h.ext ((Below.refl _ _).alloc (Nat.le_refl _) o)
theorem LA.sz (h : LA w0 W Z sa xs) : w0.heap.size ≤ W.heap.size := h.bl.size
theorem l_mke (h : LA w0 W Z sa xs) (hT : Tb w0.heap.size w0) {x : ND} {A : Option Addr} {c : Nat} (hl : SlA W 1 A x.l.length c (x.l.map (.int .i64))) (hx : NdI x) :
    Calls Tryz.prog 34 #[.pointer (some ⟨sa, 0, none⟩), .agg #[.int .i64 x.o, .int .i64 x.n, .string x.s, .slice A x.l.length c]] W fun e w' => ∃ Z', e = .returned (.tuple #[.int .i64 (makI xs x), .int .i64 (makE xs x)]) ∧ LA w0 w' Z' sa (makT xs x) ∧ Mv Z W Z' w' := by
  refine (mke_any Z sa xs w0.heap.size W x A c h.ar hl (hT.on h.bl) h.bl.size hx).mono ?_
  rintro e w' ⟨rfl, Z', h1, h2, h3⟩
  exact ⟨Z', rfl, h.mv ⟨h2, h3⟩ h1, ⟨h2, h3⟩⟩
end
/-- A row of numbers of the call's own. -/
abbrev RowI (W : World) (b0 : Nat) (v : Value) (l : List Int) : Prop := W.ownsRow b0 3 1 v l.length (l.map (.int .i64))
/-- The arena and a row. -/
structure T1 (w W : World) (sa : Nat) (Z : Nat → Prop) (X : List ND) (nv : Value) (ns : List Int) : Prop where
  la : LA w W Z sa X
  nr : RowI W w.heap.size nv ns
  na : ∀ b, nv.ownBlock = some b → ¬ Z b
section
variable {w W W' : World} {sa : Nat} {Z Z' : Nat → Prop} {X X' : List ND} {nv : Value} {ns : List Int}
theorem T1.ext (h : T1 w W sa Z X nv ns) (hb : Below W.heap.size W W') : T1 w W' sa Z X nv ns := ⟨h.la.ext hb, own_ext h.nr hb, h.na⟩
theorem T1.mv (h : T1 w W sa Z X nv ns) (hl : LA w W' Z' sa X') (hv : Mv Z W Z' W') : T1 w W' sa Z' X' nv ns where
  la := hl
  nr := own_block h.nr fun b hb => hv.t.block b (h.nr.lt b hb).2 (h.na b hb)
  na := fun b hb hz => (hv.n b hz).elim (h.na b hb) fun h' => by have := (h.nr.lt b hb).2; omega
theorem T1.app (h : T1 w W sa Z X nv ns) {nv' : Value} {ns' : List Int} (hn : RowI W' w.heap.size nv' ns') (hg : W.grownBy W' nv.ownBlock) (hl : nv'.ownBlock = nv.ownBlock ∨ nv'.ownBlock = some W.heap.size) : T1 w W' sa Z X nv' ns' := by
  have ht : Turn (fun b => nv.ownBlock = some b) W W' := Turn.grown hg fun b hb => .inl hb
  refine ⟨⟨h.la.ar.turn ht (fun b hz e => h.na b e hz), h.la.z, h.la.bl.trans (ht.below (fun b e => (h.nr.lt b e).1) h.la.sz)⟩, hn, fun b hb => ?_⟩
  rcases hl with hl | hl
  · exact h.na b (hl ▸ hb)
  · rw [hl] at hb
    injection hb with hb
    subst hb
    intro hz
    have := h.la.ar.zlt _ hz
    omega
end
/-- A number more at a row's end. -/
theorem rowI_snoc {W : World} {b0 : Nat} {v : Value} {l : List Int} {x : Int} (h : W.ownsRow b0 3 1 v (l.length + 1) (l.map (.int .i64) ++ [.int .i64 x])) : RowI W b0 v (l ++ [x]) := by
  unfold RowI
  rw [List.length_append, List.map_append]
  exact h
theorem rowI_at {W : World} {b0 b o n c : Nat} {l : List Int} {i : Nat} {x : Int} (h : W.ownsRow b0 3 1 (.slice (some ⟨b, o, none⟩) n c) l.length (l.map (.int .i64))) (hx : l[i]? = some x) : W.cell? ⟨b, o + i, none⟩ = some (.int .i64 x) := by
  obtain ⟨b', off, e, hc⟩ := (SlA.of_own h).2.cells i (.int .i64 x) (by rw [List.getElem?_map, hx]; rfl)
  injection e with e
  injection e with e1 e2
  subst e1; subst e2
  exact hc
end Go.Proofs.YtfmkniakfgpgjaaGreatDoor

/- term: Show (without a law's live). -/
namespace Go.Proofs.YtfmkniakfgpgjaaGreatDoor
open Go.RowKit Go.KK Go.Shelf Go.Maps
set_option linter.unusedVariables false
set_option linter.unusedSimpArgs false

section
variable {w0 W : World} {Z : Nat → Prop} {sa : Nat} {xs : List ND}
end
end Go.Proofs.YtfmkniakfgpgjaaGreatDoor

/- crypto over the law's arena: of, known, Extract, Expand, Derive, Public; Text, List. -/
namespace Go.Proofs.YtfmkniakfgpgjaaGreatDoor
open Go.RowKit Go.KK Go.Shelf Go.Maps
set_option linter.unusedVariables false
set_option linter.unusedSimpArgs false

theorem idx_i64 {xs : List ND} (ok : Okay xs) (x : ND) : I64 (makI xs x) := by
  have := makI_b ok.len x
  exact ⟨by omega, by omega⟩
theorem ndI_tx (s : ByteArray) : NdI (txN s) := ⟨by unfold I64 txN; simp, by unfold I64 txN; simp, fun i hi => by simp [txN] at hi⟩
theorem Mv.trans {Z Z1 Z2 : Nat → Prop} {W W1 W2 : World} (a : Mv Z W Z1 W1) (b : Mv Z1 W1 Z2 W2) : Mv Z W Z2 W2 :=
  ⟨a.t.trans b.t a.n, fun k hk => (b.n k hk).elim (a.n k) fun h => .inr (Nat.le_trans a.t.size h)⟩
theorem Mv.alloc (Z : Nat → Prop) (W : World) (o : Obj) : Mv Z W Z (W.alloc o) := .below ((Below.refl _ _).alloc (Nat.le_refl _) o)
section
variable {w0 W W' : World} {Z Z' : Nat → Prop} {sa : Nat} {xs xs' : List ND}
/-- A call that takes a step. -/
def LrS (w0 W : World) (Z : Nat → Prop) (sa : Nat) (r : Rs) (e : Ending) (w' : World) : Prop := ∃ Z', e = .returned (.tuple #[.int .i64 r.2.1, .int .i64 r.2.2]) ∧ LA w0 w' Z' sa r.1 ∧ Mv Z W Z' w'
theorem l_of (h : LA w0 W Z sa xs) (hT : Tb w0.heap.size w0) {o : Int} {A : Option Addr} {n c : Nat} {l : List Int} (hl : SlA W 1 A n c (l.map (.int .i64))) (ho : I64 o) (hi : ∀ i ∈ l, I64 i) :
    Calls Tryz.prog 87 #[.pointer (some ⟨sa, 0, none⟩), .int .i64 o, .slice A n c] W (LrS w0 W Z sa (mk xs (ndN o l))) := by
  have e := hl.lenI
  subst e
  have HM := hid (l_mke h hT (x := ndN o l) hl (ndI_nd ho hi))
  clear h hl hT
  go_enter Tryz.func87, Tryz.ntmps87
  go_wp2_with fail
  refine HM.out.mono ?_
  rintro e w' ⟨Z', rfl, h1, h2⟩
  have H1 := hid h1; have H2 := hid h2
  clear h1 h2
  go_wp2_with fail
  go_ret2
  exact ⟨Z', rfl, H1.out, H2.out⟩
theorem l_list (h : LA w0 W Z sa xs) (hT : Tb w0.heap.size w0) {A : Option Addr} {n c : Nat} {l : List Int} (hl : SlA W 1 A n c (l.map (.int .i64))) (hi : ∀ i ∈ l, I64 i) :
    Calls Tryz.prog 129 #[.pointer (some ⟨sa, 0, none⟩), .slice A n c] W (LrS w0 W Z sa (mk xs (ndN 3 l))) := by
  have e := hl.lenI
  subst e
  have HM := hid (l_mke h hT (x := ndN 3 l) hl (ndI_nd (i64_lit (by decide) (by decide)) hi))
  clear h hl hT
  go_enter Tryz.func129, Tryz.ntmps129
  go_wp2_with fail
  refine HM.out.mono ?_
  rintro e w' ⟨Z', rfl, h1, h2⟩
  have H1 := hid h1; have H2 := hid h2
  clear h1 h2
  go_wp2_with fail
  go_ret2
  exact ⟨Z', rfl, H1.out, H2.out⟩
theorem l_text (h : LA w0 W Z sa xs) (hT : Tb w0.heap.size w0) (s : ByteArray) :
    Calls Tryz.prog 107 #[.pointer (some ⟨sa, 0, none⟩), .string s] W (LrS w0 W Z sa (mk xs (txN s))) := by
  have HM := hid (l_mke h hT (x := txN s) (SlA.nil _ _) (ndI_tx s))
  clear h hT
  go_enter Tryz.func107, Tryz.ntmps107
  go_wp2_with fail
  refine HM.out.mono ?_
  rintro e w' ⟨Z', rfl, h1, h2⟩
  have H1 := hid h1; have H2 := hid h2
  clear h1 h2
  go_wp2_with fail
  go_ret2
  exact ⟨Z', rfl, H1.out, H2.out⟩
theorem kno_any (st : Nat) (w : World) (A : Option Addr) (n c : Nat) (l : List Int) (h : ArV w 122 st xs) (hl : SlA w 1 A n c (l.map (.int .i64))) (hn : n ≤ 2147483648) :
    Calls Tryz.prog 94 #[.pointer (some ⟨st, 0, none⟩), .slice A n c] w fun e w' => e = .returned (.bool (kno xs l)) ∧ w' = w := by
  have H := hid h; have HS := hid hl; have HL := hid hl.lenI
  clear h hl
  unfold kno
  go_enter Tryz.func94, Tryz.ntmps94
  go_wp2
  go_loopw [9] (fun i wr => ∃ j : Nat, i = .int .i64 j ∧ j ≤ n ∧ Hid (l.all (hasB xs) = (l.drop j).all (hasB xs)) ∧ wr = w) (fun i _ => n - (intOf i).toNat)
  case atStart => exact ⟨0, rfl, by omega, hid rfl, rfl⟩
  case round =>
    obtain ⟨j, hi, hj, HJ, hw⟩ := hrel
    subst hi; subst hw
    by_cases hlt : j < n
    · obtain ⟨b1, o, z, rfl, hz, hc⟩ := HS.out.elemI hlt
      have HD := hid (drop_get hz); clear hz
      by_cases hz0 : z < 0
      · have HF := hid (show l.all (hasB xs) = false by
          rw [HJ.out, HD.out, List.all_cons, show hasB xs z = false by unfold hasB; rw [decide_eq_false (by omega : ¬ 0 ≤ z)]; rfl]; rfl)
        go_wp2
        go_ret
        exact ⟨by rw [HF.out]; rfl, rfl⟩
      · by_cases hz1 : (xs.length : Int) ≤ z
        · have HF := hid (show l.all (hasB xs) = false by
            rw [HJ.out, HD.out, List.all_cons, show hasB xs z = false by unfold hasB; rw [decide_eq_false (by omega : ¬ z < (xs.length : Int))]; simp]; rfl)
          go_wp2_with (go_at_call 41; refine (len_any st xs _ H.out).mono ?_; rintro e w' ⟨rfl, hw'⟩; subst hw')
          go_ret
          exact ⟨by rw [HF.out]; rfl, rfl⟩
        · have HF := hid (show l.all (hasB xs) = (l.drop (j + 1)).all (hasB xs) by
            rw [HJ.out, HD.out, List.all_cons, show hasB xs z = true by unfold hasB; rw [decide_eq_true (by omega : z < (xs.length : Int)), decide_eq_true (by omega : 0 ≤ z)]; rfl]; rfl)
          go_wp2_with (go_at_call 41; refine (len_any st xs _ H.out).mono ?_; rintro e w' ⟨rfl, hw'⟩; subst hw')
          go_roundw
          case rel => exact ⟨j + 1, by go_num, by omega, HF, by first | rfl | trivial⟩
          case measure => simp [intOf]; omega
    · have HF := hid (show l.all (hasB xs) = true by rw [HJ.out, List.drop_of_length_le (by have := HL.out; omega)]; rfl)
      go_wp2
      go_ret
      exact ⟨by rw [HF.out]; rfl, rfl⟩
theorem l_ex (h : LA w0 W Z sa xs) (hT : Tb w0.heap.size w0) {s t : Int} (hs : I64 s) (ht : I64 t) :
    Calls Tryz.prog 106 #[.pointer (some ⟨sa, 0, none⟩), .int .i64 s, .int .i64 t] W (LrS w0 W Z sa (exF xs s t)) := by
  have HM := hid (l_of (h.alloc (.cells #[.int .i64 s, .int .i64 t] 3)) hT (o := 5) (l := [s, t]) (sla_row #[.int .i64 s, .int .i64 t] (by unfold maxLen; simp)) (i64_lit (by decide) (by decide)) (fun i hi => by
    simp only [List.mem_cons, List.mem_nil_iff, or_false] at hi
    rcases hi with rfl | rfl
    · exact hs
    · exact ht))
  clear h hT
  unfold exF
  generalize mk xs (ndN 5 [s, t]) = r at *
  go_enter Tryz.func106, Tryz.ntmps106
  go_wp2_with fail
  refine HM.out.mono ?_
  rintro e w' ⟨Z', rfl, h1, h2⟩
  have H1 := hid h1; have H2 := hid ((Mv.alloc Z W (.cells #[.int .i64 s, .int .i64 t] 3)).trans h2)
  clear h1 h2 HM
  go_wp2_with fail
  go_ret2
  exact ⟨Z', rfl, H1.out, H2.out⟩
theorem l_pb (h : LA w0 W Z sa xs) (hT : Tb w0.heap.size w0) {s : Int} (hs : I64 s) :
    Calls Tryz.prog 115 #[.pointer (some ⟨sa, 0, none⟩), .int .i64 s] W (LrS w0 W Z sa (pbF xs s)) := by
  have HM := hid (l_of (h.alloc (.cells #[.int .i64 s] 3)) hT (o := 7) (l := [s]) (sla_row #[.int .i64 s] (by unfold maxLen; simp)) (i64_lit (by decide) (by decide)) (fun i hi => by
    rw [List.mem_singleton] at hi
    subst hi
    exact hs))
  clear h hT
  unfold pbF
  generalize mk xs (ndN 7 [s]) = r at *
  go_enter Tryz.func115, Tryz.ntmps115
  go_wp2_with fail
  refine HM.out.mono ?_
  rintro e w' ⟨Z', rfl, h1, h2⟩
  have H1 := hid h1; have H2 := hid ((Mv.alloc Z W (.cells #[.int .i64 s] 3)).trans h2)
  clear h1 h2 HM
  go_wp2_with fail
  go_ret2
  exact ⟨Z', rfl, H1.out, H2.out⟩
set_option maxHeartbeats 2000000 in
set_option maxRecDepth 100000 in
theorem l_exd (h : LA w0 W Z sa xs) (hT : Tb w0.heap.size w0) {s c : Int} (hs : I64 s) (hc : I64 c) (lab : ByteArray) :
    Calls Tryz.prog 85 #[.pointer (some ⟨sa, 0, none⟩), .int .i64 s, .string lab, .int .i64 c] W (LrS w0 W Z sa (exdF xs s lab c)) := by
  have HT := hid hT
  have HA := hid (h.alloc (.cells #[.int .i64 s, .int .i64 c] 3))
  have HM := hid (Mv.alloc Z W (.cells #[.int .i64 s, .int .i64 c] 3))
  have HK := hid (kno_any sa (W.alloc (.cells #[.int .i64 s, .int .i64 c] 3)) (some ⟨W.heap.size, 0, none⟩) 2 2 [s, c] HA.out.ar.vw (sla_row #[.int .i64 s, .int .i64 c] (by unfold maxLen; simp)) (by omega))
  have hti := idx_i64 h.ar.ok (txN lab)
  clear h hT
  rcases hk : kno xs [s, c] with _ | _
  · have HF := hid (show exdF xs s lab c = (xs, 0, 1) by unfold exdF; rw [if_neg (by rw [hk]; decide)])
    rw [HF.out]
    rw [hk] at HK
    clear hk hti
    go_enter Tryz.func85, Tryz.ntmps85
    go_wp2_with fail
    refine HK.out.mono ?_
    rintro e w' ⟨rfl, hw⟩
    subst hw
    go_wp2_with fail
    go_ret2
    exact ⟨Z, rfl, HA.out, HM.out⟩
  · rw [hk] at HK
    have HX := hid (l_text HA.out HT.out lab)
    by_cases he : makE xs (txN lab) = 0
    · have HF := hid (show exdF xs s lab c = mk (makT xs (txN lab)) (ndN 6 [s, makI xs (txN lab), c]) by unfold exdF; rw [if_pos hk]; unfold bdF; rw [if_pos (show (mk xs (txN lab)).2.2 = 0 from he)]; rfl)
      rw [HF.out]
      unfold LrS mk at HX
      rw [he] at HX
      clear hk he
      generalize makI xs (txN lab) = ti at *
      generalize makT xs (txN lab) = Y at *
      obtain ⟨r, hr⟩ : ∃ r : Rs, r = mk Y (ndN 6 [s, ti, c]) := ⟨_, rfl⟩
      rw [← hr]
      have HR := hid hr
      clear hr HF
      go_enter Tryz.func85, Tryz.ntmps85
      go_wp2_with fail
      refine HK.out.mono ?_
      rintro e w' ⟨rfl, hw⟩
      subst hw
      go_wp2_with fail
      refine HX.out.mono ?_
      rintro e w2 ⟨Z2, rfl, l2, m2⟩
      have HO := hid (l_of (l2.alloc (.cells #[.int .i64 s, .int .i64 ti, .int .i64 c] 3)) HT.out (o := 6) (l := [s, ti, c]) (sla_row #[.int .i64 s, .int .i64 ti, .int .i64 c] (by unfold maxLen; simp)) (i64_lit (by decide) (by decide)) (fun i hi => by
        simp only [List.mem_cons, List.mem_nil_iff, or_false] at hi
        rcases hi with rfl | rfl | rfl
        · exact hs
        · exact hti
        · exact hc))
      rw [← HR.out] at HO
      have M2 := hid ((HM.out.trans m2).trans (Mv.alloc Z2 w2 (.cells #[.int .i64 s, .int .i64 ti, .int .i64 c] 3)))
      clear l2 m2 HX HK
      go_wp2_with fail
      refine HO.out.mono ?_
      rintro e w3 ⟨Z3, rfl, l3, m3⟩
      have L3 := hid l3; have M3 := hid (M2.out.trans m3)
      clear l3 m3 HO
      go_wp2_with fail
      go_ret2
      exact ⟨Z3, rfl, L3.out, M3.out⟩
    · have HF := hid (show exdF xs s lab c = (makT xs (txN lab), 0, makE xs (txN lab)) by unfold exdF; rw [if_pos hk]; unfold bdF; rw [if_neg (show ¬ (mk xs (txN lab)).2.2 = 0 from he)]; rfl)
      rw [HF.out]
      unfold LrS mk at HX
      have hne : (makE xs (txN lab) != 0) = true := bne_iff_ne.2 he
      clear hk he
      generalize makE xs (txN lab) = te at *
      generalize makI xs (txN lab) = ti at *
      generalize makT xs (txN lab) = Y at *
      go_enter Tryz.func85, Tryz.ntmps85
      go_wp2_with fail
      refine HK.out.mono ?_
      rintro e w' ⟨rfl, hw⟩
      subst hw
      go_wp2_with fail
      refine HX.out.mono ?_
      rintro e w2 ⟨Z2, rfl, l2, m2⟩
      have L2 := hid l2; have M2 := hid (HM.out.trans m2)
      clear l2 m2 HX HK HF
      go_wp2_with fail
      go_ret2
      exact ⟨Z2, rfl, L2.out, M2.out⟩
set_option maxHeartbeats 2000000 in
set_option maxRecDepth 100000 in
theorem l_dv (h : LA w0 W Z sa xs) (hT : Tb w0.heap.size w0) {s : Int} (hs : I64 s) (lab : ByteArray) :
    Calls Tryz.prog 111 #[.pointer (some ⟨sa, 0, none⟩), .int .i64 s, .string lab] W (LrS w0 W Z sa (dvF xs s lab)) := by
  have HT := hid hT
  have HA := hid (h.alloc (.cells #[.int .i64 s] 3))
  have HM := hid (Mv.alloc Z W (.cells #[.int .i64 s] 3))
  have HK := hid (kno_any sa (W.alloc (.cells #[.int .i64 s] 3)) (some ⟨W.heap.size, 0, none⟩) 1 1 [s] HA.out.ar.vw (sla_row #[.int .i64 s] (by unfold maxLen; simp)) (by omega))
  have hti := idx_i64 h.ar.ok (ndN 3 [])
  clear h hT
  rcases hk : kno xs [s] with _ | _
  · have HF := hid (show dvF xs s lab = (xs, 0, 1) by unfold dvF; rw [if_neg (by rw [hk]; decide)])
    rw [HF.out]
    rw [hk] at HK
    clear hk hti
    go_enter Tryz.func111, Tryz.ntmps111
    go_wp2_with fail
    refine HK.out.mono ?_
    rintro e w' ⟨rfl, hw⟩
    subst hw
    go_wp2_with fail
    go_ret2
    exact ⟨Z, rfl, HA.out, HM.out⟩
  · rw [hk] at HK
    have HX := hid (l_list HA.out HT.out (l := []) (SlA.nil _ _) (fun i hi => by simp at hi))
    by_cases he : makE xs (ndN 3 []) = 0
    · have HF := hid (show dvF xs s lab = exdF (makT xs (ndN 3 [])) s lab (makI xs (ndN 3 [])) by unfold dvF; rw [if_pos hk]; unfold bdF; rw [if_pos (show (mk xs (ndN 3 [])).2.2 = 0 from he)]; rfl)
      rw [HF.out]
      unfold LrS mk at HX
      rw [he] at HX
      clear hk he
      generalize makI xs (ndN 3 []) = ti at *
      generalize makT xs (ndN 3 []) = Y at *
      obtain ⟨r, hr⟩ : ∃ r : Rs, r = exdF Y s lab ti := ⟨_, rfl⟩
      rw [← hr]
      have HR := hid hr
      clear hr HF
      go_enter Tryz.func111, Tryz.ntmps111
      go_wp2_with fail
      refine HK.out.mono ?_
      rintro e w' ⟨rfl, hw⟩
      subst hw
      go_wp2_with fail
      refine HX.out.mono ?_
      rintro e w2 ⟨Z2, rfl, l2, m2⟩
      have HO := hid (l_exd l2 HT.out hs hti lab)
      rw [← HR.out] at HO
      have M2 := hid (HM.out.trans m2)
      clear l2 m2 HX HK
      go_wp2_with fail
      refine HO.out.mono ?_
      rintro e w3 ⟨Z3, rfl, l3, m3⟩
      have L3 := hid l3; have M3 := hid (M2.out.trans m3)
      clear l3 m3 HO
      go_wp2_with fail
      go_ret2
      exact ⟨Z3, rfl, L3.out, M3.out⟩
    · have HF := hid (show dvF xs s lab = (makT xs (ndN 3 []), 0, makE xs (ndN 3 [])) by unfold dvF; rw [if_pos hk]; unfold bdF; rw [if_neg (show ¬ (mk xs (ndN 3 [])).2.2 = 0 from he)]; rfl)
      rw [HF.out]
      unfold LrS mk at HX
      have hne : (makE xs (ndN 3 []) != 0) = true := bne_iff_ne.2 he
      clear hk he
      generalize makE xs (ndN 3 []) = te at *
      generalize makI xs (ndN 3 []) = ti at *
      generalize makT xs (ndN 3 []) = Y at *
      go_enter Tryz.func111, Tryz.ntmps111
      go_wp2_with fail
      refine HK.out.mono ?_
      rintro e w' ⟨rfl, hw⟩
      subst hw
      go_wp2_with fail
      refine HX.out.mono ?_
      rintro e w2 ⟨Z2, rfl, l2, m2⟩
      have L2 := hid l2; have M2 := hid (HM.out.trans m2)
      clear l2 m2 HX HK HF
      go_wp2_with fail
      go_ret2
      exact ⟨Z2, rfl, L2.out, M2.out⟩
end
end Go.Proofs.YtfmkniakfgpgjaaGreatDoor

