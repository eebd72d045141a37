import Derived.Test.YtpkijlmkgomfeaaGreatDoorW02
import Derived.Maps.OwnSet
import Derived.Test.YtpkijlmkgomfeaaGreatDoorW01
import Derived.Carry
import Derived.Deep.RegionHeld3
import Derived.Laws.ResultCell
import Derived.Lib.Builder
import Derived.Lib.AppendStr
import Derived.Lib.UnsafeStr
import Derived.Laws.Externs
import Derived.Test.YtpkijlmkgomfeaaGreatDoorRows
import Derived.Test.YtpkijlmkgomfeaaGreatDoorShelf
import Derived.Shelf.Spec.TrailingZeros
import Derived.Shelf.Spec.SlicesInsert
import Derived.Shelf.Spec.SlicesInsertGrow
import Derived.Shelf.SlicesE.Clone
import Derived.Shelf.SlSorted.IsSorted
import Derived.Maps.Range
/- term: a node is made. -/
namespace Go.Proofs.YtpkijlmkgomfeaaGreatDoor
open Go.RowKit Go.KK Go.Shelf Go.Maps Go.ChangeMaps
set_option linter.unusedVariables false
set_option linter.unusedSimpArgs false

theorem sla_getD {w : World} {b o n c : Nat} {l : List Int} (h : SlA w 1 (some ⟨b, o, none⟩) n c (l.map (.int .i64))) : ∀ j, j < l.length → w.cell? ⟨b, o + j, none⟩ = some (.int .i64 (l.getD j 0)) := by
  intro j hj
  obtain ⟨b1, o1, e, hc⟩ := h.cells j (.int .i64 (l[j]'hj)) (by rw [List.getElem?_map, List.getElem?_eq_getElem hj]; rfl)
  injection e with e
  injection e with e1 e2
  subst e1; subst e2
  rw [hc, List.getD, List.getElem?_eq_getElem hj]
  rfl
theorem clone_own (A : Option Addr) (n c : Nat) (l : List Int) (w : World) (h : SlA w 1 A n c (l.map (.int .i64))) (hn47 : n ≤ 2147483648) :
    Calls Tryz.prog 99 #[.slice A n c] w fun e w' => ∃ v, e = .returned v ∧ w'.ownsRow w.heap.size 3 1 v n (l.map (.int .i64)) ∧ Below w.heap.size w w' := by
  have hn := h.lenI
  rcases A with _ | a
  · have hl : l = [] := by
      rcases l with _ | ⟨x, l⟩
      · rfl
      · obtain ⟨b, o, e, _⟩ := h.cells 0 _ rfl; cases e
    subst hl
    simp at hn
    subst hn
    exact (Tryz.slices_Clone_int_nil 0 c w).mono fun e w' ⟨h1, h2⟩ => ⟨_, h1, World.ownsRow_nil _ _ _ _, by rw [h2]; exact Below.refl _ _⟩
  · rcases l with _ | ⟨x, l⟩
    · simp at hn
      subst hn
      exact (Tryz.slices_Clone_int_zero a c w).mono fun e w' ⟨v, h1, h2, _, h3⟩ => ⟨v, h1, h2, h3⟩
    · obtain ⟨b, o, e, _⟩ := h.cells 0 _ rfl
      injection e with e
      subst e
      have := Tryz.slices_Clone_int b o n c (x :: l) w (by omega) (by omega) (sla_getD h)
      rw [List.take_of_length_le (by omega)] at this
      exact this.mono fun e w' ⟨v, h1, h2, _, h3⟩ => ⟨v, h1, h2, h3⟩
theorem lawS : Keyed Tryz.prog 9 := string_keyed Tryz.underlying9
theorem zeroI (w : World) : (zeroValue 3).run Tryz.prog w = .ok (.int .i64 0) w := by kernel_rfl
theorem infoN : (Tryz.prog.info? 86).map (fun i => (i.zero, i.size, i.bytes)) = some (some (.agg #[.int .i64 0, .int .i64 0, .string ⟨#[]⟩, .slice none 0 0]), 4, 56) := by kernel_rfl
theorem forget {P : Program} {c : Code} {Q : Exit → Act → World → Prop} {a : Act} {W0 : World} {R : World → Prop} (h : ∀ W, R W → Code.wp P c Q a W) (r : R W0) : Code.wp P c Q a W0 := h W0 r
theorem box4 {W : World} {base g : Nat} {e : TypeId} {v0 v1 v2 v3 : Value} (h : W.ownsRow base e 4 (.slice (some ⟨g, 0, none⟩) 1 1) 1 [v0, v1, v2, v3]) :
    (W.cell? ⟨g, 0, none⟩ = some v0 ∧ W.cell? ⟨g, 1, none⟩ = some v1 ∧ W.cell? ⟨g, 2, none⟩ = some v2 ∧ W.cell? ⟨g, 3, none⟩ = some v3) ∧ W.frozen? ⟨g, 0, none⟩ = false ∧ W.frozen? ⟨g, 1, none⟩ = false ∧ W.frozen? ⟨g, 2, none⟩ = false ∧ W.frozen? ⟨g, 3, none⟩ = false :=
  ⟨⟨h.cellAt 0 (by decide), h.cellAt 1 (by decide), h.cellAt 2 (by decide), h.cellAt 3 (by decide)⟩, h.frozenAt 0, h.frozenAt 1, h.frozenAt 2, h.frozenAt 3⟩
theorem ar_box {NT K E T : TypeId} {kf : ND → List UInt8} {w : World} {Z : Nat → Prop} {st mp : Nat} {v : Value} {xs : List ND} {qs : List Value} (h : Ar Tryz.prog NT K E T kf w Z st mp v xs qs) : w.ownsRow 0 T 2 (.slice (some ⟨st, 0, none⟩) 1 1) 1 [v, .map (some mp)] :=
  ⟨by simp, .inr ⟨st, 1, _, rfl, Nat.zero_le _, h.box, Nat.le_refl _, by decide, rfl, by simp⟩⟩
theorem box2 {w : World} {st : Nat} {a b : Value} {T : TypeId} (h : w.heap[st]? = some (.cells #[a, b] T (0, 0))) : w.cell? ⟨st, 0, none⟩ = some a ∧ w.cell? ⟨st, 1, none⟩ = some b ∧ w.frozen? ⟨st, 0, none⟩ = false := by
  have hr : w.ownsRow 0 T 2 (.slice (some ⟨st, 0, none⟩) 1 1) 1 [a, b] := ⟨by simp, .inr ⟨st, 1, _, rfl, Nat.zero_le _, h, Nat.le_refl _, by decide, rfl, by simp⟩⟩
  exact ⟨hr.cellAt 0 (by decide), hr.cellAt 1 (by decide), hr.frozenAt 0⟩
theorem lit4 {w : World} {T : TypeId} (v0 v1 v2 v3 : Value) : SlA (w.alloc (.cells #[v0, v1, v2, v3] T)) 4 (some ⟨w.heap.size, 0, none⟩) 1 1 [v0, v1, v2, v3] :=
  (SlA.of_own (World.ownsRow_lit (e := T) (base := 0) (size := 4) w #[v0, v1, v2, v3] 1 (Nat.zero_le _) (by unfold maxLen; omega) rfl)).2
theorem one4 (x : ND) (A : Option Addr) (n c : Nat) : ∀ u ∈ x.cells (.slice A n c), u.oneCell' = true := by
  intro u hu
  simp only [ND.cells, List.mem_cons, List.mem_nil_iff, or_false] at hu
  rcases hu with rfl | rfl | rfl | rfl <;> rfl
/-- What a call that makes a node leaves. -/
def MakS (w : World) (Z : Nat → Prop) (st mp : Nat) (xs : List ND) (w' : World) : Prop := ∃ Z' v' qs', ArP w' Z' st mp v' xs qs' ∧ Turn Z w w' ∧ ∀ b, Z' b → Z b ∨ w.heap.size ≤ b
theorem makS_below {w w' : World} {Z : Nat → Prop} {st mp : Nat} {v : Value} {xs : List ND} {qs : List Value} (h : ArP w Z st mp v xs qs) (hb : Below w.heap.size w w') : MakS w Z st mp xs w' :=
  ⟨Z, v, qs, h.ext hb, .of_below hb, fun b h => .inl h⟩
/-- int's numbers in a node. -/
structure NdI (x : ND) : Prop where
  o : I64 x.o
  n : I64 x.n
  l : ∀ i ∈ x.l, I64 i
theorem make_done {w W W1 w4 w6 : World} {Z : Nat → Prop} {st mp : Nat} {v v4 q : Value} {xs : List ND} {qs : List Value} {x : ND} {D : MD} {b2 : Nat} (h : ArP w Z st mp v xs qs) (hB : Below w.heap.size w W) (hb1 : ∀ b, b < W.heap.size → W1.heap[b]? = W.heap[b]?) (hs1 : W.heap.size ≤ W1.heap.size)
    (hot : W1.os = W.os ∧ W1.tape = W.tape ∧ W1.output = W.output)
    (hq : W.ownsRow b2 3 1 q x.l.length (x.l.map (.int .i64))) (hb2 : w.heap.size < b2) (hg4 : W1.grownBy w4 v.ownBlock) (h4 : w4.ownsRow 0 86 4 v4 (xs.length + 1) (nds xs qs ++ x.cells q)) (hl4 : v4.ownBlock = v.ownBlock ∨ v4.ownBlock = some W1.heap.size)
    (hbx : w4.heap[st]? = some (.cells #[v, .map (some mp)] 151 (0, 0))) (hm : w6.ownsMap Tryz.prog 9 (plainElem Tryz.prog 3) mp (xs.length + 1) D) (hmo : MapOk keyP (xs ++ [x]) D) (hok : Okay (xs ++ [x]))
    (hg6 : (w4.setCell ⟨st, 0, none⟩ v4).grownBy w6 (some mp)) : MakS w Z st mp (xs ++ [x]) w6 := by
  have hzl := h.zlt
  have l1 := hzl _ h.zst
  have l2 := hzl _ h.zmp.1
  have hmne := h.zmp.2
  have s1 := hB.size
  have s4 := hg4.size
  have s5 : (w4.setCell ⟨st, 0, none⟩ v4).heap.size = w4.heap.size := by simp
  have s6 := hg6.size
  rw [s5] at s6
  have hne : some st ≠ v.ownBlock := fun e => (h.zv st e.symm).2.1 rfl
  have box6 : w6.heap[st]? = some (.cells #[v4, .map (some mp)] 151 (0, 0)) := by
    rw [hg6.block st (by rw [s5]; omega) (by intro e; injection e with e; exact hmne e.symm), heap_setCell_same w4 st 0 _ _ v4 hbx]
    rfl
  have step : ∀ b, b < w4.heap.size → b ≠ st → b ≠ mp → w6.heap[b]? = w4.heap[b]? := fun b hb h1 h2 => by
    rw [hg6.block b (by rw [s5]; exact hb) (by intro e; injection e with e; exact h2 e), Below.heap_setCell w4 ⟨st, 0, none⟩ v4 b h1]
  have hv4 : v4.ownBlock = v.ownBlock ∨ ∀ b, v4.ownBlock = some b → w.heap.size ≤ b ∧ b < w6.heap.size := by
    rcases hl4 with e | e
    · exact .inl e
    · refine .inr fun b hb => ?_
      have hlt := (h4.lt b hb).2
      rw [e] at hb
      injection hb with hb
      omega
  have vlt : ∀ b, v4.ownBlock = some b → b < w4.heap.size ∧ b ≠ st ∧ b ≠ mp := fun b hb => by
    refine ⟨(h4.lt b hb).2, ?_⟩
    rcases hl4 with e | e
    · have := h.zv b (e ▸ hb); exact ⟨this.2.1, this.2.2⟩
    · rw [e] at hb; injection hb with hb; omega
  have hqk : ∀ b, q.ownBlock = some b → b2 ≤ b ∧ b < W.heap.size ∧ w6.heap[b]? = W.heap[b]? := fun b hb => by
    obtain ⟨q1, q2⟩ := hq.lt b hb
    refine ⟨q1, q2, ?_⟩
    rw [step b (by omega) (by omega) (by omega), hg4.block b (by omega) (fun e => by have := (h.zv b e.symm).1; have := hzl b this; omega), hb1 b q2]
  have hold : ∀ b, b < w.heap.size → b ≠ st → b ≠ mp → v.ownBlock ≠ some b → w6.heap[b]? = w.heap[b]? := fun b hb h1 h2 h3 => by
    rw [step b (by omega) h1 h2, hg4.block b (by omega) (fun e => h3 e.symm), hb1 b (by omega), hB.block b hb]
  have row6 : w6.ownsRow 0 86 4 v4 (xs.length + 1) (nds xs qs ++ x.cells q) := own_block h4 fun b hb => by
    obtain ⟨a1, a2, a3⟩ := vlt b hb
    exact step b a1 a2 a3
  obtain ⟨Aq, cq, hqe, -⟩ := SlA.owned hq
  have hq6 : In1 w6 q x.l := by
    have := own_block hq (w' := w6) fun b hb => (hqk b hb).2.2
    obtain ⟨A', c', e', hs'⟩ := SlA.owned this
    exact ⟨A', c', e', hs'⟩
  have hP := h.push (w' := w6) (v' := v4) (q := q) (x := x) (D := D) hok box6 row6 hv4 hq6 (fun hne' b hb => by
    obtain ⟨a1, a2, a3⟩ := hqk b hb
    refine ⟨by omega, by omega, fun e => ?_⟩
    rcases hl4 with e4 | e4
    · have := (h.zv b (e4 ▸ e)).1; have := hzl b this; omega
    · rw [e4] at e; injection e with e; omega) hm hmo (fun b hz h1 h2 h3 => hold b (hzl b hz) h1 h2 h3) (by omega)
  refine ⟨_, v4, _, hP, ⟨?_, ?_, ?_, by omega, fun b hb hz => hold b hb (fun e => hz (e ▸ h.zst)) (fun e => hz (e ▸ h.zmp.1)) (fun e => hz (h.zv b e).1)⟩, fun b hb => ?_⟩
  · rw [hg6.os, show (w4.setCell ⟨st, 0, none⟩ v4).os = w4.os from (Turn.setCell (F := fun _ => True) (w := w4) (a := ⟨st, 0, none⟩) v4 (.inl trivial)).os, hg4.os, hot.1, hB.os]
  · rw [hg6.tape, show (w4.setCell ⟨st, 0, none⟩ v4).tape = w4.tape from (Turn.setCell (F := fun _ => True) (w := w4) (a := ⟨st, 0, none⟩) v4 (.inl trivial)).tape, hg4.tape, hot.2.1, hB.tape]
  · rw [hg6.output, show (w4.setCell ⟨st, 0, none⟩ v4).output = w4.output from (Turn.setCell (F := fun _ => True) (w := w4) (a := ⟨st, 0, none⟩) v4 (.inl trivial)).output, hg4.output, hot.2.2, hB.output]
  · rcases hb with hb | hb
    · exact .inl hb
    · exact .inr hb.1
section
variable (Z : Nat → Prop) (st mp : Nat) (v : Value) (xs : List ND) (qs : List Value) (x : ND) (A : Option Addr) (c B : Nat) (w : World)
set_option maxHeartbeats 1000000 in
theorem make_no (h : ArP w Z st mp v xs qs) (hl : SlA w 1 A x.l.length c (x.l.map (.int .i64))) (hm : mayB xs x = false) :
    Calls Tryz.prog 34 #[.pointer (some ⟨st, 0, none⟩), .agg #[.int .i64 x.o, .int .i64 x.n, .string x.s, .slice A x.l.length c]] w fun e w' => e = .returned (.tuple #[.int .i64 0, .int .i64 1]) ∧ Below w.heap.size w w' := by
  have H := hid (Ar.v h); have HS := hid hl; have HM := hid hm
  have B0 := hid (show Below w.heap.size w (w.alloc (.cells #[.int .i64 x.o, .int .i64 x.n, .string x.s, .slice A x.l.length c] 86)) from (Below.refl _ _).alloc (Nat.le_refl _) _)
  clear h hl hm
  go_enter Tryz.func34, Tryz.ntmps34
  go_wp2_with fail
  refine (may_any st xs x A c _ (H.out.ext B0.out) (HS.out.ext B0.out)).mono ?_
  rintro e1 w1 ⟨rfl, b1⟩
  rw [HM.out]
  have B1 := hid (B0.out.trans (b1.mono B0.out.size))
  clear b1
  go_wp2_with fail
  go_ret2
  exact ⟨rfl, B1.out⟩
set_option maxHeartbeats 4000000 in
set_option maxRecDepth 20000 in
theorem make_yes (h : ArP w Z st mp v xs qs) (hl : SlA w 1 A x.l.length c (x.l.map (.int .i64))) (hm : mayB xs x = true) (hT : Tb B w) (hB : B ≤ w.heap.size) (hx : NdI x) :
    Calls Tryz.prog 34 #[.pointer (some ⟨st, 0, none⟩), .agg #[.int .i64 x.o, .int .i64 x.n, .string x.s, .slice A x.l.length c]] w fun e w' => e = .returned (.tuple #[.int .i64 (makI xs x), .int .i64 (makE xs x)]) ∧ MakS w Z st mp (makT xs x) w' := by
  have HAR := hid h
  have H := hid (Ar.v h); have HS := hid hl; have HM := hid hm; have HT := hid hT; have HX := hid hx
  have B0 := hid (show Below w.heap.size w (w.alloc (.cells #[.int .i64 x.o, .int .i64 x.n, .string x.s, .slice A x.l.length c] 86)) from (Below.refl _ _).alloc (Nat.le_refl _) _)
  have X0 := hid (show (w.alloc (.cells #[.int .i64 x.o, .int .i64 x.n, .string x.s, .slice A x.l.length c] 86)).ownsRow w.heap.size 86 4 (.slice (some ⟨w.heap.size, 0, none⟩) 1 1) 1 [.int .i64 x.o, .int .i64 x.n, .string x.s, .slice A x.l.length c] from
    ⟨by simp, .inr ⟨w.heap.size, 1, _, rfl, Nat.le_refl _, heap_alloc_new w _, Nat.le_refl _, by decide, rfl, by simp⟩⟩)
  have hsh : x.l.length ≤ 64 ∧ x.s.size ≤ 200 := by
    unfold mayB shB at hm
    simp only [Bool.and_eq_true, decide_eq_true_eq] at hm
    exact ⟨hm.1.1.1.1.1.1.2, hm.1.1.1.1.2⟩
  obtain ⟨hs64, hs200⟩ := hsh
  have hlt := (Ar.v h).lt
  obtain ⟨Av, cv, rfl, -⟩ := h.rows
  obtain ⟨i0, hi, hz0, hz1, hz2⟩ := info_parts infoN
  clear h hl hm hT hx
  go_enter Tryz.func34, Tryz.ntmps34
  go_wp2_with fail
  refine (may_any st xs x A c _ (H.out.ext B0.out) (HS.out.ext B0.out)).mono ?_
  rintro e1 w1 ⟨rfl, b1⟩
  rw [HM.out]
  have B1 := hid (B0.out.trans (b1.mono B0.out.size))
  have X1 := hid (own_ext X0.out b1)
  clear b1
  have k0 : w1.cell? ⟨w.heap.size, 0, none⟩ = some (.int .i64 x.o) := X1.out.cellAt 0 (by decide)
  have k1 : w1.cell? ⟨w.heap.size, 1, none⟩ = some (.int .i64 x.n) := X1.out.cellAt 1 (by decide)
  have k2 : w1.cell? ⟨w.heap.size, 2, none⟩ = some (.string x.s) := X1.out.cellAt 2 (by decide)
  have k3 : w1.cell? ⟨w.heap.size, 3, none⟩ = some (.slice A x.l.length c) := X1.out.cellAt 3 (by decide)
  go_wp2_with fail
  refine (key_any x A c _ (HS.out.ext B1.out) (Tb.up (HT.out.on (B1.out.mono hB)) (Nat.le_trans hB B1.out.size)) hs64 HX.out.o HX.out.n HX.out.l hs200).mono ?_
  rintro e2 w2 ⟨KS, rfl, hk, b2⟩
  have HK := hid hk
  have B2 := hid (B1.out.trans (b2.mono B1.out.size))
  have X2 := hid (own_ext X1.out b2)
  clear b2 hk k0 k1 k2 k3
  have AR2 := hid (HAR.out.ext B2.out)
  obtain ⟨D, hD, hMO⟩ := AR2.out.map
  have HD := hid hD; have HMO := hid hMO
  clear hD hMO
  have s0 : w2.cell? ⟨st, 0, none⟩ = some (.slice Av xs.length cv) := cell_of_row w2 st 0 _ _ (0, 0) AR2.out.box
  have s1 : w2.cell? ⟨st, 1, none⟩ = some (.map (some mp)) := cell_of_row w2 st 1 _ _ (0, 0) AR2.out.box
  have hsz : KS.size ≤ maxLen := by
    have h1 : KS.size = (keyP x).length := by rw [← HK.out]; rfl
    have h2 := itoa_le x.o HX.out.o.1 HX.out.o.2
    have h3 := join_le (l := x.n :: x.l) (fun i hi => by
      rcases List.mem_cons.1 hi with rfl | hi
      · exact HX.out.n
      · exact HX.out.l i hi)
    have h4 : x.s.data.toList.length = x.s.size := rfl
    rw [h1]
    unfold keyP maxLen
    simp only [List.length_append, List.length_cons] at h3 ⊢
    omega
  have hkey : keyOf Tryz.prog 9 (.string KS) = some (.string (keyP x)) := by rw [← HK.out]; exact Go.WideMaps.keyOf_string_mk Tryz.underlying9 hsz
  have HKEY := hid hkey
  clear hkey
  by_cases hx : x ∈ xs
  · have HH := hid (HMO.out.yes hx)
    obtain ⟨e1, e2, e3⟩ := mak_old HM.out hx
    have HI := hid e2; have HE := hid e3; have HTT := hid e1
    have HIX := hid (HMO.out.at' _ x (idxOf_get hx))
    clear hx e1 e2 e3
    go_wp2_with (at_lookup; refine wpList_lookup_own_ok_int _ rfl _ _ 115 rfl 9 3 .i64 lawS Tryz.underlying115 Tryz.underlying3 (zeroI _) mp _ D rfl HD.out _ _ rfl HKEY.out ?_; intro cc hat hwc; rw [HH.out])
    have HCC := hid (show cc = (xs.idxOf x : Nat) by
      rw [HIX.out] at hat
      injection hat with hat
      injection hat with _ hat
      exact hat.symm)
    clear hat hwc
    go_wp2
    go_ret2
    refine ⟨by rw [HI.out, HE.out, HCC.out]; rfl, ?_⟩
    rw [HTT.out]
    exact makS_below HAR.out B2.out
  · have HH := hid (HMO.out.not (fun {_ _} => keyP_inj) hx)
    by_cases hf : 100000 ≤ xs.length
    · have HI := hid (show makI xs x = 0 by unfold makI; rw [HM.out, if_pos rfl, if_neg hx, if_pos hf])
      have HE := hid (show makE xs x = 2 by unfold makE; rw [HM.out, if_pos rfl, if_neg hx, if_pos hf])
      have HTT := hid (show makT xs x = xs by unfold makT; rw [HM.out, if_pos rfl, if_neg hx, if_pos hf])
      have hf' : (100000 : Int) ≤ (xs.length : Int) := by omega
      clear hx hf
      go_wp2_with (at_lookup; refine wpList_lookup_own_ok_int _ rfl _ _ 115 rfl 9 3 .i64 lawS Tryz.underlying115 Tryz.underlying3 (zeroI _) mp _ D rfl HD.out _ _ rfl HKEY.out ?_; intro cc hat hwc; rw [HH.out])
      go_ret2
      refine ⟨by rw [HI.out, HE.out]; rfl, ?_⟩
      rw [HTT.out]
      exact makS_below HAR.out B2.out
    · obtain ⟨e1, e2, e3⟩ := mak_new HM.out hx (by omega)
      have HI := hid e2; have HE := hid e3; have HTT := hid e1; have HNX := hid hx
      have hf' : decide ((100000 : Int) ≤ (xs.length : Int)) = false := decide_eq_false (by omega)
      have HF := hid hf
      clear e1 e2 e3 hx hf
      obtain ⟨⟨k0, k1, k2, k3⟩, f0, f1, f2, f3⟩ := box4 X2.out
      go_wp2_with (at_lookup; refine wpList_lookup_own_ok_int _ rfl _ _ 115 rfl 9 3 .i64 lawS Tryz.underlying115 Tryz.underlying3 (zeroI _) mp _ D rfl HD.out _ _ rfl HKEY.out ?_; intro cc hat hwc; rw [HH.out]; clear hat hwc)
      refine (clone_own A _ c x.l _ (HS.out.ext B2.out) (by omega)).mono ?_
      rintro e3 w3 ⟨q0, rfl, oq, b3⟩
      obtain ⟨Aq, cq, rfl, -⟩ := SlA.owned oq
      have X3 := hid (own_ext X2.out b3)
      have AR3 := hid (AR2.out.ext b3)
      have B3 := hid (B2.out.trans (b3.mono B2.out.size))
      have OQ := hid oq
      clear k0 k1 k2 k3 f0 f1 f2 f3
      obtain ⟨⟨k0, k1, k2, k3⟩, f0, f1, f2, f3⟩ := box4 X3.out
      clear oq b3
      go_upto_region 11 with fail
      have hws : w.heap.size < w2.heap.size := by
        have := (X2.out.lt w.heap.size rfl).2
        exact this
      refine forget (R := fun W => ArP W Z st mp (.slice Av xs.length cv) xs qs ∧ W.ownsRow w.heap.size 86 4 (.slice (some ⟨w.heap.size, 0, none⟩) 1 1) 1 (x.cells (.slice Aq x.l.length cq)) ∧ W.ownsRow w2.heap.size 3 1 (.slice Aq x.l.length cq) x.l.length (x.l.map (.int .i64)) ∧ Below w.heap.size w W) ?_ ⟨?_, ?_, ?_, ?_⟩
      rotate_left
      · exact AR3.out.turn (Turn.setCell (F := fun b => b = w.heap.size) (.slice Aq x.l.length cq) (.inl rfl)) (fun b hz e => by have := HAR.out.zlt b hz; omega)
      · exact (X3.out.stored 3 (.slice Aq x.l.length cq)).1
      · exact own_block OQ.out fun b hb => Below.heap_setCell w3 ⟨w.heap.size, 3, none⟩ (.slice Aq x.l.length cq) b (by have := (OQ.out.lt b hb).1; show b ≠ w.heap.size; omega)
      · exact B3.out.setCell (p := ⟨w.heap.size, 3, none⟩) (Nat.le_refl _) _
      rintro W ⟨ra, rx, ro, rb⟩
      have AR4 := hid ra; have X4 := hid rx; have OQ4 := hid ro; have B4 := hid rb
      clear ra rx ro rb k0 k1 k2 k3 f0 f1 f2 f3 s0 s1 X3 AR3 B3 OQ
      obtain ⟨⟨k0, k1, k2, k3⟩, -⟩ := box4 X4.out
      have s0 : W.cell? ⟨st, 0, none⟩ = some (.slice Av xs.length cv) := (ar_box AR4.out).cellAt 0 (by decide)
      have fs0 : W.frozen? ⟨st, 0, none⟩ = false := (ar_box AR4.out).frozenAt 0
      have hsW : w.heap.size < W.heap.size := (X4.out.lt w.heap.size rfl).2
      have hrow : ((W.alloc (.cells #[.int .i64 x.o, .int .i64 x.n, .string x.s, .slice Aq x.l.length cq] 86)).drew).ownsRow 0 86 4 (.slice Av xs.length cv) xs.length (nds xs qs) := own_block (AR4.out.row.alloc _) (fun _ _ => rfl)
      have HROW := hid hrow
      have HN1 := hid (show xs.length ≤ 100000 by have := HF.out; omega)
      have hstW : st < W.heap.size := by omega
      have s0' : (W.alloc (.cells #[.int .i64 x.o, .int .i64 x.n, .string x.s, .slice Aq x.l.length cq] 86)).cell? ⟨st, 0, none⟩ = some (.slice Av xs.length cv) := (World.cell?_alloc_old _ _ _ (show st ≠ W.heap.size by omega)).trans s0
      have HBX := hid (show ((W.alloc (.cells #[.int .i64 x.o, .int .i64 x.n, .string x.s, .slice Aq x.l.length cq] 86)).drew).heap[st]? = some (.cells #[.slice Av xs.length cv, .map (some mp)] 151 (0, 0)) from (Below.heap_alloc W _ st hstW).trans AR4.out.box)
      have HNE := hid (show some st ≠ (Value.slice Av xs.length cv).ownBlock from fun e => (AR4.out.zv st e.symm).2.1 rfl)
      clear hrow
      go_region_law (refine step_append_sl _ rfl (.tmp 42) (.tmp 44) 47 rfl 0 86 i0 (.agg #[.int .i64 0, .int .i64 0, .string ⟨#[]⟩, .slice none 0 0]) 4 56 Tryz.underlying47 hi hz0 hz1 hz2 rfl (by decide) (.slice Av xs.length cv) xs.length (nds xs qs) (by rfl) HROW.out (some ⟨W.heap.size, 0, none⟩) 1 1 (x.cells (.slice Aq x.l.length cq)) (by rfl) (lit4 _ _ _ _).drew (one4 _ _ _ _) (by have := HN1.out; unfold maxLen; omega) (by have := HN1.out; omega) (Nat.zero_le _) ?_; intro v4 w4 h4 g4 l4; obtain ⟨A4, c4, rfl, -⟩ := SlA.owned h4; have H4 := hid h4; have G4 := hid g4; have L4 := hid l4; have HB4 := hid ((g4.block st (by simp; omega) HNE.out).trans HBX.out); obtain ⟨s4, s5, f4⟩ := box2 HB4.out; clear h4 g4 l4)
      all_goals
        obtain ⟨D4, hD4, hM4⟩ := AR4.out.map
        have HD5 := hid (map_block (w' := w4.setCell ⟨st, 0, none⟩ (.slice A4 (xs.length + 1) c4)) hD4 (by
          have h1 := AR4.out.zlt _ AR4.out.zmp.1
          have h2 := AR4.out.zmp.2
          rw [Below.heap_setCell w4 ⟨st, 0, none⟩ _ mp h2, G4.out.block mp (by simp; omega) (fun e => (AR4.out.zv mp e.symm).2.2 rfl)]
          exact Below.heap_alloc W _ mp h1))
        have HM4 := hid hM4
        clear hD4 hM4
        have s6 : (w4.setCell ⟨st, 0, none⟩ (.slice A4 (xs.length + 1) c4)).cell? ⟨st, 1, none⟩ = some (.map (some mp)) := by
          have hb := heap_setCell_same w4 st 0 _ _ (.slice A4 (xs.length + 1) c4) HB4.out
          exact (box2 (a := .slice A4 (xs.length + 1) c4) (b := .map (some mp)) hb).2.1
        go_wp2_with (at_mapUpdate; refine wpList_mapUpdate_own _ rfl _ _ _ 115 rfl 9 3 lawS Tryz.underlying115 _ mp xs.length D4 rfl HD5.out (by have := HN1.out; unfold maxLen; omega) _ _ (.string (keyP x)) rfl rfl HKEY.out (.lit (.int .i64 (xs.length : Nat))) [] (plainElem_int Tryz.underlying3 (WalkArith.wf_i64 (by have := HN1.out; omega))) ?_; intro w6 hown6 hg6; have HO6 := hid hown6; have HG6 := hid hg6; clear hown6 hg6)
        go_wp2
        go_ret2
        refine ⟨by rw [HI.out, HE.out]; rfl, ?_⟩
        have hok : Okay (xs ++ [x]) := by
          have := okay_mak HAR.out.ok (x := x) (by have := HX.out.n.2; omega)
          rwa [HTT.out] at this
        rw [HTT.out]
        exact make_done HAR.out B4.out (W1 := (W.alloc (.cells #[.int .i64 x.o, .int .i64 x.n, .string x.s, .slice Aq x.l.length cq] 86)).drew) (fun b hb => Below.heap_alloc W _ b hb) (by simp) ⟨rfl, rfl, rfl⟩ OQ4.out hws G4.out H4.out L4.out HB4.out HO6.out (mapOk_put HM4.out (fun {_ _} => keyP_inj) HNX.out) hok HG6.out
/-- A node is made, whatever it is. -/
theorem make_any (h : ArP w Z st mp v xs qs) (hl : SlA w 1 A x.l.length c (x.l.map (.int .i64))) (hT : Tb B w) (hB : B ≤ w.heap.size) (hx : NdI x) :
    Calls Tryz.prog 34 #[.pointer (some ⟨st, 0, none⟩), .agg #[.int .i64 x.o, .int .i64 x.n, .string x.s, .slice A x.l.length c]] w fun e w' => e = .returned (.tuple #[.int .i64 (makI xs x), .int .i64 (makE xs x)]) ∧ MakS w Z st mp (makT xs x) w' := by
  rcases hm : mayB xs x with _ | _
  · refine (make_no Z st mp v xs qs x A c w h hl hm).mono ?_
    rintro e w' ⟨rfl, hb⟩
    refine ⟨?_, ?_⟩
    · unfold makI makE; rw [hm]; rfl
    · have : makT xs x = xs := by unfold makT; rw [hm]; rfl
      rw [this]
      exact makS_below h hb
  · exact make_yes Z st mp v xs qs x A c B w h hl hm hT hB hx
end
end Go.Proofs.YtpkijlmkgomfeaaGreatDoor

/- term: New, Len, Node; crypto: what makes and reads nodes. -/
namespace Go.Proofs.YtpkijlmkgomfeaaGreatDoor
open Go.RowKit Go.KK Go.Shelf Go.Maps
set_option linter.unusedVariables false
set_option linter.unusedSimpArgs false

/-- The program's arena at block st, all of its blocks in Z. -/
def AR (w : World) (Z : Nat → Prop) (st : Nat) (xs : List ND) : Prop := ∃ mp v qs, ArP w Z st mp v xs qs
def ArS (w : World) (Z : Nat → Prop) (st : Nat) (xs : List ND) (w' : World) : Prop := ∃ Z', AR w' Z' st xs ∧ Turn Z w w' ∧ ∀ b, Z' b → Z b ∨ w.heap.size ≤ b
theorem ArS.of {w w' : World} {Z : Nat → Prop} {st mp : Nat} {xs : List ND} (h : MakS w Z st mp xs w') : ArS w Z st xs w' := by
  obtain ⟨Z', v, qs, h1, h2, h3⟩ := h
  exact ⟨Z', ⟨mp, v, qs, h1⟩, h2, h3⟩
theorem AR.ext {w w' : World} {Z : Nat → Prop} {st : Nat} {xs : List ND} (h : AR w Z st xs) (hb : Below w.heap.size w w') : AR w' Z st xs := by
  obtain ⟨mp, v, qs, h1⟩ := h
  exact ⟨mp, v, qs, h1.ext hb⟩
theorem AR.zlt {w : World} {Z : Nat → Prop} {st : Nat} {xs : List ND} (h : AR w Z st xs) : ∀ b, Z b → b < w.heap.size := by
  obtain ⟨mp, v, qs, h1⟩ := h
  exact h1.zlt
theorem AR.ok {w : World} {Z : Nat → Prop} {st : Nat} {xs : List ND} (h : AR w Z st xs) : Okay xs := by
  obtain ⟨mp, v, qs, h1⟩ := h
  exact h1.ok
theorem AR.vw {w : World} {Z : Nat → Prop} {st : Nat} {xs : List ND} (h : AR w Z st xs) : ArV w 151 st xs := by
  obtain ⟨mp, v, qs, h1⟩ := h
  exact Ar.v h1
/-- Behind a call that only lays blocks. -/
theorem ArS.first {w w1 w2 : World} {Z : Nat → Prop} {st : Nat} {xs : List ND} (hb : Below w.heap.size w w1) (h : ArS w1 Z st xs w2) : ArS w Z st xs w2 := by
  obtain ⟨Z', h1, h2, h3⟩ := h
  refine ⟨Z', h1, (Turn.of_below hb).trans h2 (fun _ h => .inl h), fun b hz => (h3 b hz).imp id fun h => Nat.le_trans hb.size h⟩
theorem ArS.next {w w1 w2 : World} {Z : Nat → Prop} {st : Nat} {xs : List ND} (h : ArS w Z st xs w1) (hb : Below w1.heap.size w1 w2) : ArS w Z st xs w2 := by
  obtain ⟨Z', h1, h2, h3⟩ := h
  exact ⟨Z', h1.ext hb, h2.trans (.of_below (F := Z) hb) (fun _ h => .inl h), h3⟩
theorem new_any (w : World) : Calls Tryz.prog 27 #[] w fun e w' => ∃ Z st, e = .returned (.pointer (some ⟨st, 0, none⟩)) ∧ AR w' Z st [] ∧ (∀ b, Z b → w.heap.size ≤ b) ∧ Below w.heap.size w w' := by
  have hmm := @run_makeMap Tryz.prog
  go_enter Tryz.func27, Tryz.ntmps27
  go_wp2
  go_ret
  have B1 : Below w.heap.size w (w.alloc (.map #[] 0)) := (Below.refl _ _).alloc (Nat.le_refl _) _
  have hm0 := World.ownsMap_made (H := Unit) w Tryz.prog 9 (plainElem Tryz.prog 3)
  refine ⟨fun b => b = w.heap.size ∨ b = w.heap.size + 1, w.heap.size + 1, by simp, ⟨w.heap.size, .slice none 0 0, [], ?_⟩, fun b hb => by rcases hb with rfl | rfl <;> omega, B1.alloc (by simp) _⟩
  have hsz : (w.alloc (.map #[] 0)).heap.size = w.heap.size + 1 := by simp
  refine ⟨?_, World.ownsRow_nil _ _ _ _, rfl, fun j x q h => by simp at h, fun j x q b h => by simp at h, ⟨.map [], ?_, mapOk_nil _⟩, .inr rfl, ⟨.inl rfl, by omega⟩, fun b h => (by cases h), fun b hb => ?_, okay_nil⟩
  · have := heap_alloc_new (w.alloc (.map #[] 0)) (.cells #[.slice none 0 0, .map (some w.heap.size)] 151)
    rw [hsz] at this
    exact this
  · exact hm0.alloc _
  · have h2 : ((w.alloc (.map #[] 0)).alloc (.cells #[.slice none 0 0, .map (some w.heap.size)] 151)).heap.size = w.heap.size + 1 + 1 := by simp
    rcases hb with rfl | rfl <;> omega
theorem len_any (st : Nat) (xs : List ND) (w : World) (h : ArV w 151 st xs) :
    Calls Tryz.prog 62 #[.pointer (some ⟨st, 0, none⟩)] w fun e w' => e = .returned (.int .i64 xs.length) ∧ w' = w := by
  obtain ⟨A, c, m, h0, h1, hn⟩ := h.parts
  clear hn h
  go_enter Tryz.func62, Tryz.ntmps62
  go_wp2
  go_ret
  exact ⟨rfl, rfl⟩
set_option maxHeartbeats 2000000 in
set_option maxRecDepth 20000 in
theorem node_any (st : Nat) (xs : List ND) (t : Int) (w : World) (h : ArV w 151 st xs) :
    Calls Tryz.prog 63 #[.pointer (some ⟨st, 0, none⟩), .int .i64 t] w fun e w' => ∃ A c, e = .returned (.tuple #[.agg #[.int .i64 (nodeF xs t).o, .int .i64 (nodeF xs t).n, .string (nodeF xs t).s, .slice A (nodeF xs t).l.length c], .int .i64 (nodeE xs t)]) ∧ w'.ownsRow w.heap.size 3 1 (.slice A (nodeF xs t).l.length c) (nodeF xs t).l.length ((nodeF xs t).l.map (.int .i64)) ∧ Below w.heap.size w w' := by
  have H := hid h
  have B0 := hid (show Below w.heap.size w (w.alloc (.cells #[.int .i64 0, .int .i64 0, .string ⟨#[]⟩, .slice none 0 0] 86)) from (Below.refl _ _).alloc (Nat.le_refl _) _)
  clear h
  rcases hh : hasB xs t with _ | _
  · have HF := hid (show nodeF xs t = Go.KK.nd0 by unfold nodeF; rw [hh]; rfl)
    have HE := hid (show nodeE xs t = 4 by unfold nodeE; rw [hh]; rfl)
    go_enter Tryz.func63, Tryz.ntmps63
    go_wp2_with fail
    refine (has_any st xs t _ (H.out.ext B0.out)).mono ?_
    rintro e1 w1 ⟨rfl, hw⟩
    subst hw
    rw [hh]
    go_wp2_with fail
    refine bodyPost_ret (v := .tuple #[.agg #[.int .i64 0, .int .i64 0, .string ⟨#[]⟩, .slice none 0 0], .int .i64 4]) ?_ rfl ⟨none, 0, ?_, ?_, B0.out⟩
    · rw [results_cell_tmp rfl]
      go_simp
    · rw [HF.out, HE.out]; rfl
    · rw [HF.out]; exact World.ownsRow_nil _ _ _ _
  · have HF := hid (show nodeE xs t = 0 by unfold nodeE; rw [hh]; rfl)
    have X0 := hid (show (w.alloc (.cells #[.int .i64 0, .int .i64 0, .string ⟨#[]⟩, .slice none 0 0] 86)).ownsRow w.heap.size 86 4 (.slice (some ⟨w.heap.size, 0, none⟩) 1 1) 1 [.int .i64 0, .int .i64 0, .string ⟨#[]⟩, .slice none 0 0] from
      ⟨by simp, .inr ⟨w.heap.size, 1, _, rfl, Nat.le_refl _, heap_alloc_new w _, Nat.le_refl _, by decide, rfl, by simp⟩⟩)
    go_enter Tryz.func63, Tryz.ntmps63
    go_wp2_with fail
    refine (has_any st xs t _ (H.out.ext B0.out)).mono ?_
    rintro e1 w1 ⟨rfl, hw⟩
    subst hw
    rw [hh]
    generalize w.alloc (.cells #[.int .i64 0, .int .i64 0, .string ⟨#[]⟩, .slice none 0 0] 86) = W0 at *
    have hhb := hh
    unfold hasB at hhb
    simp only [Bool.and_eq_true, decide_eq_true_eq] at hhb
    obtain ⟨hz0, hz1⟩ := hhb
    obtain ⟨j, rfl⟩ := Int.eq_ofNat_of_zero_le hz0
    have hlt0 : w.heap.size < W0.heap.size := (X0.out.lt w.heap.size rfl).2
    obtain ⟨A', c', m', q0, qm, hnd⟩ := (H.out.ext B0.out).parts
    have hjn : j < xs.length := by omega
    obtain ⟨bn, on, y, Ay, cy, rfl, hy, y0, y1, y2, y3, hsy⟩ := hnd.at hjn
    have HY := hid (show nodeF xs (j : Int) = y by
      unfold nodeF
      rw [hh, if_pos rfl, Int.toNat_natCast, List.getD, hy]; rfl)
    have HSY := hid hsy
    have hyl : y.l.length ≤ 64 := by
      have := (H.out.ok.may j y hy)
      unfold mayB shB at this
      simp only [Bool.and_eq_true, decide_eq_true_eq] at this
      exact this.1.1.1.1.1.1.2
    clear hh hy hsy hnd hz0 hz1
    go_wp2_with fail
    refine (clone_own Ay _ cy y.l _ (HSY.out.alloc _) (by omega)).mono ?_
    rintro e3 w3 ⟨q0', rfl, oq, b3⟩
    obtain ⟨Aq, cq, rfl, -⟩ := SlA.owned oq
    have X1 := hid (own_ext (own_ext X0.out ((Below.refl _ _).alloc (Nat.le_refl _) (.cells #[.int .i64 y.o, .int .i64 y.n, .string y.s, .slice Ay y.l.length cy] 86))) b3)
    have X2 := hid (own_ext (show (W0.alloc (.cells #[.int .i64 y.o, .int .i64 y.n, .string y.s, .slice Ay y.l.length cy] 86)).ownsRow W0.heap.size 86 4 (.slice (some ⟨W0.heap.size, 0, none⟩) 1 1) 1 [.int .i64 y.o, .int .i64 y.n, .string y.s, .slice Ay y.l.length cy] from
      ⟨by simp, .inr ⟨W0.heap.size, 1, _, rfl, Nat.le_refl _, heap_alloc_new W0 _, Nat.le_refl _, by decide, rfl, by simp⟩⟩) b3)
    have B3 := hid ((B0.out.alloc B0.out.size (.cells #[.int .i64 y.o, .int .i64 y.n, .string y.s, .slice Ay y.l.length cy] 86)).trans (b3.mono (by have := B0.out.size; simp; omega)))
    have OQ := hid oq
    have hsz1 : (W0.alloc (.cells #[.int .i64 y.o, .int .i64 y.n, .string y.s, .slice Ay y.l.length cy] 86)).heap.size = W0.heap.size + 1 := by simp
    obtain ⟨⟨k0, k1, k2, k3⟩, f0, f1, f2, f3⟩ := box4 X1.out
    obtain ⟨⟨l0, l1, l2, l3⟩, g0, g1, g2, g3⟩ := box4 X2.out
    have hne1 : ¬ W0.heap.size = w.heap.size := by omega
    have hne2 : ¬ w.heap.size = W0.heap.size := by omega
    rw [hsz1] at oq
    have HQ := hid oq
    clear oq b3 y0 y1 y2 y3 q0 qm
    go_wp2
    refine bodyPost_ret (v := .tuple #[.agg #[.int .i64 y.o, .int .i64 y.n, .string y.s, .slice Aq y.l.length cq], .int .i64 0]) ?_ rfl ⟨Aq, cq, ?_, ?_, ?_⟩
    · rw [results_cell_tmp rfl]
      go_simp
    · rw [HY.out, HF.out]
    · rw [HY.out]
      refine own_mono (own_block HQ.out fun b hb => ?_) (by omega)
      have hb1 := (HQ.out.lt b hb).1
      rw [Below.heap_setCell _ _ _ b (by show b ≠ w.heap.size; omega), Below.heap_setCell _ _ _ b (by show b ≠ w.heap.size; omega), Below.heap_setCell _ _ _ b (by show b ≠ w.heap.size; omega), Below.heap_setCell _ _ _ b (by show b ≠ w.heap.size; omega), Below.heap_setCell _ _ _ b (by show b ≠ W0.heap.size; omega)]
    · exact ((((B3.out.setCell (p := ⟨W0.heap.size, 3, none⟩) (by show w.heap.size ≤ W0.heap.size; omega) _).setCell (p := ⟨w.heap.size, 0, none⟩) (Nat.le_refl _) _).setCell (p := ⟨w.heap.size, 1, none⟩) (Nat.le_refl _) _).setCell (p := ⟨w.heap.size, 2, none⟩) (Nat.le_refl _) _).setCell (p := ⟨w.heap.size, 3, none⟩) (Nat.le_refl _) _
end Go.Proofs.YtpkijlmkgomfeaaGreatDoor

/- term: the arena's Make, Len, Node told in words. -/
namespace Go.Proofs.YtpkijlmkgomfeaaGreatDoor
open Go.RowKit Go.KK Go.Shelf Go.Maps
set_option linter.unusedVariables false
set_option linter.unusedSimpArgs false

/-- A call that makes the node x. -/
def MkS (w : World) (Z : Nat → Prop) (st : Nat) (xs : List ND) (x : ND) (e : Ending) (w' : World) : Prop := e = .returned (.tuple #[.int .i64 (makI xs x), .int .i64 (makE xs x)]) ∧ ArS w Z st (makT xs x) w'
theorem sla_row {w : World} {T : TypeId} (vs : Array Value) (hm : vs.size ≤ maxLen) : SlA (w.alloc (.cells vs T)) 1 (some ⟨w.heap.size, 0, none⟩) vs.size vs.size vs.toList :=
  ⟨Nat.le_refl _, hm, by simp, fun j u hj => ⟨w.heap.size, 0, rfl, by rw [World.cell?_alloc_at _ _ _ _ rfl, Nat.zero_add]; simpa using hj⟩⟩
theorem i64_lit {n : Int} (h0 : 0 ≤ n) (h1 : n ≤ 200000) : I64 n := ⟨by omega, by omega⟩
theorem ndI_nd {o : Int} {l : List Int} (ho : I64 o) (hl : ∀ i ∈ l, I64 i) : NdI (ndN o l) := ⟨ho, by unfold I64 ndN; simp, hl⟩
theorem ndI_at {n : Int} (h : I64 n) : NdI (atN n) := ⟨by unfold I64 atN; simp, h, fun i hi => by simp [atN] at hi⟩
theorem AR.turn {F : Nat → Prop} {w w' : World} {Z : Nat → Prop} {st : Nat} {xs : List ND} (h : AR w Z st xs) (ht : Turn F w w') (hd : ∀ b, Z b → ¬ F b) : AR w' Z st xs := by
  obtain ⟨mp, v, qs, h1⟩ := h
  exact ⟨mp, v, qs, h1.turn ht hd⟩
section
variable (Z : Nat → Prop) (st : Nat) (xs : List ND) (B : Nat) (w : World)
theorem mke_any (x : ND) (A : Option Addr) (c : Nat) (h : AR w Z st xs) (hl : SlA w 1 A x.l.length c (x.l.map (.int .i64))) (hT : Tb B w) (hB : B ≤ w.heap.size) (hx : NdI x) :
    Calls Tryz.prog 34 #[.pointer (some ⟨st, 0, none⟩), .agg #[.int .i64 x.o, .int .i64 x.n, .string x.s, .slice A x.l.length c]] w (MkS w Z st xs x) := by
  obtain ⟨mp, v, qs, h⟩ := h
  exact (make_any Z st mp v xs qs x A c B w h hl hT hB hx).mono fun e w' ⟨h1, h2⟩ => ⟨h1, .of h2⟩
end
end Go.Proofs.YtpkijlmkgomfeaaGreatDoor

/- term: a strings.Builder at the head of a writer: copyCheck, Len, WriteString, WriteByte, String. -/
namespace Go.Proofs.YtpkijlmkgomfeaaGreatDoor
open Go.RowKit Go.KK Go.Shelf Go.Maps
set_option linter.unusedVariables false
set_option linter.unusedSimpArgs false

/-- All blocks but b and rows of bytes are as they were. -/
def Oth (b : Nat) (w w' : World) : Prop := ∀ k cs T fz, w.heap[k]? = some (.cells cs T fz) → T ≠ 5 → k ≠ b → w'.heap[k]? = w.heap[k]?
theorem Oth.refl (b : Nat) (w : World) : Oth b w w := fun _ _ _ _ _ _ _ => rfl
theorem Oth.trans {b : Nat} {w w' w'' : World} (h : Oth b w w') (k : Oth b w' w'') : Oth b w w'' := fun i cs T fz e hT hb => (k i cs T fz ((h i cs T fz e hT hb).trans e) hT hb).trans (h i cs T fz e hT hb)
theorem Oth.below {b : Nat} {w w' : World} (h : Below w.heap.size w w') : Oth b w w' := fun i cs T fz e _ _ => h.block i (by
  rcases Nat.lt_or_ge i w.heap.size with h' | h'
  · exact h'
  · simp [Array.getElem?_eq_none h'] at e)
theorem Oth.set (b o : Nat) (w : World) (v : Value) : Oth b w (w.setCell ⟨b, o, none⟩ v) := fun i _ _ _ _ _ hb => Below.heap_setCell w ⟨b, o, none⟩ v i hb
theorem Oth.grown {b base n : Nat} {v : Value} {bs : List Value} {w w' : World} (h : w.ownsRow base 5 1 v n bs) (hg : w.grownBy w' v.ownBlock) : Oth b w w' := fun i cs T fz e hT _ => hg.block i (by
  rcases Nat.lt_or_ge i w.heap.size with h' | h'
  · exact h'
  · simp [Array.getElem?_eq_none h'] at e) (fun e2 => by
    rcases h.2 with ⟨rfl, _⟩ | ⟨g, cap, cur, rfl, _, hg', _⟩
    · cases e2
    · injection e2 with e2
      simp only at e2
      subst e2
      rw [hg'] at e
      injection e with e
      injection e with _ e _
      exact hT e.symm)
theorem Oth.cell {b : Nat} {w w' : World} {k o : Nat} {cs : Array Value} {T : TypeId} {fz : Nat × Nat} {v : Value} (h : Oth b w w') (e : w.heap[k]? = some (.cells cs T fz)) (hT : T ≠ 5) (hb : k ≠ b) (hc : w.cell? ⟨k, o, none⟩ = some v) : w'.cell? ⟨k, o, none⟩ = some v :=
  (World.cell?_of_block (a := ⟨k, o, none⟩) (h k cs T fz e hT hb)).trans hc
section
variable {B b : Nat} {p a : Value} {bs : List Value} {w w' : World}
end
section
variable (B b : Nat) (a : Value) (bs : List Value) (w : World)
end
end Go.Proofs.YtpkijlmkgomfeaaGreatDoor

/- term: a writer writes a term (of its texts what a Replacer makes of them). -/
namespace Go.Proofs.YtpkijlmkgomfeaaGreatDoor
open Go.RowKit Go.KK Go.Shelf Go.Maps
set_option linter.unusedVariables false
set_option linter.unusedSimpArgs false

theorem itoa_any (n : Int) (hn : I64 n) (w : World) (hT : Tb w.heap.size w) : Calls Tryz.prog 55 #[.int .i64 n] w fun e w' => ∃ S : ByteArray, e = .returned (.string S) ∧ S = ⟨(Lib.itoa n).toArray⟩ ∧ Below w.heap.size w w' := by
  refine (Tryz.strconv_Itoa n hn.1 hn.2 w hT.here).mono ?_
  rintro e w' ⟨rfl, k, os, rfl⟩
  exact ⟨_, rfl, rfl, Lib.below_grow _ _ (Nat.le_refl _) _ _⟩
section
variable (W0 : World) (sa b : Nat) (xs : List ND)
end
end Go.Proofs.YtpkijlmkgomfeaaGreatDoor

/- The shelf's contracts that the kit's own tool leaves out at this seat: TrailingZeros, Insert, Clone of nodes. -/
namespace Go.Proofs
open Go.Shelf Go.RowKit
set_option linter.unusedVariables false
set_option linter.unusedSimpArgs false
def Tryz.lays7n27_ren : Go.Shelf.Ren := ⟨fun | 27 => 261 | 28 => 263 | 29 => 264 | n => n, fun | 0 => 0 | 3 => 3 | 4 => 4 | 5 => 5 | 22 => 239 | 25 => 213 | 27 => 249 | 53 => 253 | 54 => 254 | n => n, fun | 0 => 1 | 1 => 2 | n => n⟩
theorem Tryz.lays7n27 : Go.Proofs.Lays7.n27 Tryz.prog Tryz.lays7n27_ren := {
  mixed := by kernel_rfl
  f27 := Tryz.func261.trans (congrArg some (by kernel_rfl))
  f28 := Tryz.func263.trans (congrArg some (by kernel_rfl))
  f29 := Tryz.func264.trans (congrArg some (by kernel_rfl))
  t0 := Tryz.underlying0
  a0 := Tryz.isAgg0
  z0 := Tryz.sizeOf0
  v0 := Tryz.zeroValue0
  i0 := by kernel_rfl
  t3 := Tryz.underlying3
  a3 := Tryz.isAgg3
  z3 := Tryz.sizeOf3
  v3 := Tryz.zeroValue3
  i3 := by kernel_rfl
  t4 := Tryz.underlying4
  a4 := Tryz.isAgg4
  z4 := Tryz.sizeOf4
  v4 := Tryz.zeroValue4
  i4 := by kernel_rfl
  t5 := Tryz.underlying5
  a5 := Tryz.isAgg5
  z5 := Tryz.sizeOf5
  v5 := Tryz.zeroValue5
  i5 := by kernel_rfl
  t22 := Tryz.underlying239
  a22 := Tryz.isAgg239
  z22 := Tryz.sizeOf239
  v22 := Tryz.zeroValue239
  i22 := by kernel_rfl
  t25 := Tryz.underlying213
  a25 := Tryz.isAgg213
  z25 := Tryz.sizeOf213
  v25 := Tryz.zeroValue213
  i25 := by kernel_rfl
  t27 := Tryz.underlying249
  a27 := Tryz.isAgg249
  z27 := Tryz.sizeOf249
  v27 := Tryz.zeroValue249
  i27 := by kernel_rfl
  t53 := Tryz.underlying253
  a53 := Tryz.isAgg253
  z53 := Tryz.sizeOf253
  v53 := Tryz.zeroValue253
  i53 := by kernel_rfl
  t54 := Tryz.underlying254
  a54 := Tryz.isAgg254
  z54 := Tryz.sizeOf254
  g0 := by kernel_rfl
  g1 := by kernel_rfl }
def Tryz.lays2n21_ren : Go.Shelf.Ren := ⟨fun | 21 => 119 | 27 => 185 | 28 => 186 | 35 => 239 | 39 => 256 | n => n, fun | 0 => 0 | 3 => 3 | 4 => 4 | 22 => 30 | n => n, fun | n => n⟩
theorem Tryz.lays2n21 : Go.Proofs.Lays2.n21 Tryz.prog Tryz.lays2n21_ren := {
  mixed := by kernel_rfl
  f21 := Tryz.func119.trans (congrArg some (by kernel_rfl))
  f27 := Tryz.func185.trans (congrArg some (by kernel_rfl))
  f28 := Tryz.func186.trans (congrArg some (by kernel_rfl))
  f35 := Tryz.func239.trans (congrArg some (by kernel_rfl))
  f39 := Tryz.func256.trans (congrArg some (by kernel_rfl))
  t0 := Tryz.underlying0
  a0 := Tryz.isAgg0
  z0 := Tryz.sizeOf0
  v0 := Tryz.zeroValue0
  t3 := Tryz.underlying3
  a3 := Tryz.isAgg3
  z3 := Tryz.sizeOf3
  v3 := Tryz.zeroValue3
  t4 := Tryz.underlying4
  a4 := Tryz.isAgg4
  z4 := Tryz.sizeOf4
  v4 := Tryz.zeroValue4
  t22 := Tryz.underlying30
  a22 := Tryz.isAgg30
  z22 := Tryz.sizeOf30
  v22 := Tryz.zeroValue30
  i3 := by kernel_rfl }
def Tryz.laysE041_ren : Go.Shelf.Ren := ⟨fun | 41 => 180 | n => n, fun | 22 => 22 | 23 => 37 | 4 => 4 | n => n, fun | n => n⟩
theorem Tryz.laysE041 : Go.Proofs.SlLaysE0.n41 Tryz.prog Tryz.laysE041_ren := {
  mixed := by kernel_rfl
  f41 := ⟨Tryz.f180.name, by decide, Tryz.func180.trans (congrArg some (by kernel_rfl))⟩
  t4 := Tryz.underlying4
  a4 := Tryz.isAgg4
  z4 := Tryz.sizeOf4
  v4 := Tryz.zeroValue4
  t22 := Tryz.underlying22
  a22 := Tryz.isAgg22
  z22 := Tryz.sizeOf22
  v22 := Tryz.zeroValue22 }

def Tryz.laysO10_ren : Go.Shelf.Ren := ⟨fun | 10 => 234 | 18 => 183 | 24 => 238 | n => n, fun | 0 => 0 | 3 => 3 | 4 => 4 | 22 => 30 | 24 => 3 | n => n, fun | n => n⟩
theorem Tryz.laysO10 : Go.Proofs.SlLaysO.n10 Tryz.prog Tryz.laysO10_ren := {
  mixed := by kernel_rfl
  f10 := ⟨Tryz.f234.name, by decide, Tryz.func234.trans (congrArg some (by kernel_rfl))⟩
  f18 := ⟨Tryz.f183.name, by decide, Tryz.func183.trans (congrArg some (by kernel_rfl))⟩
  f24 := ⟨Tryz.f238.name, by decide, Tryz.func238.trans (congrArg some (by kernel_rfl))⟩
  t0 := Tryz.underlying0
  a0 := Tryz.isAgg0
  z0 := Tryz.sizeOf0
  v0 := Tryz.zeroValue0
  t3 := Tryz.underlying3
  a3 := Tryz.isAgg3
  z3 := Tryz.sizeOf3
  v3 := Tryz.zeroValue3
  t4 := Tryz.underlying4
  a4 := Tryz.isAgg4
  z4 := Tryz.sizeOf4
  v4 := Tryz.zeroValue4
  t22 := Tryz.underlying30
  a22 := Tryz.isAgg30
  z22 := Tryz.sizeOf30
  v22 := Tryz.zeroValue30
  t24 := Tryz.underlying3
  a24 := Tryz.isAgg3
  z24 := Tryz.sizeOf3
  v24 := Tryz.zeroValue3 }

/-- The table of the library's is laid. -/
def Tab (w : World) : Prop := TabAt 2 Lib.deBruijn64tab w
theorem Tab.ext {w w' : World} (h : Tab w) (hb : Below w.heap.size w w') : Tab w' := fun j hj => (hb.cell (p := ⟨2, j, none⟩) (block_lt_of_cell (h j hj))).trans (h j hj)
theorem Tryz.trailing (x : Nat) (hx : x < 18446744073709551616) (w : World) (hT : Tab w) :
    Calls Tryz.prog 261 #[.int .u64 x] w fun e w' => e = .returned (.int .i64 (Lib.ctz 64 x)) ∧ w' = w :=
  Any7.bits_TrailingZeros Tryz.lays7n27 x hx w fun _ => hT

end Go.Proofs

/- slices.Insert of one number into a row of the call's own. -/
namespace Go.KK
open Go.RowKit
set_option linter.unusedVariables false
set_option linter.unusedSimpArgs false

/-- A list with another one stored over it. -/
def setL (L : List Value) : Nat → List Value → List Value
  | _, [] => L
  | o, v :: r => setL (L.set o v) (o + 1) r
theorem setL_len : ∀ (vs : List Value) (o : Nat) (L : List Value), (setL L o vs).length = L.length
  | [], _, _ => rfl
  | v :: r, o, L => by rw [setL, setL_len r]; simp
theorem setL_get : ∀ (vs : List Value) (o : Nat) (L : List Value) (j : Nat), o + vs.length ≤ L.length → (setL L o vs)[j]? = if o ≤ j ∧ j < o + vs.length then vs[j - o]? else L[j]?
  | [], o, L, j, h => by
    rw [setL, if_neg (show ¬ (o ≤ j ∧ j < o + ([] : List Value).length) by rw [List.length_nil]; omega)]
  | v :: r, o, L, j, h => by
    have h' : o + (r.length + 1) ≤ L.length := by simpa using h
    rw [setL, setL_get r (o + 1) (L.set o v) j (by simp; omega), List.length_cons]
    by_cases h1 : j = o
    · subst h1
      rw [if_neg (by omega), if_pos (by omega), List.getElem?_set_self (by omega), Nat.sub_self]; rfl
    · by_cases h2 : o ≤ j ∧ j < o + (r.length + 1)
      · rw [if_pos (by omega), if_pos h2, show j - o = (j - (o + 1)) + 1 by omega, List.getElem?_cons_succ]
      · rw [if_neg (by omega), if_neg h2, List.getElem?_set_ne (by omega)]

section
variable {w : World} {base : Nat} {e : TypeId} {g n cap : Nat} {xs : List Value}
theorem own_full (h : w.ownsRow base e 1 (.slice (some ⟨g, 0, none⟩) n cap) n xs) : ∃ L : List Value, w.ownsRow base e 1 (.slice (some ⟨g, 0, none⟩) cap cap) cap L ∧ L.length = cap ∧ L.take n = xs ∧ n ≤ cap ∧ cap ≤ maxLen := by
  rcases h.2 with ⟨h', _⟩ | ⟨g', cap', cur, h', hb, hg, hnc, hcm, hcs, htake⟩
  · simp at h'
  · simp only [Value.slice.injEq, Option.some.injEq, Addr.mk.injEq, and_true, true_and] at h'
    obtain ⟨rfl, rfl⟩ := h'
    have hl : cur.toList.length = cap := by simpa using hcs
    exact ⟨cur.toList, ⟨by rw [hl]; omega, .inr ⟨g, cap, cur, rfl, hb, hg, Nat.le_refl _, hcm, hcs, List.take_of_length_le (by omega)⟩⟩, hl, by rw [← htake]; simp, hnc, hcm⟩
theorem own_part {L : List Value} (h : w.ownsRow base e 1 (.slice (some ⟨g, 0, none⟩) cap cap) cap L) (hn : n ≤ cap) : w.ownsRow base e 1 (.slice (some ⟨g, 0, none⟩) n cap) n (L.take n) := by
  rcases h.2 with ⟨h', _⟩ | ⟨g', cap', cur, h', hb, hg, hnc, hcm, hcs, htake⟩
  · simp at h'
  · simp only [Value.slice.injEq, Option.some.injEq, Addr.mk.injEq, and_true, true_and] at h'
    obtain ⟨rfl, rfl⟩ := h'
    have hl : cur.toList.length = cap := by simpa using hcs
    have hL : L = cur.toList := by rw [← htake]; exact List.take_of_length_le (by omega)
    subst hL
    exact ⟨by rw [List.length_take, hl, Nat.min_eq_left hn]; omega, .inr ⟨g, cap, cur, rfl, hb, hg, hn, hcm, hcs, by rw [Nat.mul_one]⟩⟩
theorem own_made {cur : Array Value} (hb : base ≤ w.heap.size) (hm : cap ≤ maxLen) (hs : cur.size = cap) :
    (w.alloc (.cells cur e)).ownsRow base e 1 (.slice (some ⟨w.heap.size, 0, none⟩) cap cap) cap cur.toList :=
  ⟨by simpa using hs, .inr ⟨w.heap.size, cap, cur, rfl, hb, heap_alloc_new w _, Nat.le_refl _, hm, by omega, List.take_of_length_le (by simpa using by omega)⟩⟩
theorem own_setCells : ∀ (vs : List Value) (o : Nat) (w : World) (L : List Value), w.ownsRow base e 1 (.slice (some ⟨g, 0, none⟩) n cap) n L → (w.setCells g o vs).ownsRow base e 1 (.slice (some ⟨g, 0, none⟩) n cap) n (setL L o vs)
  | [], _, _, _, h => h
  | v :: r, o, w, L, h => by
    rw [World.setCells, setL]
    exact own_setCells r (o + 1) _ _ (h.stored o v).1
end
theorem grown_setCells {a : World} {g : Nat} : ∀ (vs : List Value) (o : Nat) (w : World), a.grownBy w (some g) → a.grownBy (w.setCells g o vs) (some g)
  | [], _, _, h => h
  | v :: r, o, w, h => by
    rw [World.setCells]
    exact grown_setCells r (o + 1) _ ⟨h.os, h.tape, h.output, by simpa [World.setCell] using h.size, fun i hi hne => (Below.heap_setCell w ⟨g, o, none⟩ v i (by rintro rfl; exact hne rfl)).trans (h.block i hi hne)⟩
theorem grown_drew {a w : World} {r : Option Nat} (h : a.grownBy w r) : a.grownBy w.drew r := ⟨h.os, h.tape, h.output, h.size, h.block⟩
theorem grown_undrew {a w : World} {r : Option Nat} (h : a.drew.grownBy w r) : a.grownBy w r := ⟨h.os, h.tape, h.output, h.size, h.block⟩
/-- A number put in at its place. -/
def insL (u : List Int) (i : Nat) (x : Int) : List Int := u.take i ++ x :: u.drop i
theorem insL_len (u : List Int) (i : Nat) (x : Int) (h : i ≤ u.length) : (insL u i x).length = u.length + 1 := by
  unfold insL; simp; omega
theorem insL_get {u : List Int} {i : Nat} (x : Int) (h : i ≤ u.length) (j : Nat) : ((insL u i x).map (Value.int .i64))[j]? = if j < i then (u.map (Value.int .i64))[j]? else if j = i then some (Value.int .i64 x) else (u.map (Value.int .i64))[j - 1]? := by
  unfold insL
  rw [List.map_append, List.map_cons, List.map_take, List.map_drop]
  have hl : ((u.map (Value.int .i64)).take i).length = i := by simp; omega
  by_cases h1 : j < i
  · rw [if_pos h1, List.getElem?_append_left (by omega), List.getElem?_take, if_pos h1]
  · rw [if_neg h1, List.getElem?_append_right (by omega), hl]
    by_cases h2 : j = i
    · subst h2; simp
    · rw [if_neg h2, show j - i = (j - 1 - i) + 1 by omega, List.getElem?_cons_succ, List.getElem?_drop, show i + (j - 1 - i) = j - 1 by omega]

end Go.KK
namespace Go.Proofs
open Go.Shelf Go.RowKit Go.KK
theorem zero_size (n : Nat) : (Builtin.zeroCells (Value.int .i64 0).cells n).size = n := by rw [size_zeroCells]; show n * 1 = n; omega
set_option maxHeartbeats 1000000 in
/-- Insert of one number into a row of the call's own. -/
theorem Tryz.insert_own (base : Nat) (q : Value) (u : List Int) (i : Nat) (x : Int) (vb : Nat) (T : TypeId) (w : World) (h : w.ownsRow base 3 1 q u.length (u.map (.int .i64))) (hi : i ≤ u.length) (hbig : u.length ≤ 2147483648)
    (hv : w.heap[vb]? = some (.cells #[.int .i64 x] T (0, 0))) (hne : q.ownBlock ≠ some vb) (hbase : base ≤ w.heap.size) :
    Calls Tryz.prog 119 #[q, .int .i64 i, .slice (some ⟨vb, 0, none⟩) 1 1] w fun e w' => ∃ q', e = .returned q' ∧ w'.ownsRow base 3 1 q' (u.length + 1) ((insL u i x).map (.int .i64)) ∧ w.grownBy w' q.ownBlock ∧ (q'.ownBlock = q.ownBlock ∨ q'.ownBlock = some w.heap.size) := by
  have hvs : ∀ (j : Nat) v, [Value.int .i64 x][j]? = some v → w.cell? ⟨vb, 0 + j, none⟩ = some v := by
    intro j v hj
    rcases j with _ | j
    · rw [cell_of_row w vb _ _ T (0, 0) hv]; simpa using hj
    · simp at hj
  have h1v : ∀ v ∈ [Value.int .i64 x], v.oneCell' = true := one_int _ x
  have hil := insL_len u i x hi
  have gl : ∀ L : List Value, L.length = u.length + 1 → (∀ j, j < u.length + 1 → L[j]? = ((insL u i x).map (Value.int .i64))[j]?) → L = (insL u i x).map (Value.int .i64) := by
    intro L hL hg
    apply List.ext_getElem?
    intro j
    by_cases hj : j < u.length + 1
    · exact hg j hj
    · rw [List.getElem?_eq_none (by omega), List.getElem?_eq_none (by simp; omega)]
  -- a new row
  have newrow : ∀ (W : World) (L : List Value) (cap : Nat), W.ownsRow base 3 1 (.slice (some ⟨w.heap.size, 0, none⟩) cap cap) cap L → u.length + 1 ≤ cap → L.take (u.length + 1) = (insL u i x).map (Value.int .i64) → W.ownsRow base 3 1 (.slice (some ⟨w.heap.size, 0, none⟩) (u.length + 1) cap) (u.length + 1) ((insL u i x).map (.int .i64)) := by
    intro W L cap ho hc hl
    rw [← hl]
    exact own_part ho hc
  have endgrow : ∀ (b : Option Addr) (c : Nat), q = .slice b u.length c → i = u.length → u.length ≤ c → c < u.length + 1 → (b = none → u.length = 0) → (∀ a, b = some a → ∀ (j : Nat) v, (u.map (Value.int .i64))[j]? = some v → w.cell? (a.add j) = some v) →
      Calls Tryz.prog 119 #[q, .int .i64 i, .slice (some ⟨vb, 0, none⟩) 1 1] w fun e w' => ∃ q', e = .returned q' ∧ w'.ownsRow base 3 1 q' (u.length + 1) ((insL u i x).map (.int .i64)) ∧ w.grownBy w' q.ownBlock ∧ (q'.ownBlock = q.ownBlock ∨ q'.ownBlock = some w.heap.size) := by
    intro b c hq hiu hc1 hc2 hnil hcs
    have hg1 := grownCap_ge w (u.length + 1) c 3
    have hg2 := grownCap_le_maxLen w (u.length + 1) c 3 (by unfold maxLen; omega)
    have key := Any2.slices_Insert_int_end_grow Tryz.lays2n21 b u.length c vb 0 1 1 (u.map (.int .i64)) [.int .i64 x] w (by omega) hc1 hc2 (by omega) (by simp) rfl hnil hcs hvs h1v
    rw [hq, hiu]
    refine key.mono ?_
    rintro e w' ⟨rfl, rfl⟩
    refine ⟨_, rfl, ?_, grown_undrew (World.grownBy_alloc w.drew _ _), .inr rfl⟩
    have hsz : ((u.map (Value.int .i64) ++ [Value.int .i64 x]).toArray ++ Builtin.zeroCells (Value.int .i64 0).cells (grownCap w (u.length + 1) c 3 - (u.length + 1))).size = grownCap w (u.length + 1) c 3 := by
      rw [Array.size_append, zero_size]; simp; omega
    have ho := own_made (w := w.drew) (base := base) (e := 3) (cap := grownCap w (u.length + 1) c 3) hbase hg2 hsz
    have := own_part ho hg1
    have ht : (((u.map (Value.int .i64) ++ [Value.int .i64 x]).toArray ++ Builtin.zeroCells (Value.int .i64 0).cells (grownCap w (u.length + 1) c 3 - (u.length + 1))).toList).take (u.length + 1) = (insL u u.length x).map (Value.int .i64) := by
      rw [Array.toList_append, List.take_append_of_le_length (by simp), List.take_of_length_le (by simp)]
      simp [insL]
    rw [ht] at this
    exact this
  rcases h.2 with ⟨hq, hn0⟩ | ⟨g, cap, cur, hq, hb, hg, hnc, hcm, hcs, htake⟩
  · refine endgrow none 0 (by rw [hq, hn0]) (by omega) (by omega) (by omega) (fun _ => hn0) (fun a ha => by cases ha)
  · have hown := h
    rw [hq] at hown
    have hcells : ∀ (j : Nat) v, (u.map (Value.int .i64))[j]? = some v → w.cell? ⟨g, 0 + j, none⟩ = some v := by
      intro j v hj
      have hju : j < u.length := by
        rcases Nat.lt_or_ge j u.length with hh | hh
        · exact hh
        · rw [List.getElem?_eq_none (by simpa using hh)] at hj; cases hj
      rw [Nat.zero_add, hown.cellAt j (by omega)]; exact hj
    obtain ⟨L, hL1, hL2, hL3, hL4, hL5⟩ := own_full hown
    have hLg : ∀ j, j < u.length → L[j]? = (u.map (Value.int .i64))[j]? := by
      intro j hj
      rw [← hL3, List.getElem?_take, if_pos hj]
    have hgl : g < w.heap.size := (Array.getElem?_eq_some_iff.1 hg).1
    by_cases hroom : u.length + 1 ≤ cap
    · have hsp : ∀ j, j < u.length + 1 → (w.cell? ⟨g, 0 + j, none⟩).isSome = true := by
        intro j hj
        rw [Nat.zero_add, cell_of_row w g j cur 3 (0, 0) hg, Array.getElem?_eq_getElem (by omega)]; rfl
      have hfz : ∀ j, w.frozen? ⟨g, j, none⟩ = false := fun j => frozen_of_row w g j cur 3 hg
      by_cases hin : i < u.length
      · have hgv : vb ≠ g := fun e => hne (by rw [hq, e]; rfl)
        have hsa : w.shape? vb = some (T, 1) := by unfold World.shape?; rw [hv]; rfl
        have hsb : w.shape? g = some (3, cap) := by unfold World.shape?; rw [hg]; simp [hcs]
        have key := Any2.slices_Insert_int_shift Tryz.lays2n21 g 0 u.length cap i vb 0 1 1 (u.map (.int .i64)) [.int .i64 x] w hin (by omega) hroom hcm hgv (by simp) rfl hcells hsp (fun j _ => hfz _) hvs (ints_one _ _) h1v T 3 1 cap hsa hsb (by omega) (frozen_of_row w vb _ _ T hv) (frozen_of_row w vb _ _ T hv)
        rw [hq]
        refine key.mono ?_
        rintro e w' ⟨rfl, rfl⟩
        refine ⟨_, rfl, ?_, grown_setCells _ _ _ (grown_setCells _ _ _ (grown_drew (World.grownBy.refl _ _))), .inl rfl⟩
        have ho := own_setCells [.int .i64 x] (0 + i) _ _ (own_setCells ((u.map (.int .i64)).drop i) (0 + (i + 1)) _ _ (show w.drew.ownsRow base 3 1 _ cap L from hL1))
        have := own_part ho hroom
        have ht : (setL (setL L (0 + (i + 1)) ((u.map (Value.int .i64)).drop i)) (0 + i) [.int .i64 x]).take (u.length + 1) = (insL u i x).map (Value.int .i64) := by
          refine gl _ (by simp [setL_len]; omega) fun j hj => ?_
          rw [List.getElem?_take, if_pos hj, setL_get _ _ _ _ (by rw [setL_len]; simp; omega), setL_get _ _ _ _ (by simp; omega), insL_get x hi]
          by_cases c1 : j < i
          · rw [if_neg (by simp; omega), if_neg (by simp; omega), if_pos c1, hLg j (by omega)]
          · by_cases c2 : j = i
            · subst c2
              rw [if_pos (by simp), if_neg c1, if_pos rfl]; simp
            · rw [if_neg (by simp; omega), if_pos (by simp; omega), if_neg c1, if_neg c2, List.getElem?_drop, show i + (j - (0 + (i + 1))) = j - 1 by omega]
        rw [ht] at this
        exact this
      · have hiu : i = u.length := by omega
        have key := Any2.slices_Insert_int_end_room Tryz.lays2n21 g 0 u.length cap vb 0 1 1 [.int .i64 x] w (by omega) hroom hcm rfl (fun j hj => by rw [Nat.zero_add]; have := hsp (u.length + j) (by omega); rwa [Nat.zero_add] at this) (fun j _ => hfz _) hvs h1v
        rw [hq, hiu]
        refine key.mono ?_
        rintro e w' ⟨rfl, rfl⟩
        refine ⟨_, rfl, ?_, grown_setCells _ _ _ (World.grownBy.refl _ _), .inl rfl⟩
        have ho := own_setCells [.int .i64 x] (0 + u.length) _ _ hL1
        have := own_part ho hroom
        have ht : (setL L (0 + u.length) [.int .i64 x]).take (u.length + 1) = (insL u u.length x).map (Value.int .i64) := by
          rw [hiu] at gl
          refine gl _ (by simp [setL_len]; omega) fun j hj => ?_
          rw [List.getElem?_take, if_pos hj, setL_get _ _ _ _ (by simp; omega), insL_get x (Nat.le_refl _)]
          by_cases c1 : j < u.length
          · rw [if_neg (by simp; omega), if_pos c1, hLg j (by omega)]
          · have : j = u.length := by omega
            subst this
            rw [if_pos (by simp), if_neg c1, if_pos rfl]; simp
        rw [ht] at this
        exact this
    · by_cases hin : i < u.length
      · have hg1 := grownCap_ge w (u.length + 1) cap 3
        have hg2 := grownCap_le_maxLen w (u.length + 1) cap 3 (by unfold maxLen; omega)
        have key := Any2.slices_Insert_int_grow Tryz.lays2n21 g 0 u.length cap i vb 0 1 1 (u.map (.int .i64)) [.int .i64 x] w hin (by omega) hnc (by omega) (by omega) (by simp) rfl hcells hvs (ints_one _ _) h1v
        rw [hq]
        refine key.mono ?_
        rintro e w' ⟨rfl, rfl⟩
        have hsz : (((u.map (Value.int .i64)).take i).toArray ++ Builtin.zeroCells (Value.int .i64 0).cells (u.length + 1 - i) ++ Builtin.zeroCells (Value.int .i64 0).cells (grownCap w (u.length + 1) cap 3 - (u.length + 1))).size = grownCap w (u.length + 1) cap 3 := by
          rw [Array.size_append, Array.size_append, zero_size, zero_size]; simp; omega
        have ho := own_made (w := w) (base := base) (e := 3) (cap := grownCap w (u.length + 1) cap 3) hbase hg2 hsz
        have ho2 := own_setCells ((u.map (.int .i64)).drop i) (i + 1) _ _ (show (((w.alloc _).drew.setCells w.heap.size i [Value.int .i64 x]).drew).ownsRow base 3 1 _ _ _ from own_setCells [.int .i64 x] i _ _ (show (w.alloc _).drew.ownsRow base 3 1 _ _ _ from ho))
        have := own_part ho2 hg1
        refine ⟨_, rfl, ?_, ?_, .inr rfl⟩
        · have ht : (setL (setL (((u.map (Value.int .i64)).take i).toArray ++ Builtin.zeroCells (Value.int .i64 0).cells (u.length + 1 - i) ++ Builtin.zeroCells (Value.int .i64 0).cells (grownCap w (u.length + 1) cap 3 - (u.length + 1))).toList i [.int .i64 x]) (i + 1) ((u.map (Value.int .i64)).drop i)).take (u.length + 1) = (insL u i x).map (Value.int .i64) := by
            have hsl := hsz
            rw [← Array.length_toList] at hsl
            refine gl _ (by rw [List.length_take, setL_len, setL_len, hsl]; omega) fun j hj => ?_
            rw [List.getElem?_take, if_pos hj, setL_get _ _ _ _ (by rw [setL_len, hsl]; simp; omega), setL_get _ _ _ _ (by rw [hsl]; simp; omega), insL_get x hi]
            by_cases c1 : j < i
            · rw [if_neg (by simp; omega), if_neg (by simp; omega), if_pos c1, Array.toList_append, Array.toList_append, List.append_assoc, List.getElem?_append_left (by simp; omega)]
              show ((u.map (Value.int .i64)).take i)[j]? = _
              rw [List.getElem?_take, if_pos c1]
            · by_cases c2 : j = i
              · subst c2
                rw [if_neg (by omega), if_pos (by simp), if_neg c1, if_pos rfl, Nat.sub_self]; rfl
              · rw [if_pos (by simp; omega), if_neg c1, if_neg c2, List.getElem?_drop, show i + (j - (i + 1)) = j - 1 by omega]
          rw [ht] at this
          exact this
        · have g1 : ∀ W : World, w.grownBy W none → w.grownBy W (some g) := fun W hW => ⟨hW.os, hW.tape, hW.output, hW.size, fun k hk _ => hW.block k hk (by simp)⟩
          refine g1 _ ?_
          have far : ∀ (vs : List Value) (o : Nat) (W : World), w.grownBy W none → w.grownBy (W.setCells w.heap.size o vs) none := by
            intro vs
            induction vs with
            | nil => intro o W hW; exact hW
            | cons v r ih =>
              intro o W hW
              rw [World.setCells]
              exact ih _ _ ⟨hW.os, hW.tape, hW.output, by simpa [World.setCell] using hW.size, fun k hk hn => (Below.heap_setCell W ⟨w.heap.size, o, none⟩ v k (show k ≠ w.heap.size by omega)).trans (hW.block k hk hn)⟩
          exact far _ _ _ (grown_drew (far _ _ _ (grown_drew (World.grownBy_alloc w _ none))))
      · refine endgrow (some ⟨g, 0, none⟩) cap hq (by omega) hnc (by omega) (fun e => by cases e) (fun a ha j v hj => ?_)
        injection ha with ha
        subst ha
        rw [add_lit]
        exact hcells j v hj
end Go.Proofs

