import Derived.Test.YtekfjcaihocmmaaGreatDoorY04
import Derived.Test.YtekfjcaihocmmaaGreatDoorY03
import Derived.Test.YtekfjcaihocmmaaGreatDoorY01
import Derived.RegionTactic
import Derived.Deep.RegionLaw
import Derived.BigQuiet
import Derived.Test.YtekfjcaihocmmaaGreatDoorY02
import Derived.Deep.RegionHeld3
import Derived.Deep.DeepCutAuto
import Derived.Deep.RegionHeldLaw
import Derived.Deep.QuietTactic
/- the document's term: a node's text among others. -/
namespace Go.Proofs.YtekfjcaihocmmaaGreatDoor
open Go.RowKit Go.KK Go.Shelf
set_option linter.unusedVariables false
set_option linter.unusedSimpArgs false

theorem digits_q (n : Int) (w : World) (h0 : 0 ≤ n) (h : n ≤ 9223372036854775807) : Calls Tryz.prog 66 #[.int .i64 n] w fun e w' => e = .returned (.string (digS n.toNat)) ∧ ∃ m, w' = w.drewN m := digits_any n w h0 h
theorem digS_itoa {n : Int} (h : 0 ≤ n) : (digS n.toNat).data.toList = Lib.itoa n := by rw [itoa_nat h]; rfl
theorem digS_sz (n : Int) (h : n ≤ 9223372036854775807) : (digS n.toNat).size ≤ 21 := digS_le _ (by omega)
/-- A text and what is behind it. -/
def TxR (L : List UInt8) (l : List Int) (j : Nat) (S : ByteArray) : Prop := S.data.toList = L ++ joinB (l.take j) ∧ S.size ≤ 300 + 22 * j
set_option maxHeartbeats 4000000 in
set_option maxRecDepth 20000 in
theorem text_any (x : ND) (A : Option Addr) (c : Nat) (w : World) (hl : SlA w 1 A x.l.length c (x.l.map (.int .i64))) (hn : x.l.length ≤ 64) (ho0 : 0 ≤ x.o) (ho : I64 x.o) (hn0 : 0 ≤ x.n) (hn64 : I64 x.n) (hl0 : ∀ i ∈ x.l, 0 ≤ i) (hli : ∀ i ∈ x.l, I64 i) (hs : x.s.size ≤ 200) :
    Calls Tryz.prog 160 #[.agg #[.int .i64 x.o, .int .i64 x.n, .string x.s, .slice A x.l.length c]] w fun e w' => ∃ K : ByteArray, e = .returned (.string K) ∧ K.data.toList = keyR x ∧ Below w.heap.size w w' := by
  have HS := hid hl
  have B0 := hid (show Below w.heap.size w (w.alloc (.cells #[.int .i64 x.o, .int .i64 x.n, .string x.s, .slice A x.l.length c] 92)) from (Below.refl _ _).alloc (Nat.le_refl _) _)
  have HS1 := hid (hl.ext B0.out)
  have C0 := hid (show let W := w.alloc (.cells #[.int .i64 x.o, .int .i64 x.n, .string x.s, .slice A x.l.length c] 92)
    W.cell? ⟨w.heap.size, 0, none⟩ = some (.int .i64 x.o) ∧ W.cell? ⟨w.heap.size, 1, none⟩ = some (.int .i64 x.n) ∧ W.cell? ⟨w.heap.size, 2, none⟩ = some (.string x.s) ∧ W.cell? ⟨w.heap.size, 3, none⟩ = some (.slice A x.l.length c) by
      refine ⟨?_, ?_, ?_, ?_⟩
      all_goals (rw [World.cell?_alloc_at _ _ _ _ rfl]; rfl))
  have HLI := hid (fun i (h : i ∈ x.l) => And.intro (hl0 i h) (hli i h).2)
  have z1 := digS_sz x.o ho.2
  have z2 := digS_sz x.n hn64.2
  have z3 := digS_sz x.s.size (by omega)
  have e1 := digS_itoa ho0
  have e2 := digS_itoa hn0
  have e3 := digS_itoa (n := (x.s.size : Nat)) (by omega)
  have HQ1 := hid (fun (W : World) => digits_q x.o W ho0 ho.2)
  have HQ2 := hid (fun (W : World) => digits_q x.n W hn0 hn64.2)
  have HQ3 := hid (fun (W : World) => digits_q (x.s.size : Nat) W (by omega) (by omega))
  have HKR := hid (show keyR x = Lib.itoa x.o ++ 32 :: (Lib.itoa x.n ++ 32 :: (Lib.itoa x.s.size ++ 32 :: (x.s.data.toList ++ joinB x.l))) from rfl)
  generalize hd1 : digS x.o.toNat = d1 at *
  generalize hd2 : digS x.n.toNat = d2 at *
  generalize hd3 : digS ((x.s.size : Nat) : Int).toNat = d3 at *
  have k1 : ¬ 9223372036854775807 < d1.size + 1 := by omega
  have k2 : ¬ 9223372036854775807 < d1.size + 1 + d2.size := by omega
  have k3 : ¬ 9223372036854775807 < d1.size + 1 + d2.size + 1 := by omega
  have k4 : ¬ 9223372036854775807 < d1.size + 1 + d2.size + 1 + d3.size := by omega
  have k5 : ¬ 9223372036854775807 < d1.size + 1 + d2.size + 1 + d3.size + 1 := by omega
  have k6 : ¬ 9223372036854775807 < d1.size + 1 + d2.size + 1 + d3.size + 1 + x.s.size := by omega
  have HT := hid (show TxR (Lib.itoa x.o ++ 32 :: (Lib.itoa x.n ++ 32 :: (Lib.itoa x.s.size ++ 32 :: x.s.data.toList))) x.l 0 (d1 ++ ⟨#[32]⟩ ++ d2 ++ ⟨#[32]⟩ ++ d3 ++ ⟨#[32]⟩ ++ x.s) by
    refine ⟨?_, ?_⟩
    · simp only [ByteArray.data_append, Array.toList_append, e1, e2, e3, List.take_zero]
      simp [joinB]
    · simp only [ByteArray.size_append]
      have : (⟨#[32]⟩ : ByteArray).size = 1 := rfl
      omega)
  clear hl ho0 ho hn0 hn64 hl0 hli e1 e2 e3 hd1 hd2 hd3 z1 z2 z3
  go_enter Tryz.func160, Tryz.ntmps160
  go_upto_region 1 with fail
  obtain ⟨c0, c1, c2, c3⟩ := C0.out
  generalize w.alloc (.cells #[.int .i64 x.o, .int .i64 x.n, .string x.s, .slice A x.l.length c] 92) = W0 at *
  go_quiet (first
    | (go_at_call 66; with_reducible exact Calls.quiet_of (HQ1.out _))
    | (go_at_call 66; with_reducible exact Calls.quiet_of (HQ2.out _))
    | (go_at_call 66; with_reducible exact Calls.quiet_of (HQ3.out _)))
  generalize d1 ++ ⟨#[32]⟩ ++ d2 ++ ⟨#[32]⟩ ++ d3 ++ ⟨#[32]⟩ ++ x.s = S0 at *
  clear k1 k2 k3 k4 k5 k6
  go_wp2_with fail
  generalize hLL : Lib.itoa x.o ++ 32 :: (Lib.itoa x.n ++ 32 :: (Lib.itoa x.s.size ++ 32 :: x.s.data.toList)) = LL at *
  have HLL := hid hLL
  clear hLL HQ1 HQ2 HQ3 c0 c1 c2 c3 C0
  go_loopw [27, 3] (fun i v wr => ∃ (j : Nat) (S : ByteArray), i = .int .i64 j ∧ v = .string S ∧ j ≤ x.l.length ∧ TxR LL x.l j S ∧ ∃ q, wr = W0.drewN q) (fun i _ _ => x.l.length - (intOf i).toNat)
  case atStart => exact ⟨0, S0, rfl, rfl, Nat.zero_le _, HT.out, _, rfl⟩
  case round =>
    obtain ⟨j, S, hi, hv, hj, ht, q, hw⟩ := hrel
    subst hi; subst hv; subst hw
    have HTS := hid ht
    clear ht
    by_cases hlt : j < x.l.length
    · obtain ⟨b2, o2, z, hA, hz, hc⟩ := (HS1.out.drewN q).elemI hlt
      subst hA
      have HZ := hid hz
      obtain ⟨hz0, hz1⟩ := HLI.out z (List.mem_of_getElem? hz)
      have hzs := digS_sz z hz1
      have hze := digS_itoa hz0
      have HQ := hid (fun (W : World) => digits_q z W hz0 hz1)
      have HZE := hid hze
      have hsz := HTS.out.2
      generalize hdz : digS z.toNat = dz at *
      have k1 : ¬ 9223372036854775807 < 1 + dz.size := by omega
      have k2 : ¬ 9223372036854775807 < S.size + (1 + dz.size) := by omega
      have HT2 := hid (show TxR LL x.l (j + 1) (S ++ (⟨#[32]⟩ ++ dz)) by
        refine ⟨?_, ?_⟩
        · rw [ByteArray.data_append, ByteArray.data_append, Array.toList_append, Array.toList_append, HTS.out.1, hze, take_snoc hz, joinB_snoc]
          simp
        · simp only [ByteArray.size_append]
          have : (⟨#[32]⟩ : ByteArray).size = 1 := rfl
          omega)
      clear hz hze hdz hzs hsz
      go_wp2_with fail
      refine (HQ.out _).mono ?_
      rintro e1 w1 ⟨rfl, q1, hw1⟩
      rw [World.drewN_drewN] at hw1
      subst hw1
      go_wp2_with fail
      go_roundw
      case rel => exact ⟨j + 1, _, by go_num, rfl, by omega, HT2.out, _, rfl⟩
      case measure => simp [intOf]; omega
    · have HTK := hid (show S.data.toList = keyR x by
        rw [HTS.out.1, List.take_of_length_le (by omega), ← HLL.out, HKR.out]
        simp)
      go_wp2_with fail
      go_ret
      exact ⟨_, rfl, HTK.out, below_drewN B0.out _⟩
end Go.Proofs.YtekfjcaihocmmaaGreatDoor

/- the document's term: a node is made. -/
namespace Go.KK
open Go.RowKit Go.Maps
set_option linter.unusedVariables false
set_option linter.unusedSimpArgs false
end Go.KK
namespace Go.Proofs.YtekfjcaihocmmaaGreatDoor
open Go.RowKit Go.KK Go.Shelf Go.Maps Go.ChangeMaps

/-- What a call that makes a node leaves. -/
def MakR (w : World) (Z : Nat → Prop) (st mp : Nat) (xs : List ND) (w' : World) : Prop := ∃ Z' v' qs', ArR w' Z' st mp v' xs qs' ∧ Turn Z w w' ∧ ∀ b, Z' b → Z b ∨ w.heap.size ≤ b
theorem makR_below {w w' : World} {Z : Nat → Prop} {st mp : Nat} {v : Value} {xs : List ND} {qs : List Value} (h : ArR w Z st mp v xs qs) (hb : Below w.heap.size w w') : MakR w Z st mp xs w' :=
  ⟨Z, v, qs, h.ext hb, .of_below hb, fun _ h => .inl h⟩
theorem rmake_done {w W W1 w4 w6 : World} {Z : Nat → Prop} {st mp : Nat} {v v4 q : Value} {xs : List ND} {qs : List Value} {x : ND} {D : MD} {b2 : Nat} (h : ArR w Z st mp v xs qs) (hB : Below w.heap.size w W) (hb1 : ∀ b, b < W.heap.size → W1.heap[b]? = W.heap[b]?) (hs1 : W.heap.size ≤ W1.heap.size)
    (hot : W1.os = W.os ∧ W1.tape = W.tape ∧ W1.output = W.output)
    (hq : W.ownsRow b2 3 1 q x.l.length (x.l.map (.int .i64))) (hb2 : w.heap.size < b2) (hg4 : W1.grownBy w4 v.ownBlock) (h4 : w4.ownsRow 0 92 4 v4 (xs.length + 1) (nds xs qs ++ x.cells q)) (hl4 : v4.ownBlock = v.ownBlock ∨ v4.ownBlock = some W1.heap.size)
    (hbx : w4.heap[st]? = some (.cells #[v, .map (some mp)] 122 (0, 0))) (hm : w6.ownsMap Tryz.prog 9 (plainElem Tryz.prog 3) mp (xs.length + 1) D) (hmo : MapOk keyR (xs ++ [x]) D) (hok : Okay (xs ++ [x]))
    (hg6 : (w4.setCell ⟨st, 0, none⟩ v4).grownBy w6 (some mp)) : MakR w Z st mp (xs ++ [x]) w6 := by
  have hzl := h.zlt
  have l1 := hzl _ h.zst
  have l2 := hzl _ h.zmp.1
  have hmne := h.zmp.2
  have s1 := hB.size
  have s4 := hg4.size
  have s5 : (w4.setCell ⟨st, 0, none⟩ v4).heap.size = w4.heap.size := by simp
  have s6 := hg6.size
  rw [s5] at s6
  have hne : some st ≠ v.ownBlock := fun e => (h.zv st e.symm).2.1 rfl
  have box6 : w6.heap[st]? = some (.cells #[v4, .map (some mp)] 122 (0, 0)) := by
    rw [hg6.block st (by rw [s5]; omega) (by intro e; injection e with e; exact hmne e.symm), heap_setCell_same w4 st 0 _ _ v4 hbx]
    rfl
  have step : ∀ b, b < w4.heap.size → b ≠ st → b ≠ mp → w6.heap[b]? = w4.heap[b]? := fun b hb h1 h2 => by
    rw [hg6.block b (by rw [s5]; exact hb) (by intro e; injection e with e; exact h2 e), Below.heap_setCell w4 ⟨st, 0, none⟩ v4 b h1]
  have hv4 : v4.ownBlock = v.ownBlock ∨ ∀ b, v4.ownBlock = some b → w.heap.size ≤ b ∧ b < w6.heap.size := by
    rcases hl4 with e | e
    · exact .inl e
    · refine .inr fun b hb => ?_
      have hlt := (h4.lt b hb).2
      rw [e] at hb
      injection hb with hb
      omega
  have vlt : ∀ b, v4.ownBlock = some b → b < w4.heap.size ∧ b ≠ st ∧ b ≠ mp := fun b hb => by
    refine ⟨(h4.lt b hb).2, ?_⟩
    rcases hl4 with e | e
    · have := h.zv b (e ▸ hb); exact ⟨this.2.1, this.2.2⟩
    · rw [e] at hb; injection hb with hb; omega
  have hqk : ∀ b, q.ownBlock = some b → b2 ≤ b ∧ b < W.heap.size ∧ w6.heap[b]? = W.heap[b]? := fun b hb => by
    obtain ⟨q1, q2⟩ := hq.lt b hb
    refine ⟨q1, q2, ?_⟩
    rw [step b (by omega) (by omega) (by omega), hg4.block b (by omega) (fun e => by have := (h.zv b e.symm).1; have := hzl b this; omega), hb1 b q2]
  have hold : ∀ b, b < w.heap.size → b ≠ st → b ≠ mp → v.ownBlock ≠ some b → w6.heap[b]? = w.heap[b]? := fun b hb h1 h2 h3 => by
    rw [step b (by omega) h1 h2, hg4.block b (by omega) (fun e => h3 e.symm), hb1 b (by omega), hB.block b hb]
  have row6 : w6.ownsRow 0 92 4 v4 (xs.length + 1) (nds xs qs ++ x.cells q) := own_block h4 fun b hb => by
    obtain ⟨a1, a2, a3⟩ := vlt b hb
    exact step b a1 a2 a3
  obtain ⟨Aq, cq, hqe, -⟩ := SlA.owned hq
  have hq6 : In1 w6 q x.l := by
    have := own_block hq (w' := w6) fun b hb => (hqk b hb).2.2
    obtain ⟨A', c', e', hs'⟩ := SlA.owned this
    exact ⟨A', c', e', hs'⟩
  have hP := h.push (w' := w6) (v' := v4) (q := q) (x := x) (D := D) hok box6 row6 hv4 hq6 (fun hne' b hb => by
    obtain ⟨a1, a2, a3⟩ := hqk b hb
    refine ⟨by omega, by omega, fun e => ?_⟩
    rcases hl4 with e4 | e4
    · have := (h.zv b (e4 ▸ e)).1; have := hzl b this; omega
    · rw [e4] at e; injection e with e; omega) hm hmo (fun b hz h1 h2 h3 => hold b (hzl b hz) h1 h2 h3) (by omega)
  refine ⟨_, v4, _, hP, ⟨?_, ?_, ?_, by omega, fun b hb hz => hold b hb (fun e => hz (e ▸ h.zst)) (fun e => hz (e ▸ h.zmp.1)) (fun e => hz (h.zv b e).1)⟩, fun b hb => ?_⟩
  · rw [hg6.os, show (w4.setCell ⟨st, 0, none⟩ v4).os = w4.os from (Turn.setCell (F := fun _ => True) (w := w4) (a := ⟨st, 0, none⟩) v4 (.inl trivial)).os, hg4.os, hot.1, hB.os]
  · rw [hg6.tape, show (w4.setCell ⟨st, 0, none⟩ v4).tape = w4.tape from (Turn.setCell (F := fun _ => True) (w := w4) (a := ⟨st, 0, none⟩) v4 (.inl trivial)).tape, hg4.tape, hot.2.1, hB.tape]
  · rw [hg6.output, show (w4.setCell ⟨st, 0, none⟩ v4).output = w4.output from (Turn.setCell (F := fun _ => True) (w := w4) (a := ⟨st, 0, none⟩) v4 (.inl trivial)).output, hg4.output, hot.2.2, hB.output]
  · rcases hb with hb | hb
    · exact .inl hb
    · exact .inr hb.1
section
variable (Z : Nat → Prop) (st mp : Nat) (v : Value) (xs : List ND) (qs : List Value) (x : ND) (A : Option Addr) (c : Nat) (w : World)
set_option maxHeartbeats 1000000 in
theorem rmake_no (h : ArR w Z st mp v xs qs) (hl : SlA w 1 A x.l.length c (x.l.map (.int .i64))) (hm : mayB xs x = false) :
    Calls Tryz.prog 87 #[.pointer (some ⟨st, 0, none⟩), .agg #[.int .i64 x.o, .int .i64 x.n, .string x.s, .slice A x.l.length c]] w fun e w' => e = .returned (.tuple #[.int .i64 0, .int .i64 1]) ∧ Below w.heap.size w w' := by
  have H := hid (Ar.v h); have HS := hid hl; have HM := hid hm
  have B0 := hid (show Below w.heap.size w (w.alloc (.cells #[.int .i64 x.o, .int .i64 x.n, .string x.s, .slice A x.l.length c] 92)) from (Below.refl _ _).alloc (Nat.le_refl _) _)
  clear h hl hm
  go_enter Tryz.func87, Tryz.ntmps87
  go_wp2_with fail
  refine (rmay_any st xs x A c _ (H.out.ext B0.out) (HS.out.ext B0.out)).mono ?_
  rintro e1 w1 ⟨rfl, b1⟩
  rw [HM.out]
  have B1 := hid (B0.out.trans (b1.mono B0.out.size))
  clear b1
  go_wp2_with fail
  go_ret2
  exact ⟨rfl, B1.out⟩
set_option maxHeartbeats 4000000 in
set_option maxRecDepth 20000 in
theorem rmake_yes (h : ArR w Z st mp v xs qs) (hl : SlA w 1 A x.l.length c (x.l.map (.int .i64))) (hm : mayB xs x = true) (hx : NdI x) :
    Calls Tryz.prog 87 #[.pointer (some ⟨st, 0, none⟩), .agg #[.int .i64 x.o, .int .i64 x.n, .string x.s, .slice A x.l.length c]] w fun e w' => e = .returned (.tuple #[.int .i64 (makI xs x), .int .i64 (makE xs x)]) ∧ MakR w Z st mp (makT xs x) w' := by
  have HAR := hid h
  have H := hid (Ar.v h); have HS := hid hl; have HM := hid hm; have HX := hid hx
  have B0 := hid (show Below w.heap.size w (w.alloc (.cells #[.int .i64 x.o, .int .i64 x.n, .string x.s, .slice A x.l.length c] 92)) from (Below.refl _ _).alloc (Nat.le_refl _) _)
  have X0 := hid (show (w.alloc (.cells #[.int .i64 x.o, .int .i64 x.n, .string x.s, .slice A x.l.length c] 92)).ownsRow w.heap.size 92 4 (.slice (some ⟨w.heap.size, 0, none⟩) 1 1) 1 [.int .i64 x.o, .int .i64 x.n, .string x.s, .slice A x.l.length c] from
    ⟨by simp, .inr ⟨w.heap.size, 1, _, rfl, Nat.le_refl _, heap_alloc_new w _, Nat.le_refl _, by decide, rfl, by simp⟩⟩)
  have hsh : x.l.length ≤ 64 ∧ x.s.size ≤ 200 ∧ 0 ≤ x.n ∧ (∀ i ∈ x.l, 0 ≤ i) ∧ 0 ≤ x.o := by
    unfold mayB shB at hm
    simp only [Bool.and_eq_true, decide_eq_true_eq, List.all_eq_true] at hm
    refine ⟨hm.1.1.1.1.1.1.2, hm.1.1.1.1.2, hm.1.1.1.1.1.2, fun i hi => ?_, ?_⟩
    · have := hm.1.2 i hi
      unfold hasB at this
      simp only [Bool.and_eq_true, decide_eq_true_eq] at this
      exact this.1
    · have hlb := hm.1.1.1.1.1.1.1
      unfold lenB at hlb
      by_cases ho : 0 ≤ x.o
      · exact ho
      · have : arN x.o = none := by
          unfold arN
          split <;> first | omega | rfl
        rw [this] at hlb
        simp at hlb
        omega
  obtain ⟨hs64, hs200, hn0, hl0, ho0⟩ := hsh
  have HL0 := hid hl0
  have hlt := (Ar.v h).lt
  obtain ⟨Av, cv, rfl, -⟩ := h.rows
  obtain ⟨i0, hi, hz0, hz1, hz2⟩ := info_parts infoN
  obtain ⟨j0, hj, hy0, hy1, hy2⟩ := info_parts Tryz.infoInt
  clear h hl hm hx hl0
  go_enter Tryz.func87, Tryz.ntmps87
  go_wp2_with fail
  refine (rmay_any st xs x A c _ (H.out.ext B0.out) (HS.out.ext B0.out)).mono ?_
  rintro e1 w1 ⟨rfl, b1⟩
  rw [HM.out]
  have B1 := hid (B0.out.trans (b1.mono B0.out.size))
  have X1 := hid (own_ext X0.out b1)
  clear b1
  obtain ⟨⟨k0, k1, k2, k3⟩, -⟩ := box4 X1.out
  go_wp2_with fail
  refine (text_any x A c _ (HS.out.ext B1.out) hs64 ho0 HX.out.o hn0 HX.out.n HL0.out HX.out.l hs200).mono ?_
  rintro e2 w2 ⟨KS, rfl, hk, b2⟩
  have HK := hid hk
  have B2 := hid (B1.out.trans (b2.mono B1.out.size))
  have X2 := hid (own_ext X1.out b2)
  clear b2 hk k0 k1 k2 k3 hn0 ho0
  have AR2 := hid (HAR.out.ext B2.out)
  obtain ⟨D, hD, hMO⟩ := AR2.out.map
  have HD := hid hD; have HMO := hid hMO
  clear hD hMO
  have s0 : w2.cell? ⟨st, 0, none⟩ = some (.slice Av xs.length cv) := cell_of_row w2 st 0 _ _ (0, 0) AR2.out.box
  have s1 : w2.cell? ⟨st, 1, none⟩ = some (.map (some mp)) := cell_of_row w2 st 1 _ _ (0, 0) AR2.out.box
  have hsz : KS.size ≤ maxLen := by
    have h1 : KS.size = (keyR x).length := by rw [← HK.out]; rfl
    have h2 := itoa_le x.o HX.out.o.1 HX.out.o.2
    have h2' := itoa_le x.n HX.out.n.1 HX.out.n.2
    have h2'' := itoa_le (x.s.size : Nat) (by omega) (by omega)
    have h3 := join_le (l := x.l) HX.out.l
    have h4 : x.s.data.toList.length = x.s.size := rfl
    rw [h1]
    unfold keyR maxLen
    simp only [List.length_append, List.length_cons] at h3 ⊢
    omega
  have hkey : keyOf Tryz.prog 9 (.string KS) = some (.string (keyR x)) := by rw [← HK.out]; exact Go.WideMaps.keyOf_string_mk Tryz.underlying9 hsz
  have HKEY := hid hkey
  clear hkey hsz
  by_cases hx : x ∈ xs
  · have HH := hid (HMO.out.yes hx)
    obtain ⟨e1, e2, e3⟩ := mak_old HM.out hx
    have HI := hid e2; have HE := hid e3; have HTT := hid e1
    have HIX := hid (HMO.out.at' _ x (idxOf_get hx))
    clear hx e1 e2 e3
    go_wp2_with (at_lookup; refine wpList_lookup_own_ok_int _ rfl _ _ 120 rfl 9 3 .i64 lawS Tryz.underlying120 Tryz.underlying3 (zeroI _) mp _ D rfl HD.out _ _ rfl HKEY.out ?_; intro cc hat hwc; rw [HH.out])
    have HCC := hid (show cc = (xs.idxOf x : Nat) by
      rw [HIX.out] at hat
      injection hat with hat
      injection hat with _ hat
      exact hat.symm)
    clear hat hwc
    go_wp2
    go_ret2
    refine ⟨by rw [HI.out, HE.out, HCC.out]; rfl, ?_⟩
    rw [HTT.out]
    exact makR_below HAR.out B2.out
  · have HH := hid (HMO.out.not (fun {_ _} => keyR_inj) hx)
    by_cases hf : 100000 ≤ xs.length
    · have HI := hid (show makI xs x = 0 by unfold makI; rw [HM.out, if_pos rfl, if_neg hx, if_pos hf])
      have HE := hid (show makE xs x = 2 by unfold makE; rw [HM.out, if_pos rfl, if_neg hx, if_pos hf])
      have HTT := hid (show makT xs x = xs by unfold makT; rw [HM.out, if_pos rfl, if_neg hx, if_pos hf])
      have hf' : (100000 : Int) ≤ (xs.length : Int) := by omega
      clear hx hf
      go_wp2_with (at_lookup; refine wpList_lookup_own_ok_int _ rfl _ _ 120 rfl 9 3 .i64 lawS Tryz.underlying120 Tryz.underlying3 (zeroI _) mp _ D rfl HD.out _ _ rfl HKEY.out ?_; intro cc hat hwc; rw [HH.out])
      go_ret2
      refine ⟨by rw [HI.out, HE.out]; rfl, ?_⟩
      rw [HTT.out]
      exact makR_below HAR.out B2.out
    · obtain ⟨e1, e2, e3⟩ := mak_new HM.out hx (by omega)
      have HI := hid e2; have HE := hid e3; have HTT := hid e1; have HNX := hid hx
      have hf' : decide ((100000 : Int) ≤ (xs.length : Int)) = false := decide_eq_false (by omega)
      have HF := hid hf
      clear e1 e2 e3 hx hf
      obtain ⟨⟨k0, k1, k2, k3⟩, f0, f1, f2, f3⟩ := box4 X2.out
      have HSN := hid (HS.out.ext B2.out)
      go_wp2_with (first
        | (at_lookup; refine wpList_lookup_own_ok_int _ rfl _ _ 120 rfl 9 3 .i64 lawS Tryz.underlying120 Tryz.underlying3 (zeroI _) mp _ D rfl HD.out _ _ rfl HKEY.out ?_; intro cc hat hwc; rw [HH.out]; clear hat hwc)
        | (at_builtin; refine wpList_append_new _ rfl _ _ 30 rfl 3 j0 (.int .i64 0) 1 8 Tryz.underlying30 hj hy0 hy1 hy2 rfl (by decide) rfl _ _ _ _ rfl HSN.out (ints_one _ _) (by unfold maxLen; omega) (by omega) ?_; intro q0 w3 oq b3; obtain ⟨Aq, cq, rfl, -⟩ := SlA.owned oq; have X3 := hid (own_ext X2.out b3); have AR3 := hid (AR2.out.ext b3); have B3 := hid (B2.out.trans (b3.mono B2.out.size)); have OQ := hid oq; clear oq b3; obtain ⟨⟨l0, l1, l2, l3⟩, g0, g1, g2, g3⟩ := box4 X3.out))
      have hws : w.heap.size < w2.heap.size := (X2.out.lt w.heap.size rfl).2
      refine forget (R := fun W => ArR W Z st mp (.slice Av xs.length cv) xs qs ∧ W.ownsRow w.heap.size 92 4 (.slice (some ⟨w.heap.size, 0, none⟩) 1 1) 1 (x.cells (.slice Aq x.l.length cq)) ∧ W.ownsRow w2.heap.size 3 1 (.slice Aq x.l.length cq) x.l.length (x.l.map (.int .i64)) ∧ Below w.heap.size w W) ?_ ⟨?_, ?_, ?_, ?_⟩
      rotate_left
      · exact AR3.out.turn (Turn.setCell (F := fun b => b = w.heap.size) (.slice Aq x.l.length cq) (.inl rfl)) (fun b hz e => by have := HAR.out.zlt b hz; omega)
      · exact (X3.out.stored 3 (.slice Aq x.l.length cq)).1
      · exact own_block OQ.out fun b hb => Below.heap_setCell w3 ⟨w.heap.size, 3, none⟩ (.slice Aq x.l.length cq) b (by have := (OQ.out.lt b hb).1; show b ≠ w.heap.size; omega)
      · exact B3.out.setCell (p := ⟨w.heap.size, 3, none⟩) (Nat.le_refl _) _
      rintro W ⟨ra, rx, ro, rb⟩
      have AR4 := hid ra; have X4 := hid rx; have OQ4 := hid ro; have B4 := hid rb
      clear ra rx ro rb k0 k1 k2 k3 f0 f1 f2 f3 s0 s1 X3 AR3 B3 OQ l0 l1 l2 l3 g0 g1 g2 g3
      obtain ⟨⟨k0, k1, k2, k3⟩, -⟩ := box4 X4.out
      have s0 : W.cell? ⟨st, 0, none⟩ = some (.slice Av xs.length cv) := (ar_box AR4.out).cellAt 0 (by decide)
      have fs0 : W.frozen? ⟨st, 0, none⟩ = false := (ar_box AR4.out).frozenAt 0
      have hsW : w.heap.size < W.heap.size := (X4.out.lt w.heap.size rfl).2
      have hrow : ((W.alloc (.cells #[.int .i64 x.o, .int .i64 x.n, .string x.s, .slice Aq x.l.length cq] 92)).drew).ownsRow 0 92 4 (.slice Av xs.length cv) xs.length (nds xs qs) := own_block (AR4.out.row.alloc _) (fun _ _ => rfl)
      have HROW := hid hrow
      have HN1 := hid (show xs.length ≤ 100000 by have := HF.out; omega)
      have hstW : st < W.heap.size := by omega
      have s0' : (W.alloc (.cells #[.int .i64 x.o, .int .i64 x.n, .string x.s, .slice Aq x.l.length cq] 92)).cell? ⟨st, 0, none⟩ = some (.slice Av xs.length cv) := (World.cell?_alloc_old _ _ _ (show st ≠ W.heap.size by omega)).trans s0
      have HBX := hid (show ((W.alloc (.cells #[.int .i64 x.o, .int .i64 x.n, .string x.s, .slice Aq x.l.length cq] 92)).drew).heap[st]? = some (.cells #[.slice Av xs.length cv, .map (some mp)] 122 (0, 0)) from (Below.heap_alloc W _ st hstW).trans AR4.out.box)
      have HNE := hid (show some st ≠ (Value.slice Av xs.length cv).ownBlock from fun e => (AR4.out.zv st e.symm).2.1 rfl)
      clear hrow
      go_region_law (refine step_append_sl _ rfl (.tmp 40) (.tmp 42) 47 rfl 0 92 i0 (.agg #[.int .i64 0, .int .i64 0, .string ⟨#[]⟩, .slice none 0 0]) 4 56 Tryz.underlying47 hi hz0 hz1 hz2 rfl (by decide) (.slice Av xs.length cv) xs.length (nds xs qs) (by rfl) HROW.out (some ⟨W.heap.size, 0, none⟩) 1 1 (x.cells (.slice Aq x.l.length cq)) (by rfl) (lit4 _ _ _ _).drew (one4 _ _ _ _) (by have := HN1.out; unfold maxLen; omega) (by have := HN1.out; omega) (Nat.zero_le _) ?_; intro v4 w4 h4 g4 l4; obtain ⟨A4, c4, rfl, -⟩ := SlA.owned h4; have H4 := hid h4; have G4 := hid g4; have L4 := hid l4; have HB4 := hid ((g4.block st (by simp; omega) HNE.out).trans HBX.out); obtain ⟨s4, s5, f4⟩ := box2 HB4.out; clear h4 g4 l4)
      all_goals
        obtain ⟨D4, hD4, hM4⟩ := AR4.out.map
        have HD5 := hid (map_block (w' := w4.setCell ⟨st, 0, none⟩ (.slice A4 (xs.length + 1) c4)) hD4 (by
          have h1 := AR4.out.zlt _ AR4.out.zmp.1
          have h2 := AR4.out.zmp.2
          rw [Below.heap_setCell w4 ⟨st, 0, none⟩ _ mp h2, G4.out.block mp (by simp; omega) (fun e => (AR4.out.zv mp e.symm).2.2 rfl)]
          exact Below.heap_alloc W _ mp h1))
        have HM4 := hid hM4
        have hb6 := box2 (a := .slice A4 (xs.length + 1) c4) (b := .map (some mp)) (heap_setCell_same w4 st 0 _ _ (.slice A4 (xs.length + 1) c4) HB4.out)
        go_upto_region 11 with fail
        refine forget (R := fun V => (V.cell? ⟨st, 0, none⟩ = some (.slice A4 (xs.length + 1) c4) ∧ V.cell? ⟨st, 1, none⟩ = some (.map (some mp))) ∧ V.drew.ownsMap Tryz.prog 9 (plainElem Tryz.prog 3) mp xs.length D4 ∧ ∀ w6, V.grownBy w6 (some mp) → (w4.setCell ⟨st, 0, none⟩ (.slice A4 (xs.length + 1) c4)).grownBy w6 (some mp)) ?_ ⟨⟨hb6.1, hb6.2.1⟩, map_block HD5.out rfl, fun _ h => h⟩
        clear hD4 hM4 hb6 HD5 s4 s5 f4 s0' s0 fs0 k0 k1 k2 k3
        rintro V ⟨⟨v0, v1⟩, hvm, hvg⟩
        have HVM := hid hvm; have HVG := hid hvg
        clear hvm hvg
        have hsub : IntKind.i64.wrap (xs.length : Int) = (xs.length : Int) := by rw [IntKind.wrap_i64]; have := HN1.out; omega
        have hkk := HKEY.out
        have hnm : xs.length < maxLen := by have := HN1.out; unfold maxLen; omega
        have hpe := plainElem_int (H := Unit) Tryz.underlying3 (WalkArith.wf_i64 (n := (xs.length : Int)) (by have := HN1.out; omega))
        obtain ⟨w6, hrun, hown6, hg6⟩ := HVM.out.update lawS Tryz.underlying120 hnm hkk hpe
        have HO6 := hid hown6; have HG6 := hid hg6
        clear hown6 hg6 hkk hpe hnm
        go_region
        all_goals
          have hok : Okay (xs ++ [x]) := by
            have := okay_mak HAR.out.ok (x := x) (by have := HX.out.n.2; omega)
            rwa [HTT.out] at this
          have HG7 := hid (HVG.out _ (grown_undrew HG6.out))
          have HFIN := hid (rmake_done HAR.out B4.out (W1 := (W.alloc (.cells #[.int .i64 x.o, .int .i64 x.n, .string x.s, .slice Aq x.l.length cq] 92)).drew) (fun b hb => Below.heap_alloc W _ b hb) (by simp) ⟨rfl, rfl, rfl⟩ OQ4.out hws G4.out H4.out L4.out HB4.out HO6.out (mapOk_put HM4.out (fun {_ _} => keyR_inj) HNX.out) hok HG7.out)
          have y0 : w6.cell? ⟨st, 0, none⟩ = some (.slice A4 (xs.length + 1) c4) := by
            rw [World.cell?_of_block (a := ⟨st, 0, none⟩) (HG6.out.block st (block_lt_of_cell v0) (fun e => by injection e with e; exact HAR.out.zmp.2 e.symm))]
            exact v0
          have hn9 : (xs.length : Int) + 1 - 1 = (xs.length : Int) := by omega
          clear hrun v0 v1
          go_wp2
          go_ret2
          refine ⟨by rw [HI.out, HE.out]; rfl, ?_⟩
          rw [HTT.out]
          exact HFIN.out
/-- A node is made, whatever it is. -/
theorem rmake_any (h : ArR w Z st mp v xs qs) (hl : SlA w 1 A x.l.length c (x.l.map (.int .i64))) (hx : NdI x) :
    Calls Tryz.prog 87 #[.pointer (some ⟨st, 0, none⟩), .agg #[.int .i64 x.o, .int .i64 x.n, .string x.s, .slice A x.l.length c]] w fun e w' => e = .returned (.tuple #[.int .i64 (makI xs x), .int .i64 (makE xs x)]) ∧ MakR w Z st mp (makT xs x) w' := by
  rcases hm : mayB xs x with _ | _
  · refine (rmake_no Z st mp v xs qs x A c w h hl hm).mono ?_
    rintro e w' ⟨rfl, hb⟩
    refine ⟨?_, ?_⟩
    · unfold makI makE; rw [hm]; rfl
    · have : makT xs x = xs := by unfold makT; rw [hm]; rfl
      rw [this]
      exact makR_below h hb
  · exact rmake_yes Z st mp v xs qs x A c w h hl hm hx
end
end Go.Proofs.YtekfjcaihocmmaaGreatDoor

/- the document's term: Make told in words, New. -/
namespace Go.Proofs.YtekfjcaihocmmaaGreatDoor
open Go.RowKit Go.KK Go.Shelf Go.Maps
set_option linter.unusedVariables false
set_option linter.unusedSimpArgs false

/-- The document's arena at block st, all of its blocks in Z. -/
def AQ (w : World) (Z : Nat → Prop) (st : Nat) (xs : List ND) : Prop := ∃ mp v qs, ArR w Z st mp v xs qs
def AqS (w : World) (Z : Nat → Prop) (st : Nat) (xs : List ND) (w' : World) : Prop := ∃ Z', AQ w' Z' st xs ∧ Turn Z w w' ∧ ∀ b, Z' b → Z b ∨ w.heap.size ≤ b
theorem AqS.of {w w' : World} {Z : Nat → Prop} {st mp : Nat} {xs : List ND} (h : MakR w Z st mp xs w') : AqS w Z st xs w' := by
  obtain ⟨Z', v, qs, h1, h2, h3⟩ := h
  exact ⟨Z', ⟨mp, v, qs, h1⟩, h2, h3⟩
theorem AQ.ext {w w' : World} {Z : Nat → Prop} {st : Nat} {xs : List ND} (h : AQ w Z st xs) (hb : Below w.heap.size w w') : AQ w' Z st xs := by
  obtain ⟨mp, v, qs, h1⟩ := h
  exact ⟨mp, v, qs, h1.ext hb⟩
theorem AQ.zlt {w : World} {Z : Nat → Prop} {st : Nat} {xs : List ND} (h : AQ w Z st xs) : ∀ b, Z b → b < w.heap.size := by
  obtain ⟨mp, v, qs, h1⟩ := h
  exact h1.zlt
theorem AQ.ok {w : World} {Z : Nat → Prop} {st : Nat} {xs : List ND} (h : AQ w Z st xs) : Okay xs := by
  obtain ⟨mp, v, qs, h1⟩ := h
  exact h1.ok
theorem AQ.vw {w : World} {Z : Nat → Prop} {st : Nat} {xs : List ND} (h : AQ w Z st xs) : ArV w 122 st xs := by
  obtain ⟨mp, v, qs, h1⟩ := h
  exact Ar.v h1
theorem AQ.turn {F : Nat → Prop} {w w' : World} {Z : Nat → Prop} {st : Nat} {xs : List ND} (h : AQ w Z st xs) (ht : Turn F w w') (hd : ∀ b, Z b → ¬ F b) : AQ w' Z st xs := by
  obtain ⟨mp, v, qs, h1⟩ := h
  exact ⟨mp, v, qs, h1.turn ht hd⟩
theorem AqS.first {w w1 w2 : World} {Z : Nat → Prop} {st : Nat} {xs : List ND} (hb : Below w.heap.size w w1) (h : AqS w1 Z st xs w2) : AqS w Z st xs w2 := by
  obtain ⟨Z', h1, h2, h3⟩ := h
  refine ⟨Z', h1, (Turn.of_below hb).trans h2 (fun _ h => .inl h), fun b hz => (h3 b hz).imp id fun h => Nat.le_trans hb.size h⟩
theorem rmke_any (Z : Nat → Prop) (st : Nat) (xs : List ND) (w : World) (x : ND) (A : Option Addr) (c : Nat) (h : AQ w Z st xs) (hl : SlA w 1 A x.l.length c (x.l.map (.int .i64))) (hx : NdI x) :
    Calls Tryz.prog 87 #[.pointer (some ⟨st, 0, none⟩), .agg #[.int .i64 x.o, .int .i64 x.n, .string x.s, .slice A x.l.length c]] w fun e w' => e = .returned (.tuple #[.int .i64 (makI xs x), .int .i64 (makE xs x)]) ∧ AqS w Z st (makT xs x) w' := by
  obtain ⟨mp, v, qs, h⟩ := h
  exact (rmake_any Z st mp v xs qs x A c w h hl hx).mono fun e w' ⟨h1, h2⟩ => ⟨h1, .of h2⟩
theorem rnew_any (w : World) : Calls Tryz.prog 41 #[] w fun e w' => ∃ Z st, e = .returned (.pointer (some ⟨st, 0, none⟩)) ∧ AQ w' Z st [] ∧ (∀ b, Z b → w.heap.size ≤ b) ∧ Below w.heap.size w w' := by
  have hmm := @run_makeMap Tryz.prog
  go_enter Tryz.func41, Tryz.ntmps41
  go_wp2
  go_ret
  have B1 : Below w.heap.size w (w.alloc (.map #[] 0)) := (Below.refl _ _).alloc (Nat.le_refl _) _
  have hm0 := World.ownsMap_made (H := Unit) w Tryz.prog 9 (plainElem Tryz.prog 3)
  refine ⟨fun b => b = w.heap.size ∨ b = w.heap.size + 1, w.heap.size + 1, by simp, ⟨w.heap.size, .slice none 0 0, [], ?_⟩, fun b hb => by rcases hb with rfl | rfl <;> omega, B1.alloc (by simp) _⟩
  have hsz : (w.alloc (.map #[] 0)).heap.size = w.heap.size + 1 := by simp
  refine ⟨?_, World.ownsRow_nil _ _ _ _, rfl, fun j x q h => by simp at h, fun j x q b h => by simp at h, ⟨.map [], ?_, mapOk_nil _⟩, .inr rfl, ⟨.inl rfl, by omega⟩, fun b h => (by cases h), fun b hb => ?_, okay_nil⟩
  · have := heap_alloc_new (w.alloc (.map #[] 0)) (.cells #[.slice none 0 0, .map (some w.heap.size)] 122)
    rw [hsz] at this
    exact this
  · exact hm0.alloc _
  · have h2 : ((w.alloc (.map #[] 0)).alloc (.cells #[.slice none 0 0, .map (some w.heap.size)] 122)).heap.size = w.heap.size + 1 + 1 := by simp
    rcases hb with rfl | rfl <;> omega
end Go.Proofs.YtekfjcaihocmmaaGreatDoor

/- term: the program's arena and the document's, of the same nodes. -/
namespace Go.Proofs.YtekfjcaihocmmaaGreatDoor
open Go.RowKit Go.KK Go.Shelf Go.Maps
set_option linter.unusedVariables false
set_option linter.unusedSimpArgs false

/-- Two arenas of the same nodes. -/
structure Tw (w W : World) (sa sb : Nat) (Z Z' : Nat → Prop) (xs : List ND) : Prop where
  a : AR W Z sa xs
  b : AQ W Z' sb xs
  d : ∀ b, Z b → ¬ Z' b
  za : ∀ b, Z b → w.heap.size ≤ b
  zb : ∀ b, Z' b → w.heap.size ≤ b
  bl : Below w.heap.size w W
section
variable {w W W' : World} {sa sb : Nat} {Z Z' : Nat → Prop} {xs ys : List ND}
theorem Tw.ext (h : Tw w W sa sb Z Z' xs) (hb : Below W.heap.size W W') : Tw w W' sa sb Z Z' xs :=
  ⟨h.a.ext hb, h.b.ext hb, h.d, h.za, h.zb, h.bl.trans (hb.mono h.bl.size)⟩
theorem Tw.sz (h : Tw w W sa sb Z Z' xs) : w.heap.size ≤ W.heap.size := h.bl.size
/-- The program's arena has made one. -/
theorem Tw.mkA (h : Tw w W sa sb Z Z' xs) (hs : ArS W Z sa ys W') : ∃ Z2, AR W' Z2 sa ys ∧ AQ W' Z' sb xs ∧ (∀ b, Z2 b → ¬ Z' b) ∧ (∀ b, Z2 b → w.heap.size ≤ b) ∧ (∀ b, Z2 b → Z b ∨ W.heap.size ≤ b) ∧ Turn Z W W' ∧ Below w.heap.size w W' := by
  obtain ⟨Z2, h1, h2, h3⟩ := hs
  refine ⟨Z2, h1, h.b.turn h2 (fun b h' k => h.d b k h'), fun b h2' h' => ?_, fun b h' => (h3 b h').elim (h.za b) fun h'' => Nat.le_trans h.sz h'', h3, h2, h.bl.trans (h2.below h.za h.sz)⟩
  rcases h3 b h2' with h'' | h''
  · exact h.d b h'' h'
  · have := h.b.zlt b h'; omega
/-- The document's arena has made the same. -/
theorem Tw.mkB {Z2 : Nat → Prop} (ha : AR W Z2 sa ys) (hq : AQ W Z' sb xs) (hd : ∀ b, Z2 b → ¬ Z' b) (hz : ∀ b, Z2 b → w.heap.size ≤ b) (hz' : ∀ b, Z' b → w.heap.size ≤ b) (hb : Below w.heap.size w W) (hs : AqS W Z' sb ys W') : ∃ Z3, Tw w W' sa sb Z2 Z3 ys ∧ Turn Z' W W' ∧ ∀ b, Z3 b → Z' b ∨ W.heap.size ≤ b := by
  obtain ⟨Z3, h1, h2, h3⟩ := hs
  refine ⟨Z3, ⟨ha.turn h2 (fun b h k => hd b h k), h1, fun b h2' h' => ?_, hz, fun b h => (h3 b h).elim (hz' b) fun h => Nat.le_trans hb.size h, hb.trans (h2.below hz' hb.size)⟩, h2, h3⟩
  rcases h3 b h' with h | h
  · exact hd b h2' h
  · have := ha.zlt b h2'; omega
end
end Go.Proofs.YtekfjcaihocmmaaGreatDoor

/- the law's two arenas of ten secrets; live and more share them. -/
namespace Go.Proofs.YtekfjcaihocmmaaGreatDoor
open Go.RowKit Go.KK Go.Shelf Go.Maps
set_option linter.unusedVariables false
set_option linter.unusedSimpArgs false

theorem ratom_any (Z : Nat → Prop) (st : Nat) (xs : List ND) (w : World) (n : Int) (h : AQ w Z st xs) (hn : I64 n) :
    Calls Tryz.prog 43 #[.pointer (some ⟨st, 0, none⟩), .int .i64 n] w fun e w' => e = .returned (.tuple #[.int .i64 (makI xs (atN n)), .int .i64 (makE xs (atN n))]) ∧ AqS w Z st (makT xs (atN n)) w' := by
  have HM := hid (rmke_any Z st xs w (atN n) none 0 h (SlA.nil _ _) (ndI_at hn))
  clear h
  go_enter Tryz.func43, Tryz.ntmps43
  go_wp2_with fail
  refine HM.out.mono ?_
  rintro e w' ⟨rfl, hs⟩
  have HS := hid hs
  clear hs
  go_wp2_with fail
  go_ret2
  exact ⟨rfl, HS.out⟩
/-- What two leaves: both arenas with the same ten secrets. -/
def TwoS (w : World) (e : Ending) (w' : World) : Prop := ∃ sa sb Z Z', e = .returned (.tuple #[.pointer (some ⟨sa, 0, none⟩), .pointer (some ⟨sb, 0, none⟩)]) ∧ Tw w w' sa sb Z Z' (atoms 10)
theorem Tw.la {w W : World} {sa sb : Nat} {Z Z' : Nat → Prop} {xs : List ND} (h : Tw w W sa sb Z Z' xs) : LA w W Z sa xs := ⟨h.a, h.za, h.bl⟩
end Go.Proofs.YtekfjcaihocmmaaGreatDoor

/- schedule: Psk, Joiner. -/
namespace Go.KK
open Go.RowKit
set_option linter.unusedVariables false
set_option linter.unusedSimpArgs false
end Go.KK
namespace Go.Proofs.YtekfjcaihocmmaaGreatDoor
open Go.RowKit Go.KK Go.Shelf Go.Maps

/-- A row of numbers that the arena's steps leave alone. -/
def SlM (W : World) (Z : Nat → Prop) (A : Option Addr) (n c : Nat) (l : List Int) : Prop := SlA W 1 A n c (l.map (.int .i64)) ∧ ∀ b o, A = some ⟨b, o, none⟩ → 0 < n → b < W.heap.size ∧ ¬ Z b
theorem SlM.mv {W W' : World} {Z Z' : Nat → Prop} {A : Option Addr} {n c : Nat} {l : List Int} (h : SlM W Z A n c l) (m : Mv Z W Z' W') : SlM W' Z' A n c l := by
  refine ⟨⟨h.1.nc, h.1.cm, h.1.len, fun j u hj => ?_⟩, fun b o e hn => ?_⟩
  · have hjl := (List.getElem?_eq_some_iff.1 hj).1
    have hlen := h.1.len
    obtain ⟨b, off, e, hc⟩ := h.1.cells j u hj
    have hn : 0 < n := by omega
    obtain ⟨h1, h2⟩ := h.2 b off e hn
    refine ⟨b, off, e, ?_⟩
    rw [World.cell?_of_block (a := ⟨b, off + j, none⟩) (show W'.heap[b]? = W.heap[b]? from m.t.block b h1 h2)]
    exact hc
  · obtain ⟨h1, h2⟩ := h.2 b o e hn
    refine ⟨Nat.lt_of_lt_of_le h1 m.t.size, fun hz => ?_⟩
    rcases m.n b hz with h | h
    · exact h2 h
    · omega
theorem SlM.nil (W : World) (Z : Nat → Prop) : SlM W Z none 0 0 [] := ⟨SlA.nil _ _, fun b o e => by cases e⟩
section
variable {w0 W W' : World} {Z Z' : Nat → Prop} {sa : Nat} {xs xs' : List ND}
end
end Go.Proofs.YtekfjcaihocmmaaGreatDoor

/- schedule: Begin's variables, and what lays a term as long as there is no error. -/
namespace Go.KK
open Go.RowKit
set_option linter.unusedVariables false
set_option linter.unusedSimpArgs false
end Go.KK
namespace Go.Proofs.YtekfjcaihocmmaaGreatDoor
open Go.RowKit Go.KK Go.Shelf Go.Maps

section
variable {w0 W W' : World} {Z Z' : Nat → Prop} {sa H : Nat} {xs xs' : List ND} {B B' : Nat → Array Value}
theorem LA.put1 (h : LA w0 W Z sa xs) {b o : Nat} (v : Value) (hz : ¬ Z b) (hb : w0.heap.size ≤ b) : LA w0 (W.setCell ⟨b, o, none⟩ v) Z sa xs := by
  have ht : Turn (fun k => k = b) W (W.setCell ⟨b, o, none⟩ v) := Turn.setCell v (.inl rfl)
  exact ⟨h.ar.turn ht fun k hk e => hz (e ▸ hk), h.z, h.bl.trans (ht.below (fun k e => e ▸ hb) h.bl.size)⟩
end
section
variable {w0 W : World} {Z : Nat → Prop} {sa H : Nat} {j p x : Int} {R : List ND × List Int × Int} {f : List Int → List ND → Rs} {ep : List Int} {mem ext : Int}
end
end Go.Proofs.YtekfjcaihocmmaaGreatDoor

/- schedule: what the closures of Begin make. -/
namespace Go.Proofs.YtekfjcaihocmmaaGreatDoor
open Go.RowKit Go.KK Go.Shelf Go.Maps
set_option linter.unusedVariables false
set_option linter.unusedSimpArgs false

section
variable {w0 W : World} {Z : Nat → Prop} {sa H : Nat} {xs : List ND} {j p x : Int} {ep : List Int} {first mem ext : Int}
end
end Go.Proofs.YtekfjcaihocmmaaGreatDoor

/- schedule: Begin. -/
namespace Go.KK
open Go.RowKit
set_option linter.unusedVariables false
set_option linter.unusedSimpArgs false
end Go.KK
namespace Go.Proofs.YtekfjcaihocmmaaGreatDoor
open Go.RowKit Go.KK Go.Shelf Go.Maps

theorem Mv.step {Z Z1 Z2 : Nat → Prop} {W W1 W2 : World} {H : Nat} (a : Mv Z W Z1 W1) (ht : Turn (fun b => Z1 b ∨ H ≤ b) W1 W2) (hn : ∀ b, Z2 b → Z1 b ∨ W1.heap.size ≤ b) (hH : W.heap.size ≤ H) : Mv Z W Z2 W2 :=
  ⟨a.t.trans ht (fun k hk => hk.elim (a.n k) fun h => .inr (Nat.le_trans hH h)), fun k hk => (hn k hk).elim (a.n k) fun h => .inr (Nat.le_trans a.t.size h)⟩
section
variable {w0 W : World} {Z : Nat → Prop} {sa : Nat} {xs : List ND} {j p x : Int}
end
end Go.Proofs.YtekfjcaihocmmaaGreatDoor

/- schedule: Begin walked. -/
namespace Go.Proofs.YtekfjcaihocmmaaGreatDoor
open Go.RowKit Go.KK Go.Shelf Go.Maps
set_option linter.unusedVariables false
set_option linter.unusedSimpArgs false

section
variable {w0 W : World} {Z : Nat → Prop} {sa : Nat} {xs : List ND} {j p x : Int}
end
end Go.Proofs.YtekfjcaihocmmaaGreatDoor

/- schedule: Begin walked whole. -/
namespace Go.Proofs.YtekfjcaihocmmaaGreatDoor
open Go.RowKit Go.KK Go.Shelf Go.Maps
set_option linter.unusedVariables false
set_option linter.unusedSimpArgs false

section
variable {w0 W : World} {Z : Nat → Prop} {sa : Nat} {xs : List ND}
end
end Go.Proofs.YtekfjcaihocmmaaGreatDoor

/- schedule: Inner, Next. -/
namespace Go.Proofs.YtekfjcaihocmmaaGreatDoor
open Go.RowKit Go.KK Go.Shelf Go.Maps
set_option linter.unusedVariables false
set_option linter.unusedSimpArgs false

section
variable {w0 W : World} {Z : Nat → Prop} {sa : Nat} {xs : List ND}
end
end Go.Proofs.YtekfjcaihocmmaaGreatDoor

/- the document's layer 3: SameInts (without Rising). -/
namespace Go.Proofs.YtekfjcaihocmmaaGreatDoor
open Go.RowKit Go.KK Go.Shelf Go.Maps
set_option linter.unusedVariables false
set_option linter.unusedSimpArgs false

theorem take_get {α : Type} {l : List α} {k : Nat} {x : α} (h : l[k]? = some x) : l.take (k + 1) = l.take k ++ [x] := by
  obtain ⟨hk, rfl⟩ := List.getElem?_eq_some_iff.1 h
  exact List.take_succ_eq_append_getElem hk
end Go.Proofs.YtekfjcaihocmmaaGreatDoor

/- schedule's law: live; numbers beyond; what its laws share. -/
namespace Go.Proofs.YtekfjcaihocmmaaGreatDoor
open Go.RowKit Go.KK Go.Shelf Go.Maps
set_option linter.unusedVariables false
set_option linter.unusedSimpArgs false

theorem SlM.new {w0 W : World} {Z : Nat → Prop} {sa : Nat} {xs : List ND} (la : LA w0 W Z sa xs) (vs : Array Value) (l : List Int) (T : TypeId) (hv : vs.toList = l.map (.int .i64)) (hm : vs.size ≤ maxLen) : SlM (W.alloc (.cells vs T)) Z (some ⟨W.heap.size, 0, none⟩) vs.size vs.size l := by
  refine ⟨by rw [← hv]; exact sla_row vs hm, fun b o e _ => ?_⟩
  injection e with e
  injection e with e1 e2
  subst e1
  exact ⟨by simp, fun hz => by have := la.ar.zlt _ hz; omega⟩
end Go.Proofs.YtekfjcaihocmmaaGreatDoor

/- schedule: Export. -/
namespace Go.Proofs.YtekfjcaihocmmaaGreatDoor
open Go.RowKit Go.KK Go.Shelf Go.Maps
set_option linter.unusedVariables false
set_option linter.unusedSimpArgs false

section
variable {w0 W : World} {Z : Nat → Prop} {sa : Nat} {xs : List ND}
end
end Go.Proofs.YtekfjcaihocmmaaGreatDoor

/- nodes: the locker in memory, and what it does. -/
namespace Go.Proofs.YtekfjcaihocmmaaGreatDoor
open Go.RowKit Go.KK Go.Shelf Go.Maps
set_option linter.unusedVariables false
set_option linter.unusedSimpArgs false

def Zk (Z : Nat → Prop) (bk : Nat) (b : Nat) : Prop := Z b ∨ b = bk
section
variable {w0 W W' : World} {Z Z' : Nat → Prop} {sa bk : Nat} {S : KS} {ex cx : Int} {X' : List ND}
theorem Mv.zk (m : Mv Z W Z' W') (bk : Nat) : Mv (Zk Z bk) W (Zk Z' bk) W' :=
  ⟨m.t.mono fun b h => .inl h, fun b h => h.elim (fun h => (m.n b h).elim (fun h => .inl (.inl h)) .inr) fun h => .inl (.inr h)⟩
theorem Mv.set (Z : Nat → Prop) (W : World) (bk o : Nat) (v : Value) : Mv (Zk Z bk) W (Zk Z bk) (W.setCell ⟨bk, o, none⟩ v) :=
  ⟨Turn.setCell v (.inl (.inr rfl)), fun b h => .inl h⟩
theorem Mv.cell1 (m : Mv Z W Z' W') {b o : Nat} {v : Value} (hc : W.cell? ⟨b, o, none⟩ = some v) (hz : ¬ Z b) : W'.cell? ⟨b, o, none⟩ = some v := by
  rw [World.cell?_of_block (a := ⟨b, o, none⟩) (m.t.block b (block_lt_of_cell hc) hz)]; exact hc
end
section
variable {w0 W : World} {Z : Nat → Prop} {sa bk : Nat} {S : KS} {ex cx : Int}
end
end Go.Proofs.YtekfjcaihocmmaaGreatDoor

/- appends in a region that draws its order, whichever order: words of memory, of no program. -/
namespace Go.KK
open Go.RowKit
set_option linter.unusedVariables false
set_option linter.unusedSimpArgs false

/-- What stands in a block. -/
def HasO (o : Obj) (b : Nat) (W : World) : Prop := W.heap[b]? = some o
section
variable {o o' : Obj} {b g B : Nat} {W V a : World}
theorem HasO.new (o : Obj) (W : World) : HasO o W.heap.size (W.alloc o) := heap_alloc_new W o
theorem HasO.lt (h : HasO o b W) : b < W.heap.size := (Array.getElem?_eq_some_iff.1 h).1
theorem HasO.bel (h : HasO o b W) (hb : Below W.heap.size W V) : HasO o b V := (hb.block b h.lt).trans h
theorem HasO.alloc (h : HasO o b W) : HasO o b (W.alloc o') := h.bel ((Below.refl _ _).alloc (Nat.le_refl _) o')
theorem HasO.drew (h : HasO o b W) : HasO o b W.drew := h
theorem HasO.grown (h : HasO o b W) (hg : W.grownBy V (some g)) (hn : b ≠ g) : HasO o b V := (hg.block b h.lt fun e => hn (Option.some.inj e)).trans h
theorem size_al : (W.alloc o).heap.size = W.heap.size + 1 := by simp
/-- A literal row, read and owned. -/
theorem HasO.own1 {T : TypeId} {v : Value} (h : HasO (.cells #[v] T (0, 0)) b W) (hB : B ≤ b) : W.ownsRow B T 1 (.slice (some ⟨b, 0, none⟩) 1 1) 1 [v] :=
  ⟨by simp, .inr ⟨b, 1, _, rfl, hB, h, Nat.le_refl _, by decide, rfl, by simp⟩⟩
end
section
variable {P : Program} (w : World)
end
section
variable {P : Program} (w : World)
end
end Go.KK

/- nodes: keys, and a node's content. -/
namespace Go.Proofs.YtekfjcaihocmmaaGreatDoor
open Go.RowKit Go.KK Go.Shelf Go.Maps
set_option linter.unusedVariables false
set_option linter.unusedSimpArgs false

/-- What reads only blocks that Z spares. -/
def Fx (V : World) (Z : Nat → Prop) (P : World → Prop) : Prop := ∃ R : Nat → Prop, (∀ b, R b → ¬ Z b ∧ b < V.heap.size) ∧ ∀ V' : World, (∀ b, R b → V'.heap[b]? = V.heap[b]?) → P V'
section
variable {V V' : World} {Z Z' : Nat → Prop} {P : World → Prop}
theorem Fx.here (h : Fx V Z P) : P V := by obtain ⟨R, h1, h2⟩ := h; exact h2 V fun _ _ => rfl
theorem Fx.mv (h : Fx V Z P) (m : Mv Z V Z' V') : Fx V' Z' P := by
  obtain ⟨R, h1, h2⟩ := h
  have hb : ∀ b, R b → V'.heap[b]? = V.heap[b]? := fun b hr => m.t.block b (h1 b hr).2 (h1 b hr).1
  exact ⟨R, fun b hr => ⟨fun hz => (m.n b hz).elim (h1 b hr).1 fun h' => by have := (h1 b hr).2; omega, Nat.lt_of_lt_of_le (h1 b hr).2 m.t.size⟩, fun V2 hv => h2 V2 fun b hr => (hv b hr).trans (hb b hr)⟩
theorem Fx.ext (h : Fx V Z P) (hb : Below V.heap.size V V') : Fx V' Z P := h.mv (Mv.below hb)
theorem Fx.mono {Q : World → Prop} (h : Fx V Z P) (hq : ∀ V, P V → Q V) : Fx V Z Q := by obtain ⟨R, h1, h2⟩ := h; exact ⟨R, h1, fun V' hv => hq _ (h2 V' hv)⟩
end
theorem i64_0 : I64 0 := i64_lit (by decide) (by decide)
section
variable {S : KS}
theorem do_i {f : List ND → Rs} (hf : I64 (f S.x).2.1) : I64 (doF S f).2 := by
  by_cases he : S.e = 0
  · rw [show doF S f = (⟨(f S.x).1, (f S.x).2.2⟩, (f S.x).2.1) from if_pos he]; exact hf
  · rw [do_no f he]; exact i64_0
theorem tx_i (ok : Okay S.x) (s : ByteArray) : I64 (doF S (txF s)).2 := do_i (idx_i64 ok (txN s))
theorem li_i (ok : Okay S.x) (l : List Int) : I64 (doF S (liF l)).2 := do_i (idx_i64 ok (ndN 3 l))
end
section
variable {w0 W : World} {Z : Nat → Prop} {sa bk : Nat} {S : KS} {ex cx : Int}
end
end Go.Proofs.YtekfjcaihocmmaaGreatDoor

/- layer 9: the maker in memory, and what it does. -/
namespace Go.Proofs.YtekfjcaihocmmaaGreatDoor
open Go.RowKit Go.KK Go.Shelf Go.Maps
set_option linter.unusedVariables false
set_option linter.unusedSimpArgs false

/-- The maker, and its arena. -/
structure MK (w0 W : World) (Z : Nat → Prop) (sa bk : Nat) (S : KS) : Prop where
  la : LA w0 W Z sa S.x
  k : W.heap[bk]? = some (.cells #[.pointer (some ⟨sa, 0, none⟩), .int .i64 S.e] 137 (0, 0))
  nz : ¬ Z bk
  lo : w0.heap.size ≤ bk
section
variable {w0 W W' : World} {Z Z' : Nat → Prop} {sa bk : Nat} {S : KS} {X' : List ND}
theorem MK.lt (h : MK w0 W Z sa bk S) : bk < W.heap.size := (Array.getElem?_eq_some_iff.1 h.k).1
theorem MK.c0 (h : MK w0 W Z sa bk S) : W.cell? ⟨bk, 0, none⟩ = some (.pointer (some ⟨sa, 0, none⟩)) := by rw [cell_of_row W bk 0 _ _ (0, 0) h.k]; rfl
theorem MK.c1 (h : MK w0 W Z sa bk S) : W.cell? ⟨bk, 1, none⟩ = some (.int .i64 S.e) := by rw [cell_of_row W bk 1 _ _ (0, 0) h.k]; rfl
theorem MK.fz (h : MK w0 W Z sa bk S) (i : Nat) : W.frozen? ⟨bk, i, none⟩ = false := frozen_of_row W bk i _ _ h.k
theorem MK.ext (h : MK w0 W Z sa bk S) (hb : Below W.heap.size W W') : MK w0 W' Z sa bk S :=
  ⟨h.la.ext hb, (hb.block bk h.lt).trans h.k, h.nz, h.lo⟩
theorem MK.mv (h : MK w0 W Z sa bk S) (l : LA w0 W' Z' sa X') (m : Mv Z W Z' W') : MK w0 W' Z' sa bk ⟨X', S.e⟩ :=
  ⟨l, (m.t.block bk h.lt h.nz).trans h.k, fun hz => (m.n bk hz).elim h.nz fun h' => by have := h.lt; omega, h.lo⟩
theorem MK.put (h : MK w0 W Z sa bk S) (e : Int) : MK w0 (W.setCell ⟨bk, 1, none⟩ (.int .i64 e)) Z sa bk ⟨S.x, e⟩ := by
  refine ⟨h.la.put1 _ h.nz h.lo, ?_, h.nz, h.lo⟩
  rw [heap_setCell_same W bk 1 _ _ _ h.k]; rfl
theorem MK.i64 (h : MK w0 W Z sa bk S) {i : Int} (hi : hasB S.x i = true) : I64 i := by
  have a := has_iff.1 hi
  have b := h.la.ar.ok.len
  exact ⟨by omega, by omega⟩
theorem MK.new (h : MK w0 W Z sa bk S) : ¬ Zk Z bk W.heap.size := fun hz => hz.elim (fun hz => by have := h.la.ar.zlt _ hz; omega) (fun e => by have := h.lt; omega)
end
/-- What a method leaves that makes a term. -/
def ThS (w0 W : World) (Z : Nat → Prop) (sa bk : Nat) (r : KS × Int) (e : Ending) (w' : World) : Prop := ∃ Z', e = .returned (.int .i64 r.2) ∧ MK w0 w' Z' sa bk r.1 ∧ Mv (Zk Z bk) W (Zk Z' bk) w'
section
variable {w0 W : World} {Z : Nat → Prop} {sa bk : Nat} {S : KS}
theorem nd4 {V : World} {T : TypeId} {b : Nat} {v0 v1 v2 v3 : Value} (h : HasO (.cells #[v0, v1, v2, v3] T (0, 0)) b V) : V.cell? ⟨b, 0, none⟩ = some v0 ∧ V.cell? ⟨b, 1, none⟩ = some v1 ∧ V.cell? ⟨b, 2, none⟩ = some v2 ∧ V.cell? ⟨b, 3, none⟩ = some v3 := by
  refine ⟨?_, ?_, ?_, ?_⟩ <;> (rw [cell_of_row _ b _ _ _ (0, 0) h]; rfl)
set_option maxHeartbeats 2000000 in
theorem m_of (h : MK w0 W Z sa bk S) (hT : Tb w0.heap.size w0) {x : ND} {A : Option Addr} {c : Nat} (hl : SlA W 1 A x.l.length c (x.l.map (.int .i64))) (hx : NdI x) :
    Calls Tryz.prog 223 #[.pointer (some ⟨bk, 0, none⟩), .agg #[.int .i64 x.o, .int .i64 x.n, .string x.s, .slice A x.l.length c]] W (ThS w0 W Z sa bk (doF S fun xs => mk xs x)) := by
  have b1 : Below W.heap.size W (W.alloc (.cells #[.int .i64 x.o, .int .i64 x.n, .string x.s, .slice A x.l.length c] 92)) := (Below.refl _ _).alloc (Nat.le_refl _) _
  have HP := hid (show MK w0 (W.alloc (.cells #[.int .i64 x.o, .int .i64 x.n, .string x.s, .slice A x.l.length c] 92)) Z sa bk S ∧ HasO (.cells #[.int .i64 x.o, .int .i64 x.n, .string x.s, .slice A x.l.length c] 92 (0, 0)) W.heap.size (W.alloc (.cells #[.int .i64 x.o, .int .i64 x.n, .string x.s, .slice A x.l.length c] 92)) ∧ Below W.heap.size W (W.alloc (.cells #[.int .i64 x.o, .int .i64 x.n, .string x.s, .slice A x.l.length c] 92)) ∧ SlA (W.alloc (.cells #[.int .i64 x.o, .int .i64 x.n, .string x.s, .slice A x.l.length c] 92)) 1 A x.l.length c (x.l.map (.int .i64)) from ⟨h.ext b1, HasO.new _ _, b1, hl.ext b1⟩)
  have HT := hid hT; have HX := hid hx
  have hnb : ¬ Z W.heap.size := fun hz => by have := h.la.ar.zlt _ hz; omega
  clear h hl hT hx b1
  by_cases he : S.e = 0
  · have HD := hid (show doF S (fun xs => mk xs x) = (⟨(mk S.x x).1, (mk S.x x).2.2⟩, (mk S.x x).2.1) from if_pos he)
    have HM := hid (fun (V : World) (h : MK w0 V Z sa bk S) (hl : SlA V 1 A x.l.length c (x.l.map (.int .i64))) => l_mke (h.la.ext (below_drew (Below.refl _ _))) HT.out (x := x) (hl.drew) HX.out)
    rw [HD.out]
    have HE := hid he
    clear HD HX he
    obtain ⟨xo, xn, xs, xl⟩ := x
    dsimp only at HM HP ⊢
    go_enter Tryz.func223, Tryz.ntmps223
    go_upto_region 1 with fail
    generalize hb : W.heap.size = b at *
    refine forget (R := fun V => MK w0 V Z sa bk S ∧ HasO (.cells #[.int .i64 xo, .int .i64 xn, .string xs, .slice A xl.length c] 92 (0, 0)) b V ∧ Below b W V ∧ SlA V 1 A xl.length c (xl.map (.int .i64))) ?_ HP.out
    clear HP
    rintro V ⟨h, hx, hbl, hl⟩
    have hc0 := h.c0
    have hc1 := h.c1
    rw [HE.out] at hc1
    have hz := h.nz
    obtain ⟨x0, x1, x2, x3⟩ := nd4 hx
    have HMV := hid (HM.out V h hl)
    have H := hid h
    have HB := hid (show Below W.heap.size W V by rw [hb]; exact hbl)
    clear h hx hbl hl HM hb
    go_upto_region 3 with fail
    go_region_held3 (fun U => U.cell? ⟨bk, 0, none⟩ = some (.pointer (some ⟨sa, 0, none⟩)) ∧ U.cell? ⟨b, 0, none⟩ = some (.int .i64 xo) ∧ U.cell? ⟨b, 1, none⟩ = some (.int .i64 xn) ∧ U.cell? ⟨b, 2, none⟩ = some (.string xs) ∧ U.cell? ⟨b, 3, none⟩ = some (.slice A xl.length c)) (first | exact ⟨hc0, x0, x1, x2, x3⟩ | exact ⟨N2.out.cell1 hc0 hz, N2.out.cell1 x0 hnb, N2.out.cell1 x1 hnb, N2.out.cell1 x2 hnb, N2.out.cell1 x3 hnb⟩ | go_keep) (first
      | (go_at_call 42; refine HMV.out.mono ?_; clear hc1; rintro e w2 ⟨Z2, rfl, l2, m2⟩; have N2 := hid ((Mv.below (below_drew (Below.refl V.heap.size V))).trans m2); have L2 := hid ((H.out.ext (below_drew (Below.refl _ _))).mv l2 m2); have M2 := hid (((Mv.below HB.out).trans ((Mv.below (below_drew (Below.refl V.heap.size V))).trans m2)).zk bk); have hc1 := L2.out.c1; have hf := L2.out.fz 1; clear l2 m2)
      | fail)
    all_goals
      go_wp2_with fail
      go_ret
      exact ⟨Z2, rfl, L2.out.put _, M2.out.trans (Mv.set _ _ _ _ _)⟩
  · have HD := hid (show doF S (fun xs => mk xs x) = (S, 0) from if_neg he)
    have hne : (S.e == 0) = false := beq_eq_false_iff_ne.2 he
    have hne2 : (S.e != 0) = true := bne_iff_ne.2 he
    have hc1 := HP.out.1.c1
    rw [HD.out]
    clear he HD HX
    go_enter Tryz.func223, Tryz.ntmps223
    go_wp2_with fail
    go_ret
    exact ⟨Z, rfl, HP.out.1, Mv.below HP.out.2.2.1⟩
theorem m_text (h : MK w0 W Z sa bk S) (hT : Tb w0.heap.size w0) (s : ByteArray) :
    Calls Tryz.prog 153 #[.pointer (some ⟨bk, 0, none⟩), .string s] W (ThS w0 W Z sa bk (doF S (txF s))) := by
  have HM := hid (m_of h hT (x := txN s) (SlA.nil _ _) (ndI_tx s))
  change Hid (Calls _ _ _ W (ThS w0 W Z sa bk (doF S (txF s)))) at HM
  clear h hT
  generalize doF S (txF s) = r at *
  go_enter Tryz.func153, Tryz.ntmps153
  go_wp2_with fail
  refine HM.out.mono ?_
  rintro e w' ⟨Z', rfl, h1, h2⟩
  have H1 := hid h1; have H2 := hid h2
  clear h1 h2
  go_wp2_with fail
  go_ret
  exact ⟨Z', rfl, H1.out, H2.out⟩
theorem m_list (h : MK w0 W Z sa bk S) (hT : Tb w0.heap.size w0) {A : Option Addr} {n c : Nat} {l : List Int} (hl : SlA W 1 A n c (l.map (.int .i64))) (hi : ∀ i ∈ l, I64 i) :
    Calls Tryz.prog 210 #[.pointer (some ⟨bk, 0, none⟩), .slice A n c] W (ThS w0 W Z sa bk (doF S (liF l))) := by
  have e := hl.lenI
  subst e
  have HM := hid (m_of h hT (x := ndN 3 l) hl (ndI_nd (i64_lit (by decide) (by decide)) hi))
  change Hid (Calls _ _ _ W (ThS w0 W Z sa bk (doF S (liF l)))) at HM
  clear h hT hl hi
  generalize doF S (liF l) = r at *
  go_enter Tryz.func210, Tryz.ntmps210
  go_wp2_with fail
  refine HM.out.mono ?_
  rintro e w' ⟨Z', rfl, h1, h2⟩
  have H1 := hid h1; have H2 := hid h2
  clear h1 h2
  go_wp2_with fail
  go_ret
  exact ⟨Z', rfl, H1.out, H2.out⟩
set_option maxHeartbeats 1000000 in
theorem m_hash (h : MK w0 W Z sa bk S) (hT : Tb w0.heap.size w0) {A : Option Addr} {n c : Nat} {l : List Int} (hl : SlA W 1 A n c (l.map (.int .i64))) (hi : ∀ i ∈ l, I64 i) :
    Calls Tryz.prog 154 #[.pointer (some ⟨bk, 0, none⟩), .slice A n c] W (ThS w0 W Z sa bk (haM S l)) := by
  have HL := hid (m_list h hT hl hi)
  have HI := hid (li_i h.la.ar.ok l)
  change Hid (Calls _ _ _ W (ThS w0 W Z sa bk (haA S l))) at HL
  change Hid (I64 (haA S l).2) at HI
  have HT := hid hT
  clear h hT hl hi
  have HD := hid (show haM S l = doF (haA S l).1 (hhF (haA S l).2) from rfl)
  rw [HD.out]
  clear HD
  generalize haA S l = r at *
  obtain ⟨r1, r2⟩ := r
  dsimp only at *
  go_enter Tryz.func154, Tryz.ntmps154
  go_wp2_with fail
  refine HL.out.mono ?_
  rintro e w1 ⟨Z1, rfl, h1, h2⟩
  have HM := hid (m_of (h1.ext ((Below.refl w1.heap.size w1).alloc (Nat.le_refl _) (.cells #[.int .i64 r2] 3))) HT.out (x := ndN 4 [r2]) (SlA.lit1 _) (ndI_nd (i64_lit (by decide) (by decide)) fun i hi => by rw [List.mem_singleton.1 hi]; exact HI.out))
  change Hid (Calls _ _ _ _ (ThS w0 _ Z1 sa bk (doF r1 (hhF r2)))) at HM
  have H2 := hid (h2.trans (Mv.below ((Below.refl w1.heap.size w1).alloc (Nat.le_refl _) (.cells #[.int .i64 r2] 3))))
  clear h1 h2 HL
  generalize doF r1 (hhF r2) = r at *
  go_wp2_with fail
  refine HM.out.mono ?_
  rintro e w' ⟨Z', rfl, h1, h2⟩
  have H1 := hid h1; have H3 := hid (H2.out.trans h2)
  clear h1 h2
  go_wp2_with fail
  go_ret
  exact ⟨Z', rfl, H1.out, H3.out⟩
theorem m_told (h : MK w0 W Z sa bk S) (t : Int) :
    Calls Tryz.prog 82 #[.pointer (some ⟨bk, 0, none⟩), .int .i64 t] W fun e w' => e = .returned (.tuple #[.int .i64 (if S.e = 0 then t else 0), .int .i64 S.e]) ∧ Below W.heap.size W w' := by
  have hc1 := h.c1
  clear h
  by_cases he : S.e = 0
  · rw [if_pos he]
    rw [he] at hc1 ⊢
    clear he
    go_enter Tryz.func82, Tryz.ntmps82
    go_wp2_with fail
    go_ret2
    exact ⟨rfl, Below.refl _ _⟩
  · rw [if_neg he]
    have hne2 : (S.e != 0) = true := bne_iff_ne.2 he
    clear he
    go_enter Tryz.func82, Tryz.ntmps82
    go_wp2_with fail
    go_quiet (fail)
    go_wp2_with fail
    go_ret2
    exact ⟨rfl, below_drewN (Below.refl _ _) _⟩
end
end Go.Proofs.YtekfjcaihocmmaaGreatDoor

/- nodes: a node's content. -/
namespace Go.Proofs.YtekfjcaihocmmaaGreatDoor
open Go.RowKit Go.KK Go.Shelf Go.Maps
set_option linter.unusedVariables false
set_option linter.unusedSimpArgs false

theorem LA.turn {w0 W W' : World} {Z F : Nat → Prop} {sa : Nat} {xs : List ND} (h : LA w0 W Z sa xs) (ht : Turn F W W') (hd : ∀ b, Z b → ¬ F b) (hf : ∀ b, F b → w0.heap.size ≤ b) : LA w0 W' Z sa xs :=
  ⟨h.ar.turn ht hd, h.z, h.bl.trans (ht.below hf h.bl.size)⟩
def TnI (n : TN) : Prop := I64 n.k ∧ I64 n.i ∧ I64 n.e ∧ I64 n.s ∧ I64 n.h ∧ ∀ i ∈ n.u, I64 i
/-- A node as a value. -/
def tnV (n : TN) (q : Value) : Value := .agg #[.int .i64 n.k, .int .i64 n.i, .int .i64 n.e, .int .i64 n.s, .int .i64 n.h, q]
section
variable {w0 W V V' : World} {Z Z' Z2 : Nat → Prop} {sa bk b3 : Nat} {S S' S2 : KS} {ex cx : Int} {cs : Array Value} {v v' : Value} {l l' : List Int} {P : World → Prop}
end
theorem txS_i64 {S : KS} {u : List Int} (ok : Okay S.x) : ∀ j, ∀ i ∈ (txS S u j).2, I64 i
  | 0, i, h => by cases h
  | j + 1, i, h => by
    rw [txS] at h
    rcases List.mem_append.1 h with h | h
    · exact txS_i64 ok j i h
    · rw [List.mem_singleton.1 h]
      exact tx_i ((txS_go S u j).ok ok) _
section
variable {w0 W : World} {Z : Nat → Prop} {sa bk : Nat} {S : KS} {ex cx : Int}
end
end Go.Proofs.YtekfjcaihocmmaaGreatDoor

