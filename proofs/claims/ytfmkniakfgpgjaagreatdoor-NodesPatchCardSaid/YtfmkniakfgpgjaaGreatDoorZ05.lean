import Derived.Test.YtfmkniakfgpgjaaGreatDoorZ04
import Derived.Carry
import Derived.Test.YtfmkniakfgpgjaaGreatDoorZ01
import Derived.Deep.RegionHeld3
import Derived.Laws.ResultCell
import Derived.Lib.Builder
import Derived.Lib.AppendStr
import Derived.Lib.UnsafeStr
import Derived.Laws.Externs
import Derived.Test.YtfmkniakfgpgjaaGreatDoorZ02
import Derived.Maps.Range
import Derived.Test.YtfmkniakfgpgjaaGreatDoorZ03
import Derived.Deep.QuietTactic
import Derived.BigQuiet
import Derived.Deep.RegionWith
import Derived.Deep.RegionLaw
import Derived.Lib.ItoaLen
/- term: New, Len, Node; crypto: what makes and reads nodes. -/
namespace Go.Proofs.YtfmkniakfgpgjaaGreatDoor
open Go.RowKit Go.KK Go.Shelf Go.Maps
set_option linter.unusedVariables false
set_option linter.unusedSimpArgs false

/-- The program's arena at block st, all of its blocks in Z. -/
def AR (w : World) (Z : Nat → Prop) (st : Nat) (xs : List ND) : Prop := ∃ mp v qs, ArP w Z st mp v xs qs
def ArS (w : World) (Z : Nat → Prop) (st : Nat) (xs : List ND) (w' : World) : Prop := ∃ Z', AR w' Z' st xs ∧ Turn Z w w' ∧ ∀ b, Z' b → Z b ∨ w.heap.size ≤ b
theorem ArS.of {w w' : World} {Z : Nat → Prop} {st mp : Nat} {xs : List ND} (h : MakS w Z st mp xs w') : ArS w Z st xs w' := by
  obtain ⟨Z', v, qs, h1, h2, h3⟩ := h
  exact ⟨Z', ⟨mp, v, qs, h1⟩, h2, h3⟩
theorem AR.ext {w w' : World} {Z : Nat → Prop} {st : Nat} {xs : List ND} (h : AR w Z st xs) (hb : Below w.heap.size w w') : AR w' Z st xs := by
  obtain ⟨mp, v, qs, h1⟩ := h
  exact ⟨mp, v, qs, h1.ext hb⟩
theorem AR.zlt {w : World} {Z : Nat → Prop} {st : Nat} {xs : List ND} (h : AR w Z st xs) : ∀ b, Z b → b < w.heap.size := by
  obtain ⟨mp, v, qs, h1⟩ := h
  exact h1.zlt
theorem AR.ok {w : World} {Z : Nat → Prop} {st : Nat} {xs : List ND} (h : AR w Z st xs) : Okay xs := by
  obtain ⟨mp, v, qs, h1⟩ := h
  exact h1.ok
theorem AR.vw {w : World} {Z : Nat → Prop} {st : Nat} {xs : List ND} (h : AR w Z st xs) : ArV w 122 st xs := by
  obtain ⟨mp, v, qs, h1⟩ := h
  exact Ar.v h1
theorem AR.stay {w w' : World} {Z : Nat → Prop} {st : Nat} {xs : List ND} (h : AR w Z st xs) (hb : Below w.heap.size w w') : ArS w Z st xs w' := ⟨Z, h.ext hb, .of_below hb, fun _ h => .inl h⟩
/-- Behind a call that only lays blocks. -/
theorem ArS.first {w w1 w2 : World} {Z : Nat → Prop} {st : Nat} {xs : List ND} (hb : Below w.heap.size w w1) (h : ArS w1 Z st xs w2) : ArS w Z st xs w2 := by
  obtain ⟨Z', h1, h2, h3⟩ := h
  refine ⟨Z', h1, (Turn.of_below hb).trans h2 (fun _ h => .inl h), fun b hz => (h3 b hz).imp id fun h => Nat.le_trans hb.size h⟩
theorem ArS.next {w w1 w2 : World} {Z : Nat → Prop} {st : Nat} {xs : List ND} (h : ArS w Z st xs w1) (hb : Below w1.heap.size w1 w2) : ArS w Z st xs w2 := by
  obtain ⟨Z', h1, h2, h3⟩ := h
  exact ⟨Z', h1.ext hb, h2.trans (.of_below (F := Z) hb) (fun _ h => .inl h), h3⟩
theorem ArS.chain {w w1 w2 : World} {Z Z1 : Nat → Prop} {st : Nat} {xs : List ND} (ht : Turn Z w w1) (hz : ∀ b, Z1 b → Z b ∨ w.heap.size ≤ b) (h : ArS w1 Z1 st xs w2) : ArS w Z st xs w2 := by
  obtain ⟨Z', h1, h2, h3⟩ := h
  exact ⟨Z', h1, ht.trans h2 hz, fun b hb => (h3 b hb).elim (hz b) fun h => .inr (Nat.le_trans ht.size h)⟩

theorem new_any (w : World) : Calls Tryz.prog 32 #[] w fun e w' => ∃ Z st, e = .returned (.pointer (some ⟨st, 0, none⟩)) ∧ AR w' Z st [] ∧ (∀ b, Z b → w.heap.size ≤ b) ∧ Below w.heap.size w w' := by
  have hmm := @run_makeMap Tryz.prog
  go_enter Tryz.func32, Tryz.ntmps32
  go_wp2
  go_ret
  have B1 : Below w.heap.size w (w.alloc (.map #[] 0)) := (Below.refl _ _).alloc (Nat.le_refl _) _
  have hm0 := World.ownsMap_made (H := Unit) w Tryz.prog 9 (plainElem Tryz.prog 3)
  refine ⟨fun b => b = w.heap.size ∨ b = w.heap.size + 1, w.heap.size + 1, by simp, ⟨w.heap.size, .slice none 0 0, [], ?_⟩, fun b hb => by rcases hb with rfl | rfl <;> omega, B1.alloc (by simp) _⟩
  have hsz : (w.alloc (.map #[] 0)).heap.size = w.heap.size + 1 := by simp
  refine ⟨?_, World.ownsRow_nil _ _ _ _, rfl, fun j x q h => by simp at h, fun j x q b h => by simp at h, ⟨.map [], ?_, mapOk_nil _⟩, .inr rfl, ⟨.inl rfl, by omega⟩, fun b h => (by cases h), fun b hb => ?_, okay_nil⟩
  · have := heap_alloc_new (w.alloc (.map #[] 0)) (.cells #[.slice none 0 0, .map (some w.heap.size)] 122)
    rw [hsz] at this
    exact this
  · exact hm0.alloc _
  · have h2 : ((w.alloc (.map #[] 0)).alloc (.cells #[.slice none 0 0, .map (some w.heap.size)] 122)).heap.size = w.heap.size + 1 + 1 := by simp
    rcases hb with rfl | rfl <;> omega
theorem len_any (st : Nat) (xs : List ND) (w : World) (h : ArV w 122 st xs) :
    Calls Tryz.prog 41 #[.pointer (some ⟨st, 0, none⟩)] w fun e w' => e = .returned (.int .i64 xs.length) ∧ w' = w := by
  obtain ⟨A, c, m, h0, h1, hn⟩ := h.parts
  clear hn h
  go_enter Tryz.func41, Tryz.ntmps41
  go_wp2
  go_ret
  exact ⟨rfl, rfl⟩
set_option maxHeartbeats 2000000 in
set_option maxRecDepth 20000 in
theorem node_any (st : Nat) (xs : List ND) (t : Int) (w : World) (h : ArV w 122 st xs) :
    Calls Tryz.prog 31 #[.pointer (some ⟨st, 0, none⟩), .int .i64 t] w fun e w' => ∃ A c, e = .returned (.tuple #[.agg #[.int .i64 (nodeF xs t).o, .int .i64 (nodeF xs t).n, .string (nodeF xs t).s, .slice A (nodeF xs t).l.length c], .int .i64 (nodeE xs t)]) ∧ w'.ownsRow w.heap.size 3 1 (.slice A (nodeF xs t).l.length c) (nodeF xs t).l.length ((nodeF xs t).l.map (.int .i64)) ∧ Below w.heap.size w w' := by
  have H := hid h
  have B0 := hid (show Below w.heap.size w (w.alloc (.cells #[.int .i64 0, .int .i64 0, .string ⟨#[]⟩, .slice none 0 0] 64)) from (Below.refl _ _).alloc (Nat.le_refl _) _)
  clear h
  rcases hh : hasB xs t with _ | _
  · have HF := hid (show nodeF xs t = nd0 by unfold nodeF; rw [hh]; rfl)
    have HE := hid (show nodeE xs t = 4 by unfold nodeE; rw [hh]; rfl)
    go_enter Tryz.func31, Tryz.ntmps31
    go_wp2_with fail
    refine (has_any st xs t _ (H.out.ext B0.out)).mono ?_
    rintro e1 w1 ⟨rfl, hw⟩
    subst hw
    rw [hh]
    go_wp2_with fail
    refine bodyPost_ret (v := .tuple #[.agg #[.int .i64 0, .int .i64 0, .string ⟨#[]⟩, .slice none 0 0], .int .i64 4]) ?_ rfl ⟨none, 0, ?_, ?_, B0.out⟩
    · rw [results_cell_tmp rfl]
      go_simp
    · rw [HF.out, HE.out]; rfl
    · rw [HF.out]; exact World.ownsRow_nil _ _ _ _
  · have HF := hid (show nodeE xs t = 0 by unfold nodeE; rw [hh]; rfl)
    have X0 := hid (show (w.alloc (.cells #[.int .i64 0, .int .i64 0, .string ⟨#[]⟩, .slice none 0 0] 64)).ownsRow w.heap.size 64 4 (.slice (some ⟨w.heap.size, 0, none⟩) 1 1) 1 [.int .i64 0, .int .i64 0, .string ⟨#[]⟩, .slice none 0 0] from
      ⟨by simp, .inr ⟨w.heap.size, 1, _, rfl, Nat.le_refl _, heap_alloc_new w _, Nat.le_refl _, by decide, rfl, by simp⟩⟩)
    go_enter Tryz.func31, Tryz.ntmps31
    go_wp2_with fail
    refine (has_any st xs t _ (H.out.ext B0.out)).mono ?_
    rintro e1 w1 ⟨rfl, hw⟩
    subst hw
    rw [hh]
    generalize w.alloc (.cells #[.int .i64 0, .int .i64 0, .string ⟨#[]⟩, .slice none 0 0] 64) = W0 at *
    have hhb := hh
    unfold hasB at hhb
    simp only [Bool.and_eq_true, decide_eq_true_eq] at hhb
    obtain ⟨hz0, hz1⟩ := hhb
    obtain ⟨j, rfl⟩ := Int.eq_ofNat_of_zero_le hz0
    have hlt0 : w.heap.size < W0.heap.size := (X0.out.lt w.heap.size rfl).2
    obtain ⟨A', c', m', q0, qm, hnd⟩ := (H.out.ext B0.out).parts
    have hjn : j < xs.length := by omega
    obtain ⟨bn, on, y, Ay, cy, rfl, hy, y0, y1, y2, y3, hsy⟩ := hnd.at hjn
    have HY := hid (show nodeF xs (j : Int) = y by
      unfold nodeF
      rw [hh, if_pos rfl, Int.toNat_natCast, List.getD, hy]; rfl)
    have HSY := hid hsy
    have hyl : y.l.length ≤ 64 := by
      have := (H.out.ok.may j y hy)
      unfold mayB shB at this
      simp only [Bool.and_eq_true, decide_eq_true_eq] at this
      exact this.1.1.1.1.1.1.2
    clear hh hy hsy hnd hz0 hz1
    go_wp2_with fail
    refine (clone_own Ay _ cy y.l _ (HSY.out.alloc _) (by omega)).mono ?_
    rintro e3 w3 ⟨q0', rfl, oq, b3⟩
    obtain ⟨Aq, cq, rfl, -⟩ := SlA.owned oq
    have X1 := hid (own_ext (own_ext X0.out ((Below.refl _ _).alloc (Nat.le_refl _) (.cells #[.int .i64 y.o, .int .i64 y.n, .string y.s, .slice Ay y.l.length cy] 64))) b3)
    have X2 := hid (own_ext (show (W0.alloc (.cells #[.int .i64 y.o, .int .i64 y.n, .string y.s, .slice Ay y.l.length cy] 64)).ownsRow W0.heap.size 64 4 (.slice (some ⟨W0.heap.size, 0, none⟩) 1 1) 1 [.int .i64 y.o, .int .i64 y.n, .string y.s, .slice Ay y.l.length cy] from
      ⟨by simp, .inr ⟨W0.heap.size, 1, _, rfl, Nat.le_refl _, heap_alloc_new W0 _, Nat.le_refl _, by decide, rfl, by simp⟩⟩) b3)
    have B3 := hid ((B0.out.alloc B0.out.size (.cells #[.int .i64 y.o, .int .i64 y.n, .string y.s, .slice Ay y.l.length cy] 64)).trans (b3.mono (by have := B0.out.size; simp; omega)))
    have OQ := hid oq
    have hsz1 : (W0.alloc (.cells #[.int .i64 y.o, .int .i64 y.n, .string y.s, .slice Ay y.l.length cy] 64)).heap.size = W0.heap.size + 1 := by simp
    obtain ⟨⟨k0, k1, k2, k3⟩, f0, f1, f2, f3⟩ := box4 X1.out
    obtain ⟨⟨l0, l1, l2, l3⟩, g0, g1, g2, g3⟩ := box4 X2.out
    have hne1 : ¬ W0.heap.size = w.heap.size := by omega
    have hne2 : ¬ w.heap.size = W0.heap.size := by omega
    rw [hsz1] at oq
    have HQ := hid oq
    clear oq b3 y0 y1 y2 y3 q0 qm
    go_wp2
    refine bodyPost_ret (v := .tuple #[.agg #[.int .i64 y.o, .int .i64 y.n, .string y.s, .slice Aq y.l.length cq], .int .i64 0]) ?_ rfl ⟨Aq, cq, ?_, ?_, ?_⟩
    · rw [results_cell_tmp rfl]
      go_simp
    · rw [HY.out, HF.out]
    · rw [HY.out]
      refine own_mono (own_block HQ.out fun b hb => ?_) (by omega)
      have hb1 := (HQ.out.lt b hb).1
      rw [Below.heap_setCell _ _ _ b (by show b ≠ w.heap.size; omega), Below.heap_setCell _ _ _ b (by show b ≠ w.heap.size; omega), Below.heap_setCell _ _ _ b (by show b ≠ w.heap.size; omega), Below.heap_setCell _ _ _ b (by show b ≠ w.heap.size; omega), Below.heap_setCell _ _ _ b (by show b ≠ W0.heap.size; omega)]
    · exact ((((B3.out.setCell (p := ⟨W0.heap.size, 3, none⟩) (by show w.heap.size ≤ W0.heap.size; omega) _).setCell (p := ⟨w.heap.size, 0, none⟩) (Nat.le_refl _) _).setCell (p := ⟨w.heap.size, 1, none⟩) (Nat.le_refl _) _).setCell (p := ⟨w.heap.size, 2, none⟩) (Nat.le_refl _) _).setCell (p := ⟨w.heap.size, 3, none⟩) (Nat.le_refl _) _
end Go.Proofs.YtfmkniakfgpgjaaGreatDoor

/- term: the arena's Make, Len, Node told in words. -/
namespace Go.Proofs.YtfmkniakfgpgjaaGreatDoor
open Go.RowKit Go.KK Go.Shelf Go.Maps
set_option linter.unusedVariables false
set_option linter.unusedSimpArgs false

/-- A call that makes the node x. -/
def MkS (w : World) (Z : Nat → Prop) (st : Nat) (xs : List ND) (x : ND) (e : Ending) (w' : World) : Prop := e = .returned (.tuple #[.int .i64 (makI xs x), .int .i64 (makE xs x)]) ∧ ArS w Z st (makT xs x) w'
theorem sla_row {w : World} {T : TypeId} (vs : Array Value) (hm : vs.size ≤ maxLen) : SlA (w.alloc (.cells vs T)) 1 (some ⟨w.heap.size, 0, none⟩) vs.size vs.size vs.toList :=
  ⟨Nat.le_refl _, hm, by simp, fun j u hj => ⟨w.heap.size, 0, rfl, by rw [World.cell?_alloc_at _ _ _ _ rfl, Nat.zero_add]; simpa using hj⟩⟩
theorem i64_lit {n : Int} (h0 : 0 ≤ n) (h1 : n ≤ 200000) : I64 n := ⟨by omega, by omega⟩
theorem ndI_nd {o : Int} {l : List Int} (ho : I64 o) (hl : ∀ i ∈ l, I64 i) : NdI (ndN o l) := ⟨ho, by unfold I64 ndN; simp, hl⟩
theorem ndI_at {n : Int} (h : I64 n) : NdI (atN n) := ⟨by unfold I64 atN; simp, h, fun i hi => by simp [atN] at hi⟩
theorem AR.turn {F : Nat → Prop} {w w' : World} {Z : Nat → Prop} {st : Nat} {xs : List ND} (h : AR w Z st xs) (ht : Turn F w w') (hd : ∀ b, Z b → ¬ F b) : AR w' Z st xs := by
  obtain ⟨mp, v, qs, h1⟩ := h
  exact ⟨mp, v, qs, h1.turn ht hd⟩
section
variable (Z : Nat → Prop) (st : Nat) (xs : List ND) (B : Nat) (w : World)
theorem mke_any (x : ND) (A : Option Addr) (c : Nat) (h : AR w Z st xs) (hl : SlA w 1 A x.l.length c (x.l.map (.int .i64))) (hT : Tb B w) (hB : B ≤ w.heap.size) (hx : NdI x) :
    Calls Tryz.prog 34 #[.pointer (some ⟨st, 0, none⟩), .agg #[.int .i64 x.o, .int .i64 x.n, .string x.s, .slice A x.l.length c]] w (MkS w Z st xs x) := by
  obtain ⟨mp, v, qs, h⟩ := h
  exact (make_any Z st mp v xs qs x A c B w h hl hT hB hx).mono fun e w' ⟨h1, h2⟩ => ⟨h1, .of h2⟩
end
end Go.Proofs.YtfmkniakfgpgjaaGreatDoor

/- term: a strings.Builder at the head of a writer: copyCheck, Len, WriteString, WriteByte, String. -/
namespace Go.Proofs.YtfmkniakfgpgjaaGreatDoor
open Go.RowKit Go.KK Go.Shelf Go.Maps
set_option linter.unusedVariables false
set_option linter.unusedSimpArgs false

theorem wr_size : (Tryz.prog.info? 164).map (·.size) = some 2 := by kernel_rfl
/-- All blocks but b and rows of bytes are as they were. -/
def Oth (b : Nat) (w w' : World) : Prop := ∀ k cs T fz, w.heap[k]? = some (.cells cs T fz) → T ≠ 5 → k ≠ b → w'.heap[k]? = w.heap[k]?
theorem Oth.refl (b : Nat) (w : World) : Oth b w w := fun _ _ _ _ _ _ _ => rfl
theorem Oth.trans {b : Nat} {w w' w'' : World} (h : Oth b w w') (k : Oth b w' w'') : Oth b w w'' := fun i cs T fz e hT hb => (k i cs T fz ((h i cs T fz e hT hb).trans e) hT hb).trans (h i cs T fz e hT hb)
theorem Oth.below {b : Nat} {w w' : World} (h : Below w.heap.size w w') : Oth b w w' := fun i cs T fz e _ _ => h.block i (by
  rcases Nat.lt_or_ge i w.heap.size with h' | h'
  · exact h'
  · simp [Array.getElem?_eq_none h'] at e)
theorem Oth.set (b o : Nat) (w : World) (v : Value) : Oth b w (w.setCell ⟨b, o, none⟩ v) := fun i _ _ _ _ _ hb => Below.heap_setCell w ⟨b, o, none⟩ v i hb
theorem Oth.grown {b base n : Nat} {v : Value} {bs : List Value} {w w' : World} (h : w.ownsRow base 5 1 v n bs) (hg : w.grownBy w' v.ownBlock) : Oth b w w' := fun i cs T fz e hT _ => hg.block i (by
  rcases Nat.lt_or_ge i w.heap.size with h' | h'
  · exact h'
  · simp [Array.getElem?_eq_none h'] at e) (fun e2 => by
    rcases h.2 with ⟨rfl, _⟩ | ⟨g, cap, cur, rfl, _, hg', _⟩
    · cases e2
    · injection e2 with e2
      simp only at e2
      subst e2
      rw [hg'] at e
      injection e with e
      injection e with _ e _
      exact hT e.symm)
theorem Oth.cell {b : Nat} {w w' : World} {k o : Nat} {cs : Array Value} {T : TypeId} {fz : Nat × Nat} {v : Value} (h : Oth b w w') (e : w.heap[k]? = some (.cells cs T fz)) (hT : T ≠ 5) (hb : k ≠ b) (hc : w.cell? ⟨k, o, none⟩ = some v) : w'.cell? ⟨k, o, none⟩ = some v :=
  (World.cell?_of_block (a := ⟨k, o, none⟩) (h k cs T fz e hT hb)).trans hc
section
variable {B b : Nat} {p a : Value} {bs : List Value} {w w' : World}
end
section
variable (B b : Nat) (a : Value) (bs : List Value) (w : World)
end
end Go.Proofs.YtfmkniakfgpgjaaGreatDoor

/- term: a writer writes a term (of its texts what a Replacer makes of them). -/
namespace Go.Proofs.YtfmkniakfgpgjaaGreatDoor
open Go.RowKit Go.KK Go.Shelf Go.Maps
set_option linter.unusedVariables false
set_option linter.unusedSimpArgs false

theorem str_cells (l : List UInt8) : Lib.strCells ⟨l.toArray⟩ = Lib.byteCells l := by unfold Lib.strCells Lib.byteCells; simp
theorem str_app (l m : List UInt8) : (⟨l.toArray⟩ : ByteArray) ++ ⟨m.toArray⟩ = ⟨(l ++ m).toArray⟩ := by
  apply str_ext
  rw [ByteArray.data_append, Array.toList_append]
theorem bsz (l : List UInt8) : (⟨l.toArray⟩ : ByteArray).size = l.length := by show l.toArray.size = _; simp
theorem bytes_app (l m : List UInt8) : Lib.byteCells l ++ Lib.byteCells m = Lib.byteCells (l ++ m) := by unfold Lib.byteCells; rw [List.map_append]
theorem itoa_any (n : Int) (hn : I64 n) (w : World) (hT : Tb w.heap.size w) : Calls Tryz.prog 82 #[.int .i64 n] w fun e w' => ∃ S : ByteArray, e = .returned (.string S) ∧ S = ⟨(Lib.itoa n).toArray⟩ ∧ Below w.heap.size w w' := by
  refine (Tryz.strconv_Itoa n hn.1 hn.2 w hT.here).mono ?_
  rintro e w' ⟨rfl, k, os, rfl⟩
  exact ⟨_, rfl, rfl, Lib.below_grow _ _ (Nat.le_refl _) _ _⟩
theorem op_range {o : Int} {n : Nat} (h : lenB o n = true) : 1 ≤ o ∧ o ≤ 12 := by
  unfold lenB at h
  rcases ha : arN o with _ | k
  · rw [ha] at h
    have := eq_of_beq h
    omega
  · unfold arN at ha
    split at ha <;> first | omega | cases ha
section
variable (W0 : World) (sa b : Nat) (xs : List ND)
/-- The cells of a term's node. -/
theorem node_cells {t : Nat} {x : ND} (hA : ArV W0 122 sa xs) (hx : xs[t]? = some x) : ∃ c bn on A' c', ∀ w, Below W0.heap.size W0 w → w.cell? ⟨sa, 0, none⟩ = some (.slice (some ⟨bn, on, none⟩) xs.length c) ∧
    w.cell? ⟨bn, on + t * 4, none⟩ = some (.int .i64 x.o) ∧ w.cell? ⟨bn, on + t * 4 + 1, none⟩ = some (.int .i64 x.n) ∧ w.cell? ⟨bn, on + t * 4 + 2, none⟩ = some (.string x.s) ∧ w.cell? ⟨bn, on + t * 4 + 3, none⟩ = some (.slice A' x.l.length c') ∧ SlA w 1 A' x.l.length c' (x.l.map (.int .i64)) := by
  have htl := (List.getElem?_eq_some_iff.1 hx).1
  obtain ⟨A, c, m, h0, -, hnd⟩ := hA.parts
  obtain ⟨bn, on, y, A', c', rfl, hy, y0, y1, y2, y3, y4⟩ := hnd.at htl
  rw [hx] at hy
  injection hy with hy
  subst hy
  have up : ∀ {w : World} {p : Addr} {v : Value}, Below W0.heap.size W0 w → W0.cell? p = some v → w.cell? p = some v := fun hb h => (hb.cell (p := _) (block_lt_of_cell h)).trans h
  exact ⟨c, bn, on, A', c', fun w hb => ⟨up hb h0, up hb y0, up hb y1, up hb y2, up hb y3, y4.ext hb⟩⟩
theorem name_cell {w : World} {T : TypeId} {k : Nat} (h3 : 3 ≤ k) (h12 : k ≤ 12) :
    (w.alloc (.cells #[.string ⟨#[]⟩, .string ⟨#[]⟩, .string ⟨#[]⟩, .string ⟨#[108, 105, 115, 116]⟩, .string ⟨#[104, 97, 115, 104]⟩, .string ⟨#[109, 105, 120]⟩, .string ⟨#[107, 101, 121]⟩, .string ⟨#[112, 117, 98]⟩, .string ⟨#[115, 101, 97, 108]⟩, .string ⟨#[101, 110, 99]⟩, .string ⟨#[115, 105, 103]⟩, .string ⟨#[109, 97, 99]⟩, .string ⟨#[98, 108, 105, 110, 100]⟩] T)).cell? ⟨w.heap.size, k, none⟩ = some (.string ⟨(nameB (k : Int)).toArray⟩) := by
  rw [World.cell?_alloc_at _ _ _ _ rfl]
  have : k = 3 ∨ k = 4 ∨ k = 5 ∨ k = 6 ∨ k = 7 ∨ k = 8 ∨ k = 9 ∨ k = 10 ∨ k = 11 ∨ k = 12 := by omega
  rcases this with rfl | rfl | rfl | rfl | rfl | rfl | rfl | rfl | rfl | rfl <;> rfl
/-- The parts' texts, up to the j-th. -/
def preT (xs : List ND) (x : ND) (j : Nat) : List UInt8 := nameB x.o ++ 40 :: joinC ((x.l.take j).map fun y => showL xs y.toNat)
theorem preT_zero (xs : List ND) (x : ND) : preT xs x 0 = nameB x.o ++ [40] := rfl
theorem preT_step {xs : List ND} {x : ND} {j : Nat} {y : Int} (h : x.l[j]? = some y) : preT xs x (j + 1) = preT xs x j ++ ((if j = 0 then [] else [44]) ++ showL xs y.toNat) := by
  unfold preT
  rw [take_one h, List.map_append, List.map_singleton, joinC_snoc]
  by_cases hj : j = 0
  · subst hj; simp [joinC]
  · have hl := (List.getElem?_eq_some_iff.1 h).1
    rw [if_neg (by
      intro e
      rw [List.map_eq_nil_iff, List.take_eq_nil_iff] at e
      rcases e with e | e
      · omega
      · rw [e] at hl; simp at hl), if_neg hj]
    simp
theorem preT_end {xs : List ND} (ok : Okay xs) {t : Nat} {x : ND} (hx : xs[t]? = some x) (h1 : x.o ≠ 1) (h2 : x.o ≠ 2) : showL xs t = preT xs x x.l.length ++ [41] := by
  rw [show_parts ok hx h1 h2]
  unfold preT
  rw [List.take_length]
  simp
end
end Go.Proofs.YtfmkniakfgpgjaaGreatDoor

/- Rows of cells in words (of no program). -/
namespace Go.KK
open Go.RowKit
set_option linter.unusedVariables false
set_option linter.unusedSimpArgs false

/-- A list with another one stored over it. -/
def setL (L : List Value) : Nat → List Value → List Value
  | _, [] => L
  | o, v :: r => setL (L.set o v) (o + 1) r
theorem setL_len : ∀ (vs : List Value) (o : Nat) (L : List Value), (setL L o vs).length = L.length
  | [], _, _ => rfl
  | v :: r, o, L => by rw [setL, setL_len r]; simp
theorem setL_get : ∀ (vs : List Value) (o : Nat) (L : List Value) (j : Nat), o + vs.length ≤ L.length → (setL L o vs)[j]? = if o ≤ j ∧ j < o + vs.length then vs[j - o]? else L[j]?
  | [], o, L, j, h => by
    rw [setL, if_neg (show ¬ (o ≤ j ∧ j < o + ([] : List Value).length) by rw [List.length_nil]; omega)]
  | v :: r, o, L, j, h => by
    have h' : o + (r.length + 1) ≤ L.length := by simpa using h
    rw [setL, setL_get r (o + 1) (L.set o v) j (by simp; omega), List.length_cons]
    by_cases h1 : j = o
    · subst h1
      rw [if_neg (by omega), if_pos (by omega), List.getElem?_set_self (by omega), Nat.sub_self]; rfl
    · by_cases h2 : o ≤ j ∧ j < o + (r.length + 1)
      · rw [if_pos (by omega), if_pos h2, show j - o = (j - (o + 1)) + 1 by omega, List.getElem?_cons_succ]
      · rw [if_neg (by omega), if_neg h2, List.getElem?_set_ne (by omega)]

section
variable {w : World} {base : Nat} {e : TypeId} {g n cap : Nat} {xs : List Value}
theorem own_full (h : w.ownsRow base e 1 (.slice (some ⟨g, 0, none⟩) n cap) n xs) : ∃ L : List Value, w.ownsRow base e 1 (.slice (some ⟨g, 0, none⟩) cap cap) cap L ∧ L.length = cap ∧ L.take n = xs ∧ n ≤ cap ∧ cap ≤ maxLen := by
  rcases h.2 with ⟨h', _⟩ | ⟨g', cap', cur, h', hb, hg, hnc, hcm, hcs, htake⟩
  · simp at h'
  · simp only [Value.slice.injEq, Option.some.injEq, Addr.mk.injEq, and_true, true_and] at h'
    obtain ⟨rfl, rfl⟩ := h'
    have hl : cur.toList.length = cap := by simpa using hcs
    exact ⟨cur.toList, ⟨by rw [hl]; omega, .inr ⟨g, cap, cur, rfl, hb, hg, Nat.le_refl _, hcm, hcs, List.take_of_length_le (by omega)⟩⟩, hl, by rw [← htake]; simp, hnc, hcm⟩
theorem own_part {L : List Value} (h : w.ownsRow base e 1 (.slice (some ⟨g, 0, none⟩) cap cap) cap L) (hn : n ≤ cap) : w.ownsRow base e 1 (.slice (some ⟨g, 0, none⟩) n cap) n (L.take n) := by
  rcases h.2 with ⟨h', _⟩ | ⟨g', cap', cur, h', hb, hg, hnc, hcm, hcs, htake⟩
  · simp at h'
  · simp only [Value.slice.injEq, Option.some.injEq, Addr.mk.injEq, and_true, true_and] at h'
    obtain ⟨rfl, rfl⟩ := h'
    have hl : cur.toList.length = cap := by simpa using hcs
    have hL : L = cur.toList := by rw [← htake]; exact List.take_of_length_le (by omega)
    subst hL
    exact ⟨by rw [List.length_take, hl, Nat.min_eq_left hn]; omega, .inr ⟨g, cap, cur, rfl, hb, hg, hn, hcm, hcs, by rw [Nat.mul_one]⟩⟩
theorem own_made {cur : Array Value} (hb : base ≤ w.heap.size) (hm : cap ≤ maxLen) (hs : cur.size = cap) :
    (w.alloc (.cells cur e)).ownsRow base e 1 (.slice (some ⟨w.heap.size, 0, none⟩) cap cap) cap cur.toList :=
  ⟨by simpa using hs, .inr ⟨w.heap.size, cap, cur, rfl, hb, heap_alloc_new w _, Nat.le_refl _, hm, by omega, List.take_of_length_le (by simpa using by omega)⟩⟩
theorem own_setCells : ∀ (vs : List Value) (o : Nat) (w : World) (L : List Value), w.ownsRow base e 1 (.slice (some ⟨g, 0, none⟩) n cap) n L → (w.setCells g o vs).ownsRow base e 1 (.slice (some ⟨g, 0, none⟩) n cap) n (setL L o vs)
  | [], _, _, _, h => h
  | v :: r, o, w, L, h => by
    rw [World.setCells, setL]
    exact own_setCells r (o + 1) _ _ (h.stored o v).1
end
theorem grown_setCells {a : World} {g : Nat} : ∀ (vs : List Value) (o : Nat) (w : World), a.grownBy w (some g) → a.grownBy (w.setCells g o vs) (some g)
  | [], _, _, h => h
  | v :: r, o, w, h => by
    rw [World.setCells]
    exact grown_setCells r (o + 1) _ ⟨h.os, h.tape, h.output, by simpa [World.setCell] using h.size, fun i hi hne => (Below.heap_setCell w ⟨g, o, none⟩ v i (by rintro rfl; exact hne rfl)).trans (h.block i hi hne)⟩
theorem grown_drew {a w : World} {r : Option Nat} (h : a.grownBy w r) : a.grownBy w.drew r := ⟨h.os, h.tape, h.output, h.size, h.block⟩
theorem grown_drewN {a w : World} {r : Option Nat} (h : a.grownBy w r) (k : Nat) : a.grownBy (w.drewN k) r := ⟨h.os, h.tape, h.output, h.size, h.block⟩
theorem grown_undrew {a w : World} {r : Option Nat} (h : a.drew.grownBy w r) : a.grownBy w r := ⟨h.os, h.tape, h.output, h.size, h.block⟩
theorem below_grown {a w : World} (h : a.grownBy w none) : Below a.heap.size a w := ⟨h.os, h.tape, h.output, h.size, fun i hi => h.block i hi (by simp)⟩

/-- A number put in at its place. -/
def insL (u : List Int) (i : Nat) (x : Int) : List Int := u.take i ++ x :: u.drop i
theorem insL_len (u : List Int) (i : Nat) (x : Int) (h : i ≤ u.length) : (insL u i x).length = u.length + 1 := by
  unfold insL; simp; omega
theorem insL_get {u : List Int} {i : Nat} (x : Int) (h : i ≤ u.length) (j : Nat) : ((insL u i x).map (Value.int .i64))[j]? = if j < i then (u.map (Value.int .i64))[j]? else if j = i then some (Value.int .i64 x) else (u.map (Value.int .i64))[j - 1]? := by
  unfold insL
  rw [List.map_append, List.map_cons, List.map_take, List.map_drop]
  have hl : ((u.map (Value.int .i64)).take i).length = i := by simp; omega
  by_cases h1 : j < i
  · rw [if_pos h1, List.getElem?_append_left (by omega), List.getElem?_take, if_pos h1]
  · rw [if_neg h1, List.getElem?_append_right (by omega), hl]
    by_cases h2 : j = i
    · subst h2; simp
    · rw [if_neg h2, show j - i = (j - 1 - i) + 1 by omega, List.getElem?_cons_succ, List.getElem?_drop, show i + (j - 1 - i) = j - 1 by omega]

end Go.KK

/- term: what is carried from call to call: an arena, a row of numbers. -/
namespace Go.Proofs.YtfmkniakfgpgjaaGreatDoor
open Go.RowKit Go.KK Go.Shelf Go.Maps
set_option linter.unusedVariables false
set_option linter.unusedSimpArgs false

/-- The law's arena, and what the call has left alone. -/
structure LA (w0 W : World) (Z : Nat → Prop) (sa : Nat) (xs : List ND) : Prop where
  ar : AR W Z sa xs
  z : ∀ b, Z b → w0.heap.size ≤ b
  bl : Below w0.heap.size w0 W
/-- From one world to the next. -/
structure Mv (Z : Nat → Prop) (W : World) (Z' : Nat → Prop) (W' : World) : Prop where
  t : Turn Z W W'
  n : ∀ b, Z' b → Z b ∨ W.heap.size ≤ b
theorem Mv.below {Z : Nat → Prop} {W W' : World} (hb : Below W.heap.size W W') : Mv Z W Z W' := ⟨.of_below hb, fun _ h => .inl h⟩
section
variable {w0 W W' : World} {Z Z' : Nat → Prop} {sa : Nat} {xs xs' : List ND}
theorem LA.mv (h : LA w0 W Z sa xs) (m : Mv Z W Z' W') (ha : AR W' Z' sa xs') : LA w0 W' Z' sa xs' :=
  ⟨ha, fun b hb => (m.n b hb).elim (h.z b) fun h' => Nat.le_trans h.bl.size h', h.bl.trans (m.t.below h.z h.bl.size)⟩
theorem LA.ext (h : LA w0 W Z sa xs) (hb : Below W.heap.size W W') : LA w0 W' Z sa xs := h.mv (.below hb) (h.ar.ext hb)
theorem LA.alloc (h : LA w0 W Z sa xs) (o : Obj) : LA w0 (W.alloc o) Z sa xs := h.ext ((Below.refl _ _).alloc (Nat.le_refl _) o)
theorem LA.sz (h : LA w0 W Z sa xs) : w0.heap.size ≤ W.heap.size := h.bl.size
theorem l_mke (h : LA w0 W Z sa xs) (hT : Tb w0.heap.size w0) {x : ND} {A : Option Addr} {c : Nat} (hl : SlA W 1 A x.l.length c (x.l.map (.int .i64))) (hx : NdI x) :
    Calls Tryz.prog 34 #[.pointer (some ⟨sa, 0, none⟩), .agg #[.int .i64 x.o, .int .i64 x.n, .string x.s, .slice A x.l.length c]] W fun e w' => ∃ Z', e = .returned (.tuple #[.int .i64 (makI xs x), .int .i64 (makE xs x)]) ∧ LA w0 w' Z' sa (makT xs x) ∧ Mv Z W Z' w' := by
  refine (mke_any Z sa xs w0.heap.size W x A c h.ar hl (hT.on h.bl) h.bl.size hx).mono ?_
  rintro e w' ⟨rfl, Z', h1, h2, h3⟩
  exact ⟨Z', rfl, h.mv ⟨h2, h3⟩ h1, ⟨h2, h3⟩⟩
end
/-- A row of numbers of the call's own. -/
abbrev RowI (W : World) (b0 : Nat) (v : Value) (l : List Int) : Prop := W.ownsRow b0 3 1 v l.length (l.map (.int .i64))
/-- The arena and a row. -/
structure T1 (w W : World) (sa : Nat) (Z : Nat → Prop) (X : List ND) (nv : Value) (ns : List Int) : Prop where
  la : LA w W Z sa X
  nr : RowI W w.heap.size nv ns
  na : ∀ b, nv.ownBlock = some b → ¬ Z b
section
variable {w W W' : World} {sa : Nat} {Z Z' : Nat → Prop} {X X' : List ND} {nv : Value} {ns : List Int}
theorem T1.ext (h : T1 w W sa Z X nv ns) (hb : Below W.heap.size W W') : T1 w W' sa Z X nv ns := ⟨h.la.ext hb, own_ext h.nr hb, h.na⟩
theorem T1.mv (h : T1 w W sa Z X nv ns) (hl : LA w W' Z' sa X') (hv : Mv Z W Z' W') : T1 w W' sa Z' X' nv ns where
  la := hl
  nr := own_block h.nr fun b hb => hv.t.block b (h.nr.lt b hb).2 (h.na b hb)
  na := fun b hb hz => (hv.n b hz).elim (h.na b hb) fun h' => by have := (h.nr.lt b hb).2; omega
theorem T1.app (h : T1 w W sa Z X nv ns) {nv' : Value} {ns' : List Int} (hn : RowI W' w.heap.size nv' ns') (hg : W.grownBy W' nv.ownBlock) (hl : nv'.ownBlock = nv.ownBlock ∨ nv'.ownBlock = some W.heap.size) : T1 w W' sa Z X nv' ns' := by
  have ht : Turn (fun b => nv.ownBlock = some b) W W' := Turn.grown hg fun b hb => .inl hb
  refine ⟨⟨h.la.ar.turn ht (fun b hz e => h.na b e hz), h.la.z, h.la.bl.trans (ht.below (fun b e => (h.nr.lt b e).1) h.la.sz)⟩, hn, fun b hb => ?_⟩
  rcases hl with hl | hl
  · exact h.na b (hl ▸ hb)
  · rw [hl] at hb
    injection hb with hb
    subst hb
    intro hz
    have := h.la.ar.zlt _ hz
    omega
theorem t1_nil (h : LA w W Z sa X) : T1 w W sa Z X (.slice none 0 0) [] := ⟨h, World.ownsRow_nil _ _ _ _, fun b hb => by cases hb⟩
end
/-- A number more at a row's end. -/
theorem rowI_snoc {W : World} {b0 : Nat} {v : Value} {l : List Int} {x : Int} (h : W.ownsRow b0 3 1 v (l.length + 1) (l.map (.int .i64) ++ [.int .i64 x])) : RowI W b0 v (l ++ [x]) := by
  unfold RowI
  rw [List.length_append, List.map_append]
  exact h
theorem rowI_at {W : World} {b0 b o n c : Nat} {l : List Int} {i : Nat} {x : Int} (h : W.ownsRow b0 3 1 (.slice (some ⟨b, o, none⟩) n c) l.length (l.map (.int .i64))) (hx : l[i]? = some x) : W.cell? ⟨b, o + i, none⟩ = some (.int .i64 x) := by
  obtain ⟨b', off, e, hc⟩ := (SlA.of_own h).2.cells i (.int .i64 x) (by rw [List.getElem?_map, hx]; rfl)
  injection e with e
  injection e with e1 e2
  subst e1; subst e2
  exact hc
end Go.Proofs.YtfmkniakfgpgjaaGreatDoor

/- term: Show (without a law's live). -/
namespace Go.Proofs.YtfmkniakfgpgjaaGreatDoor
open Go.RowKit Go.KK Go.Shelf Go.Maps
set_option linter.unusedVariables false
set_option linter.unusedSimpArgs false

/-- A term's text, or why there is none. -/
def showF (xs : List ND) (t : Int) : List UInt8 × Int := if hasB xs t then (if (showL xs t.toNat).length ≤ 4000 then (showL xs t.toNat, 0) else ([], 2)) else ([], 4)
theorem show_ne {xs : List ND} (ok : Okay xs) {t : Nat} (h : t < xs.length) : showL xs t ≠ [] := by
  have hx : xs[t]? = some xs[t] := List.getElem?_eq_getElem h
  generalize xs[t] = x at hx
  rw [show_at hx]
  unfold textOf
  split
  · simp
  · split
    · simp
    · simp
section
variable {w0 W : World} {Z : Nat → Prop} {sa : Nat} {xs : List ND}
theorem l_mk (h : LA w0 W Z sa xs) (hT : Tb w0.heap.size w0) {x : ND} {A : Option Addr} {c : Nat} (hl : SlA W 1 A x.l.length c (x.l.map (.int .i64))) (hx : NdI x) {xs' : List ND} {i er : Int} (hr : mk xs x = (xs', i, er)) :
    Calls Tryz.prog 34 #[.pointer (some ⟨sa, 0, none⟩), .agg #[.int .i64 x.o, .int .i64 x.n, .string x.s, .slice A x.l.length c]] W fun e w' => ∃ Z', e = .returned (.tuple #[.int .i64 i, .int .i64 er]) ∧ LA w0 w' Z' sa xs' ∧ Mv Z W Z' w' := by
  unfold mk at hr
  injection hr with h1 h2
  injection h2 with h2 h3
  rw [← h1, ← h2, ← h3]
  exact l_mke h hT hl hx
end
theorem la_new {w w' : World} {Z : Nat → Prop} {sa : Nat} (h : AR w' Z sa []) (hz : ∀ b, Z b → w.heap.size ≤ b) (hb : Below w.heap.size w w') : LA w w' Z sa [] := ⟨h, hz, hb⟩
end Go.Proofs.YtfmkniakfgpgjaaGreatDoor

/- crypto over the law's arena: of, known, Extract, Expand, Derive, Public; Text, List. -/
namespace Go.Proofs.YtfmkniakfgpgjaaGreatDoor
open Go.RowKit Go.KK Go.Shelf Go.Maps
set_option linter.unusedVariables false
set_option linter.unusedSimpArgs false

theorem idx_i64 {xs : List ND} (ok : Okay xs) (x : ND) : I64 (makI xs x) := by
  have := makI_b ok.len x
  exact ⟨by omega, by omega⟩
theorem ndI_tx (s : ByteArray) : NdI (txN s) := ⟨by unfold I64 txN; simp, by unfold I64 txN; simp, fun i hi => by simp [txN] at hi⟩
theorem Mv.trans {Z Z1 Z2 : Nat → Prop} {W W1 W2 : World} (a : Mv Z W Z1 W1) (b : Mv Z1 W1 Z2 W2) : Mv Z W Z2 W2 :=
  ⟨a.t.trans b.t a.n, fun k hk => (b.n k hk).elim (a.n k) fun h => .inr (Nat.le_trans a.t.size h)⟩
theorem Mv.alloc (Z : Nat → Prop) (W : World) (o : Obj) : Mv Z W Z (W.alloc o) := .below ((Below.refl _ _).alloc (Nat.le_refl _) o)
section
variable {w0 W W' : World} {Z Z' : Nat → Prop} {sa : Nat} {xs xs' : List ND}
/-- A call that takes a step. -/
def LrS (w0 W : World) (Z : Nat → Prop) (sa : Nat) (r : Rs) (e : Ending) (w' : World) : Prop := ∃ Z', e = .returned (.tuple #[.int .i64 r.2.1, .int .i64 r.2.2]) ∧ LA w0 w' Z' sa r.1 ∧ Mv Z W Z' w'
theorem l_of (h : LA w0 W Z sa xs) (hT : Tb w0.heap.size w0) {o : Int} {A : Option Addr} {n c : Nat} {l : List Int} (hl : SlA W 1 A n c (l.map (.int .i64))) (ho : I64 o) (hi : ∀ i ∈ l, I64 i) :
    Calls Tryz.prog 87 #[.pointer (some ⟨sa, 0, none⟩), .int .i64 o, .slice A n c] W (LrS w0 W Z sa (mk xs (ndN o l))) := by
  have e := hl.lenI
  subst e
  have HM := hid (l_mke h hT (x := ndN o l) hl (ndI_nd ho hi))
  clear h hl hT
  go_enter Tryz.func87, Tryz.ntmps87
  go_wp2_with fail
  refine HM.out.mono ?_
  rintro e w' ⟨Z', rfl, h1, h2⟩
  have H1 := hid h1; have H2 := hid h2
  clear h1 h2
  go_wp2_with fail
  go_ret2
  exact ⟨Z', rfl, H1.out, H2.out⟩
theorem l_list (h : LA w0 W Z sa xs) (hT : Tb w0.heap.size w0) {A : Option Addr} {n c : Nat} {l : List Int} (hl : SlA W 1 A n c (l.map (.int .i64))) (hi : ∀ i ∈ l, I64 i) :
    Calls Tryz.prog 129 #[.pointer (some ⟨sa, 0, none⟩), .slice A n c] W (LrS w0 W Z sa (mk xs (ndN 3 l))) := by
  have e := hl.lenI
  subst e
  have HM := hid (l_mke h hT (x := ndN 3 l) hl (ndI_nd (i64_lit (by decide) (by decide)) hi))
  clear h hl hT
  go_enter Tryz.func129, Tryz.ntmps129
  go_wp2_with fail
  refine HM.out.mono ?_
  rintro e w' ⟨Z', rfl, h1, h2⟩
  have H1 := hid h1; have H2 := hid h2
  clear h1 h2
  go_wp2_with fail
  go_ret2
  exact ⟨Z', rfl, H1.out, H2.out⟩
theorem l_text (h : LA w0 W Z sa xs) (hT : Tb w0.heap.size w0) (s : ByteArray) :
    Calls Tryz.prog 107 #[.pointer (some ⟨sa, 0, none⟩), .string s] W (LrS w0 W Z sa (mk xs (txN s))) := by
  have HM := hid (l_mke h hT (x := txN s) (SlA.nil _ _) (ndI_tx s))
  clear h hT
  go_enter Tryz.func107, Tryz.ntmps107
  go_wp2_with fail
  refine HM.out.mono ?_
  rintro e w' ⟨Z', rfl, h1, h2⟩
  have H1 := hid h1; have H2 := hid h2
  clear h1 h2
  go_wp2_with fail
  go_ret2
  exact ⟨Z', rfl, H1.out, H2.out⟩
theorem kno_any (st : Nat) (w : World) (A : Option Addr) (n c : Nat) (l : List Int) (h : ArV w 122 st xs) (hl : SlA w 1 A n c (l.map (.int .i64))) (hn : n ≤ 2147483648) :
    Calls Tryz.prog 94 #[.pointer (some ⟨st, 0, none⟩), .slice A n c] w fun e w' => e = .returned (.bool (kno xs l)) ∧ w' = w := by
  have H := hid h; have HS := hid hl; have HL := hid hl.lenI
  clear h hl
  unfold kno
  go_enter Tryz.func94, Tryz.ntmps94
  go_wp2
  go_loopw [9] (fun i wr => ∃ j : Nat, i = .int .i64 j ∧ j ≤ n ∧ Hid (l.all (hasB xs) = (l.drop j).all (hasB xs)) ∧ wr = w) (fun i _ => n - (intOf i).toNat)
  case atStart => exact ⟨0, rfl, by omega, hid rfl, rfl⟩
  case round =>
    obtain ⟨j, hi, hj, HJ, hw⟩ := hrel
    subst hi; subst hw
    by_cases hlt : j < n
    · obtain ⟨b1, o, z, rfl, hz, hc⟩ := HS.out.elemI hlt
      have HD := hid (drop_get hz); clear hz
      by_cases hz0 : z < 0
      · have HF := hid (show l.all (hasB xs) = false by
          rw [HJ.out, HD.out, List.all_cons, show hasB xs z = false by unfold hasB; rw [decide_eq_false (by omega : ¬ 0 ≤ z)]; rfl]; rfl)
        go_wp2
        go_ret
        exact ⟨by rw [HF.out]; rfl, rfl⟩
      · by_cases hz1 : (xs.length : Int) ≤ z
        · have HF := hid (show l.all (hasB xs) = false by
            rw [HJ.out, HD.out, List.all_cons, show hasB xs z = false by unfold hasB; rw [decide_eq_false (by omega : ¬ z < (xs.length : Int))]; simp]; rfl)
          go_wp2_with (go_at_call 41; refine (len_any st xs _ H.out).mono ?_; rintro e w' ⟨rfl, hw'⟩; subst hw')
          go_ret
          exact ⟨by rw [HF.out]; rfl, rfl⟩
        · have HF := hid (show l.all (hasB xs) = (l.drop (j + 1)).all (hasB xs) by
            rw [HJ.out, HD.out, List.all_cons, show hasB xs z = true by unfold hasB; rw [decide_eq_true (by omega : z < (xs.length : Int)), decide_eq_true (by omega : 0 ≤ z)]; rfl]; rfl)
          go_wp2_with (go_at_call 41; refine (len_any st xs _ H.out).mono ?_; rintro e w' ⟨rfl, hw'⟩; subst hw')
          go_roundw
          case rel => exact ⟨j + 1, by go_num, by omega, HF, by first | rfl | trivial⟩
          case measure => simp [intOf]; omega
    · have HF := hid (show l.all (hasB xs) = true by rw [HJ.out, List.drop_of_length_le (by have := HL.out; omega)]; rfl)
      go_wp2
      go_ret
      exact ⟨by rw [HF.out]; rfl, rfl⟩
theorem l_ex (h : LA w0 W Z sa xs) (hT : Tb w0.heap.size w0) {s t : Int} (hs : I64 s) (ht : I64 t) :
    Calls Tryz.prog 106 #[.pointer (some ⟨sa, 0, none⟩), .int .i64 s, .int .i64 t] W (LrS w0 W Z sa (exF xs s t)) := by
  have HM := hid (l_of (h.alloc (.cells #[.int .i64 s, .int .i64 t] 3)) hT (o := 5) (l := [s, t]) (sla_row #[.int .i64 s, .int .i64 t] (by unfold maxLen; simp)) (i64_lit (by decide) (by decide)) (fun i hi => by
    simp only [List.mem_cons, List.mem_nil_iff, or_false] at hi
    rcases hi with rfl | rfl
    · exact hs
    · exact ht))
  clear h hT
  unfold exF
  generalize mk xs (ndN 5 [s, t]) = r at *
  go_enter Tryz.func106, Tryz.ntmps106
  go_wp2_with fail
  refine HM.out.mono ?_
  rintro e w' ⟨Z', rfl, h1, h2⟩
  have H1 := hid h1; have H2 := hid ((Mv.alloc Z W (.cells #[.int .i64 s, .int .i64 t] 3)).trans h2)
  clear h1 h2 HM
  go_wp2_with fail
  go_ret2
  exact ⟨Z', rfl, H1.out, H2.out⟩
theorem l_pb (h : LA w0 W Z sa xs) (hT : Tb w0.heap.size w0) {s : Int} (hs : I64 s) :
    Calls Tryz.prog 115 #[.pointer (some ⟨sa, 0, none⟩), .int .i64 s] W (LrS w0 W Z sa (pbF xs s)) := by
  have HM := hid (l_of (h.alloc (.cells #[.int .i64 s] 3)) hT (o := 7) (l := [s]) (sla_row #[.int .i64 s] (by unfold maxLen; simp)) (i64_lit (by decide) (by decide)) (fun i hi => by
    rw [List.mem_singleton] at hi
    subst hi
    exact hs))
  clear h hT
  unfold pbF
  generalize mk xs (ndN 7 [s]) = r at *
  go_enter Tryz.func115, Tryz.ntmps115
  go_wp2_with fail
  refine HM.out.mono ?_
  rintro e w' ⟨Z', rfl, h1, h2⟩
  have H1 := hid h1; have H2 := hid ((Mv.alloc Z W (.cells #[.int .i64 s] 3)).trans h2)
  clear h1 h2 HM
  go_wp2_with fail
  go_ret2
  exact ⟨Z', rfl, H1.out, H2.out⟩
set_option maxHeartbeats 2000000 in
set_option maxRecDepth 100000 in
theorem l_exd (h : LA w0 W Z sa xs) (hT : Tb w0.heap.size w0) {s c : Int} (hs : I64 s) (hc : I64 c) (lab : ByteArray) :
    Calls Tryz.prog 85 #[.pointer (some ⟨sa, 0, none⟩), .int .i64 s, .string lab, .int .i64 c] W (LrS w0 W Z sa (exdF xs s lab c)) := by
  have HT := hid hT
  have HA := hid (h.alloc (.cells #[.int .i64 s, .int .i64 c] 3))
  have HM := hid (Mv.alloc Z W (.cells #[.int .i64 s, .int .i64 c] 3))
  have HK := hid (kno_any sa (W.alloc (.cells #[.int .i64 s, .int .i64 c] 3)) (some ⟨W.heap.size, 0, none⟩) 2 2 [s, c] HA.out.ar.vw (sla_row #[.int .i64 s, .int .i64 c] (by unfold maxLen; simp)) (by omega))
  have hti := idx_i64 h.ar.ok (txN lab)
  clear h hT
  rcases hk : kno xs [s, c] with _ | _
  · have HF := hid (show exdF xs s lab c = (xs, 0, 1) by unfold exdF; rw [if_neg (by rw [hk]; decide)])
    rw [HF.out]
    rw [hk] at HK
    clear hk hti
    go_enter Tryz.func85, Tryz.ntmps85
    go_wp2_with fail
    refine HK.out.mono ?_
    rintro e w' ⟨rfl, hw⟩
    subst hw
    go_wp2_with fail
    go_ret2
    exact ⟨Z, rfl, HA.out, HM.out⟩
  · rw [hk] at HK
    have HX := hid (l_text HA.out HT.out lab)
    by_cases he : makE xs (txN lab) = 0
    · have HF := hid (show exdF xs s lab c = mk (makT xs (txN lab)) (ndN 6 [s, makI xs (txN lab), c]) by unfold exdF; rw [if_pos hk]; unfold bdF; rw [if_pos (show (mk xs (txN lab)).2.2 = 0 from he)]; rfl)
      rw [HF.out]
      unfold LrS mk at HX
      rw [he] at HX
      clear hk he
      generalize makI xs (txN lab) = ti at *
      generalize makT xs (txN lab) = Y at *
      obtain ⟨r, hr⟩ : ∃ r : Rs, r = mk Y (ndN 6 [s, ti, c]) := ⟨_, rfl⟩
      rw [← hr]
      have HR := hid hr
      clear hr HF
      go_enter Tryz.func85, Tryz.ntmps85
      go_wp2_with fail
      refine HK.out.mono ?_
      rintro e w' ⟨rfl, hw⟩
      subst hw
      go_wp2_with fail
      refine HX.out.mono ?_
      rintro e w2 ⟨Z2, rfl, l2, m2⟩
      have HO := hid (l_of (l2.alloc (.cells #[.int .i64 s, .int .i64 ti, .int .i64 c] 3)) HT.out (o := 6) (l := [s, ti, c]) (sla_row #[.int .i64 s, .int .i64 ti, .int .i64 c] (by unfold maxLen; simp)) (i64_lit (by decide) (by decide)) (fun i hi => by
        simp only [List.mem_cons, List.mem_nil_iff, or_false] at hi
        rcases hi with rfl | rfl | rfl
        · exact hs
        · exact hti
        · exact hc))
      rw [← HR.out] at HO
      have M2 := hid ((HM.out.trans m2).trans (Mv.alloc Z2 w2 (.cells #[.int .i64 s, .int .i64 ti, .int .i64 c] 3)))
      clear l2 m2 HX HK
      go_wp2_with fail
      refine HO.out.mono ?_
      rintro e w3 ⟨Z3, rfl, l3, m3⟩
      have L3 := hid l3; have M3 := hid (M2.out.trans m3)
      clear l3 m3 HO
      go_wp2_with fail
      go_ret2
      exact ⟨Z3, rfl, L3.out, M3.out⟩
    · have HF := hid (show exdF xs s lab c = (makT xs (txN lab), 0, makE xs (txN lab)) by unfold exdF; rw [if_pos hk]; unfold bdF; rw [if_neg (show ¬ (mk xs (txN lab)).2.2 = 0 from he)]; rfl)
      rw [HF.out]
      unfold LrS mk at HX
      have hne : (makE xs (txN lab) != 0) = true := bne_iff_ne.2 he
      clear hk he
      generalize makE xs (txN lab) = te at *
      generalize makI xs (txN lab) = ti at *
      generalize makT xs (txN lab) = Y at *
      go_enter Tryz.func85, Tryz.ntmps85
      go_wp2_with fail
      refine HK.out.mono ?_
      rintro e w' ⟨rfl, hw⟩
      subst hw
      go_wp2_with fail
      refine HX.out.mono ?_
      rintro e w2 ⟨Z2, rfl, l2, m2⟩
      have L2 := hid l2; have M2 := hid (HM.out.trans m2)
      clear l2 m2 HX HK HF
      go_wp2_with fail
      go_ret2
      exact ⟨Z2, rfl, L2.out, M2.out⟩
set_option maxHeartbeats 2000000 in
set_option maxRecDepth 100000 in
theorem l_dv (h : LA w0 W Z sa xs) (hT : Tb w0.heap.size w0) {s : Int} (hs : I64 s) (lab : ByteArray) :
    Calls Tryz.prog 111 #[.pointer (some ⟨sa, 0, none⟩), .int .i64 s, .string lab] W (LrS w0 W Z sa (dvF xs s lab)) := by
  have HT := hid hT
  have HA := hid (h.alloc (.cells #[.int .i64 s] 3))
  have HM := hid (Mv.alloc Z W (.cells #[.int .i64 s] 3))
  have HK := hid (kno_any sa (W.alloc (.cells #[.int .i64 s] 3)) (some ⟨W.heap.size, 0, none⟩) 1 1 [s] HA.out.ar.vw (sla_row #[.int .i64 s] (by unfold maxLen; simp)) (by omega))
  have hti := idx_i64 h.ar.ok (ndN 3 [])
  clear h hT
  rcases hk : kno xs [s] with _ | _
  · have HF := hid (show dvF xs s lab = (xs, 0, 1) by unfold dvF; rw [if_neg (by rw [hk]; decide)])
    rw [HF.out]
    rw [hk] at HK
    clear hk hti
    go_enter Tryz.func111, Tryz.ntmps111
    go_wp2_with fail
    refine HK.out.mono ?_
    rintro e w' ⟨rfl, hw⟩
    subst hw
    go_wp2_with fail
    go_ret2
    exact ⟨Z, rfl, HA.out, HM.out⟩
  · rw [hk] at HK
    have HX := hid (l_list HA.out HT.out (l := []) (SlA.nil _ _) (fun i hi => by simp at hi))
    by_cases he : makE xs (ndN 3 []) = 0
    · have HF := hid (show dvF xs s lab = exdF (makT xs (ndN 3 [])) s lab (makI xs (ndN 3 [])) by unfold dvF; rw [if_pos hk]; unfold bdF; rw [if_pos (show (mk xs (ndN 3 [])).2.2 = 0 from he)]; rfl)
      rw [HF.out]
      unfold LrS mk at HX
      rw [he] at HX
      clear hk he
      generalize makI xs (ndN 3 []) = ti at *
      generalize makT xs (ndN 3 []) = Y at *
      obtain ⟨r, hr⟩ : ∃ r : Rs, r = exdF Y s lab ti := ⟨_, rfl⟩
      rw [← hr]
      have HR := hid hr
      clear hr HF
      go_enter Tryz.func111, Tryz.ntmps111
      go_wp2_with fail
      refine HK.out.mono ?_
      rintro e w' ⟨rfl, hw⟩
      subst hw
      go_wp2_with fail
      refine HX.out.mono ?_
      rintro e w2 ⟨Z2, rfl, l2, m2⟩
      have HO := hid (l_exd l2 HT.out hs hti lab)
      rw [← HR.out] at HO
      have M2 := hid (HM.out.trans m2)
      clear l2 m2 HX HK
      go_wp2_with fail
      refine HO.out.mono ?_
      rintro e w3 ⟨Z3, rfl, l3, m3⟩
      have L3 := hid l3; have M3 := hid (M2.out.trans m3)
      clear l3 m3 HO
      go_wp2_with fail
      go_ret2
      exact ⟨Z3, rfl, L3.out, M3.out⟩
    · have HF := hid (show dvF xs s lab = (makT xs (ndN 3 []), 0, makE xs (ndN 3 [])) by unfold dvF; rw [if_pos hk]; unfold bdF; rw [if_neg (show ¬ (mk xs (ndN 3 [])).2.2 = 0 from he)]; rfl)
      rw [HF.out]
      unfold LrS mk at HX
      have hne : (makE xs (ndN 3 []) != 0) = true := bne_iff_ne.2 he
      clear hk he
      generalize makE xs (ndN 3 []) = te at *
      generalize makI xs (ndN 3 []) = ti at *
      generalize makT xs (ndN 3 []) = Y at *
      go_enter Tryz.func111, Tryz.ntmps111
      go_wp2_with fail
      refine HK.out.mono ?_
      rintro e w' ⟨rfl, hw⟩
      subst hw
      go_wp2_with fail
      refine HX.out.mono ?_
      rintro e w2 ⟨Z2, rfl, l2, m2⟩
      have L2 := hid l2; have M2 := hid (HM.out.trans m2)
      clear l2 m2 HX HK HF
      go_wp2_with fail
      go_ret2
      exact ⟨Z2, rfl, L2.out, M2.out⟩
end
end Go.Proofs.YtfmkniakfgpgjaaGreatDoor

/- the document's term: Digits. -/
namespace Go.Proofs.YtfmkniakfgpgjaaGreatDoor
open Go.RowKit Go.KK
set_option linter.unusedVariables false
set_option linter.unusedSimpArgs false

/-- A number's text. -/
def digS (n : Nat) : ByteArray := ⟨(Lib.decDigits n).toArray⟩
def Dig (n : Int) (w : World) (e : Ending) (w' : World) : Prop := e = .returned (.string (digS n.toNat)) ∧ ∃ m, w' = w.drewN m
theorem dig_small {n : Nat} (h : n < 10) : Lib.decDigits n = [UInt8.ofNat (48 + n)] := by rw [Lib.decDigits]; simp [h]
theorem dig_step {n : Nat} (h : ¬ n < 10) : Lib.decDigits n = Lib.decDigits (n / 10) ++ [UInt8.ofNat (48 + n % 10)] := by
  conv => lhs; rw [Lib.decDigits]
  simp [h]
theorem dig_len (n : Nat) : (Lib.decDigits n).length ≤ n + 1 := by
  induction n using Nat.strongRecOn with
  | ind n ih =>
    by_cases h : n < 10
    · rw [dig_small h]; simp
    · rw [dig_step h, List.length_append]
      have := ih (n / 10) (by omega)
      simp only [List.length_cons, List.length_nil]
      omega
theorem ext_digit : ∀ d : Nat, d < 10 → ((⟨#[48, 49, 50, 51, 52, 53, 54, 55, 56, 57]⟩ : ByteArray).extract d (d + 1)).data.toList = [UInt8.ofNat (48 + d)] := by decide +kernel
theorem dig_ext {n : Nat} {K : ByteArray} (h : K.data.toList = Lib.decDigits n) : K = digS n := str_ext h
theorem digS_data (n : Nat) : (digS n).data.toList = Lib.decDigits n := rfl
theorem digS_le (n : Nat) (h : n ≤ 9223372036854775807) : (digS n).size ≤ 21 := by
  have := Lib.itoa_length_le (n : Int) (by omega) (by omega)
  unfold Lib.itoa at this
  rw [if_neg (by omega)] at this
  exact this
theorem itoa_nat {n : Int} (h : 0 ≤ n) : Lib.itoa n = Lib.decDigits n.toNat := by unfold Lib.itoa; rw [if_neg (by omega)]
set_option maxHeartbeats 2000000 in
theorem digits_ind (k : Nat) : ∀ (n : Int) (w : World), 0 ≤ n → n ≤ k → n ≤ 9223372036854775807 →
    Calls Tryz.prog 92 #[.int .i64 n] w (Dig n w) := by
  induction k with
  | zero =>
    intro n w h0 hk _
    have hn : n = 0 := by omega
    subst hn
    go_enter Tryz.func92, Tryz.ntmps92
    go_wp2_with fail
    go_ret
    exact ⟨congrArg (fun K => Ending.returned (.string K)) (dig_ext (n := 0) (by decide +kernel)), 0, rfl⟩
  | succ k ih =>
    intro n w h0 hk h63
    by_cases hn : n < 10
    · obtain ⟨j, rfl⟩ := Int.eq_ofNat_of_zero_le h0
      have hj : j < 10 := by omega
      have he := ext_digit j hj
      have HE := hid he
      clear he
      go_enter Tryz.func92, Tryz.ntmps92
      go_wp2_with fail
      go_ret
      refine ⟨?_, 0, rfl⟩
      rw [Int.toNat_natCast]
      exact congrArg (fun K => Ending.returned (.string K)) (dig_ext (by rw [dig_small hj]; exact HE.out))
    · obtain ⟨j, rfl⟩ := Int.eq_ofNat_of_zero_le h0
      have HIH := hid (fun (W : World) => show Calls Tryz.prog 92 #[.int .i64 ((j : Int) / 10)] W (fun e w' => e = .returned (.string (digS (j / 10))) ∧ ∃ m, w' = W.drewN m) from ih ((j : Int) / 10) W (by omega) (by omega) (by omega))
      have HJ := hid (show ¬ j < 10 by omega)
      have HE := hid (ext_digit (j % 10) (Nat.mod_lt _ (by decide)))
      have hd0 : 0 ≤ (j : Int) % 10 := by omega
      have hd1 : (j : Int) % 10 < 10 := by omega
      have hq : (10 : Int) ≠ 0 := by decide
      have hw1 : IntKind.i64.wrap ((j : Int) % 10 + 1) = (j : Int) % 10 + 1 := by rw [IntKind.wrap_i64]; omega
      have hw0 : IntKind.i64.wrap ((j : Int) / 10) = (j : Int) / 10 := by rw [IntKind.wrap_i64]; omega
      have hm : (j : Int).tmod 10 = (j : Int) % 10 := Int.tmod_eq_emod_of_nonneg (by omega)
      have hv : (j : Int).tdiv 10 = (j : Int) / 10 := Int.tdiv_eq_ediv_of_nonneg (by omega)
      have hsl : ∀ W : World, (Instr.slice 9 (.string ⟨#[48, 49, 50, 51, 52, 53, 54, 55, 56, 57]⟩) (some (.int .i64 ((j : Int) % 10))) (some (.int .i64 ((j : Int) % 10 + 1))) none).run Tryz.prog W = .ok (.string ((⟨#[48, 49, 50, 51, 52, 53, 54, 55, 56, 57]⟩ : ByteArray).extract (j % 10) (j % 10 + 1))) W := fun W => by
        have := run_slice_string (P := Tryz.prog) W 9 ⟨#[48, 49, 50, 51, 52, 53, 54, 55, 56, 57]⟩ .i64 .i64 ((j : Int) % 10) ((j : Int) % 10 + 1) Tryz.underlying9 (by omega) (by omega) (by show (j : Int) % 10 + 1 ≤ 10; omega)
        rw [show ((j : Int) % 10).toNat = j % 10 by omega, show ((j : Int) % 10 + 1).toNat = j % 10 + 1 by omega] at this
        exact this
      have hX : ((⟨#[48, 49, 50, 51, 52, 53, 54, 55, 56, 57]⟩ : ByteArray).extract (j % 10) (j % 10 + 1)).size = 1 := by
        show ((⟨#[48, 49, 50, 51, 52, 53, 54, 55, 56, 57]⟩ : ByteArray).extract (j % 10) (j % 10 + 1)).data.toList.length = 1
        rw [HE.out]; rfl
      have hK := digS_le (j / 10) (by omega)
      generalize hXX : (⟨#[48, 49, 50, 51, 52, 53, 54, 55, 56, 57]⟩ : ByteArray).extract (j % 10) (j % 10 + 1) = X at *
      generalize hKK : digS (j / 10) = K at *
      have hcat : ¬ 9223372036854775807 < K.size + X.size := by omega
      have HXX := hid hXX; have HKK := hid hKK
      clear ih hk hXX hKK hX hK
      go_enter Tryz.func92, Tryz.ntmps92
      go_wp2_with fail
      go_quiet ((go_at_call 92; exact Calls.quiet_of (HIH.out _)))
      go_wp2_with fail
      go_ret
      refine ⟨?_, nq, rfl⟩
      rw [Int.toNat_natCast]
      refine congrArg (fun K => Ending.returned (.string K)) (dig_ext ?_)
      rw [dig_step HJ.out, ByteArray.data_append, Array.toList_append, HE.out, ← HKK.out]; rfl
theorem digits_any (n : Int) (w : World) (h0 : 0 ≤ n) (h : n ≤ 9223372036854775807) : Calls Tryz.prog 92 #[.int .i64 n] w (Dig n w) := digits_ind n.toNat n w h0 (by omega) h
end Go.Proofs.YtfmkniakfgpgjaaGreatDoor

/- the document's term: arity, May. -/
namespace Go.Proofs.YtfmkniakfgpgjaaGreatDoor
open Go.RowKit Go.KK Go.Shelf
set_option linter.unusedVariables false
set_option linter.unusedSimpArgs false

/-- The document's arena, at block st. -/
abbrev ArR (w : World) (Z : Nat → Prop) (st mp : Nat) (v : Value) (xs : List ND) (qs : List Value) : Prop := Ar Tryz.prog 64 9 3 99 keyR w Z st mp v xs qs
def arR (o : Int) : Int := match arN o with | some k => (k : Nat) | none => -1
theorem arR_out {o : Int} (h : o < 1 ∨ 13 ≤ o ∨ o = 3) : arR o = -1 := by
  have : arN o = none := by
    unfold arN
    split <;> first | omega | rfl
  unfold arR
  rw [this]
theorem len_eqR (o : Int) (n : Nat) : lenB o n = !((decide (arR o < 0) && (o != 3)) || (decide (0 ≤ arR o) && ((n : Int) != arR o))) := by
  unfold arR lenB
  rcases arN o with _ | k
  · by_cases h : o = 3
    · rw [h]; rfl
    · simp [h, bne]
  · by_cases hk : n = k
    · subst hk
      simp
    · have h2 : ((n : Int) != (k : Int)) = true := bne_iff_ne.2 (by omega)
      have h3 : (n == k) = false := beq_eq_false_iff_ne.2 hk
      simp [h2, h3]
set_option maxHeartbeats 4000000 in
theorem rarity_any (o : Int) (w : World) :
    Calls Tryz.prog 142 #[.int .i64 o] w fun e w' => e = .returned (.int .i64 (arR o)) ∧ w' = w := by
  by_cases hin : 1 ≤ o ∧ o ≤ 12
  · obtain ⟨h1, h2⟩ := hin
    have h3 : o = 1 ∨ o = 2 ∨ o = 3 ∨ o = 4 ∨ o = 5 ∨ o = 6 ∨ o = 7 ∨ o = 8 ∨ o = 9 ∨ o = 10 ∨ o = 11 ∨ o = 12 := by omega
    clear h1 h2
    rcases h3 with rfl | rfl | rfl | rfl | rfl | rfl | rfl | rfl | rfl | rfl | rfl | rfl
    all_goals
      go_enter Tryz.func142, Tryz.ntmps142
      go_wp2
      go_ret
      exact ⟨rfl, rfl⟩
  · have HE := hid (arR_out (o := o) (by omega))
    have e1 : (o == 1) = false := beq_eq_false_iff_ne.2 (by omega)
    have e2 : (o == 2) = false := beq_eq_false_iff_ne.2 (by omega)
    have e4 : (o == 4) = false := beq_eq_false_iff_ne.2 (by omega)
    have e5 : (o == 5) = false := beq_eq_false_iff_ne.2 (by omega)
    have e6 : (o == 6) = false := beq_eq_false_iff_ne.2 (by omega)
    have e7 : (o == 7) = false := beq_eq_false_iff_ne.2 (by omega)
    have e8 : (o == 8) = false := beq_eq_false_iff_ne.2 (by omega)
    have e9 : (o == 9) = false := beq_eq_false_iff_ne.2 (by omega)
    have e10 : (o == 10) = false := beq_eq_false_iff_ne.2 (by omega)
    have e11 : (o == 11) = false := beq_eq_false_iff_ne.2 (by omega)
    have e12 : (o == 12) = false := beq_eq_false_iff_ne.2 (by omega)
    clear hin
    go_enter Tryz.func142, Tryz.ntmps142
    go_wp2
    go_ret
    exact ⟨by rw [HE.out]; rfl, rfl⟩
end Go.Proofs.YtfmkniakfgpgjaaGreatDoor

