import Derived.Test.YtkgobglmkhkbbaaGreatDoorZ02
import Derived.Carry
import Derived.Deep.RegionHeld3
import Derived.Laws.ResultCell
import Derived.Lib.Builder
import Derived.Lib.AppendStr
import Derived.Lib.UnsafeStr
import Derived.Laws.Externs
import Derived.Lib.ItoaLen
/- term: New, Len, Node; crypto: what makes and reads nodes. -/
namespace Go.Proofs.YtkgobglmkhkbbaaGreatDoor
open Go.RowKit Go.KK Go.Shelf Go.Maps
set_option linter.unusedVariables false
set_option linter.unusedSimpArgs false

/-- The program's arena at block st, all of its blocks in Z. -/
def AR (w : World) (Z : Nat → Prop) (st : Nat) (xs : List ND) : Prop := ∃ mp v qs, ArP w Z st mp v xs qs
def ArS (w : World) (Z : Nat → Prop) (st : Nat) (xs : List ND) (w' : World) : Prop := ∃ Z', AR w' Z' st xs ∧ Turn Z w w' ∧ ∀ b, Z' b → Z b ∨ w.heap.size ≤ b
theorem ArS.of {w w' : World} {Z : Nat → Prop} {st mp : Nat} {xs : List ND} (h : MakS w Z st mp xs w') : ArS w Z st xs w' := by
  obtain ⟨Z', v, qs, h1, h2, h3⟩ := h
  exact ⟨Z', ⟨mp, v, qs, h1⟩, h2, h3⟩
theorem AR.ext {w w' : World} {Z : Nat → Prop} {st : Nat} {xs : List ND} (h : AR w Z st xs) (hb : Below w.heap.size w w') : AR w' Z st xs := by
  obtain ⟨mp, v, qs, h1⟩ := h
  exact ⟨mp, v, qs, h1.ext hb⟩
theorem AR.zlt {w : World} {Z : Nat → Prop} {st : Nat} {xs : List ND} (h : AR w Z st xs) : ∀ b, Z b → b < w.heap.size := by
  obtain ⟨mp, v, qs, h1⟩ := h
  exact h1.zlt
theorem AR.ok {w : World} {Z : Nat → Prop} {st : Nat} {xs : List ND} (h : AR w Z st xs) : Okay xs := by
  obtain ⟨mp, v, qs, h1⟩ := h
  exact h1.ok
theorem AR.vw {w : World} {Z : Nat → Prop} {st : Nat} {xs : List ND} (h : AR w Z st xs) : ArV w 124 st xs := by
  obtain ⟨mp, v, qs, h1⟩ := h
  exact Ar.v h1
theorem AR.stay {w w' : World} {Z : Nat → Prop} {st : Nat} {xs : List ND} (h : AR w Z st xs) (hb : Below w.heap.size w w') : ArS w Z st xs w' := ⟨Z, h.ext hb, .of_below hb, fun _ h => .inl h⟩
/-- Behind a call that only lays blocks. -/
theorem ArS.first {w w1 w2 : World} {Z : Nat → Prop} {st : Nat} {xs : List ND} (hb : Below w.heap.size w w1) (h : ArS w1 Z st xs w2) : ArS w Z st xs w2 := by
  obtain ⟨Z', h1, h2, h3⟩ := h
  refine ⟨Z', h1, (Turn.of_below hb).trans h2 (fun _ h => .inl h), fun b hz => (h3 b hz).imp id fun h => Nat.le_trans hb.size h⟩
theorem ArS.next {w w1 w2 : World} {Z : Nat → Prop} {st : Nat} {xs : List ND} (h : ArS w Z st xs w1) (hb : Below w1.heap.size w1 w2) : ArS w Z st xs w2 := by
  obtain ⟨Z', h1, h2, h3⟩ := h
  exact ⟨Z', h1.ext hb, h2.trans (.of_below (F := Z) hb) (fun _ h => .inl h), h3⟩
theorem ArS.chain {w w1 w2 : World} {Z Z1 : Nat → Prop} {st : Nat} {xs : List ND} (ht : Turn Z w w1) (hz : ∀ b, Z1 b → Z b ∨ w.heap.size ≤ b) (h : ArS w1 Z1 st xs w2) : ArS w Z st xs w2 := by
  obtain ⟨Z', h1, h2, h3⟩ := h
  exact ⟨Z', h1, ht.trans h2 hz, fun b hb => (h3 b hb).elim (hz b) fun h => .inr (Nat.le_trans ht.size h)⟩

theorem new_any (w : World) : Calls Tryz.prog 55 #[] w fun e w' => ∃ Z st, e = .returned (.pointer (some ⟨st, 0, none⟩)) ∧ AR w' Z st [] ∧ (∀ b, Z b → w.heap.size ≤ b) ∧ Below w.heap.size w w' := by
  have hmm := @run_makeMap Tryz.prog
  go_enter Tryz.func55, Tryz.ntmps55
  go_wp2
  go_ret
  have B1 : Below w.heap.size w (w.alloc (.map #[] 0)) := (Below.refl _ _).alloc (Nat.le_refl _) _
  have hm0 := World.ownsMap_made (H := Unit) w Tryz.prog 9 (plainElem Tryz.prog 3)
  refine ⟨fun b => b = w.heap.size ∨ b = w.heap.size + 1, w.heap.size + 1, by simp, ⟨w.heap.size, .slice none 0 0, [], ?_⟩, fun b hb => by rcases hb with rfl | rfl <;> omega, B1.alloc (by simp) _⟩
  have hsz : (w.alloc (.map #[] 0)).heap.size = w.heap.size + 1 := by simp
  refine ⟨?_, World.ownsRow_nil _ _ _ _, rfl, fun j x q h => by simp at h, fun j x q b h => by simp at h, ⟨.map [], ?_, mapOk_nil _⟩, .inr rfl, ⟨.inl rfl, by omega⟩, fun b h => (by cases h), fun b hb => ?_, okay_nil⟩
  · have := heap_alloc_new (w.alloc (.map #[] 0)) (.cells #[.slice none 0 0, .map (some w.heap.size)] 124)
    rw [hsz] at this
    exact this
  · exact hm0.alloc _
  · have h2 : ((w.alloc (.map #[] 0)).alloc (.cells #[.slice none 0 0, .map (some w.heap.size)] 124)).heap.size = w.heap.size + 1 + 1 := by simp
    rcases hb with rfl | rfl <;> omega
theorem len_any (st : Nat) (xs : List ND) (w : World) (h : ArV w 124 st xs) :
    Calls Tryz.prog 42 #[.pointer (some ⟨st, 0, none⟩)] w fun e w' => e = .returned (.int .i64 xs.length) ∧ w' = w := by
  obtain ⟨A, c, m, h0, h1, hn⟩ := h.parts
  clear hn h
  go_enter Tryz.func42, Tryz.ntmps42
  go_wp2
  go_ret
  exact ⟨rfl, rfl⟩
set_option maxHeartbeats 2000000 in
set_option maxRecDepth 20000 in
theorem node_any (st : Nat) (xs : List ND) (t : Int) (w : World) (h : ArV w 124 st xs) :
    Calls Tryz.prog 73 #[.pointer (some ⟨st, 0, none⟩), .int .i64 t] w fun e w' => ∃ A c, e = .returned (.tuple #[.agg #[.int .i64 (nodeF xs t).o, .int .i64 (nodeF xs t).n, .string (nodeF xs t).s, .slice A (nodeF xs t).l.length c], .int .i64 (nodeE xs t)]) ∧ w'.ownsRow w.heap.size 3 1 (.slice A (nodeF xs t).l.length c) (nodeF xs t).l.length ((nodeF xs t).l.map (.int .i64)) ∧ Below w.heap.size w w' := by
  have H := hid h
  have B0 := hid (show Below w.heap.size w (w.alloc (.cells #[.int .i64 0, .int .i64 0, .string ⟨#[]⟩, .slice none 0 0] 88)) from (Below.refl _ _).alloc (Nat.le_refl _) _)
  clear h
  rcases hh : hasB xs t with _ | _
  · have HF := hid (show nodeF xs t = nd0 by unfold nodeF; rw [hh]; rfl)
    have HE := hid (show nodeE xs t = 4 by unfold nodeE; rw [hh]; rfl)
    go_enter Tryz.func73, Tryz.ntmps73
    go_wp2_with fail
    refine (has_any st xs t _ (H.out.ext B0.out)).mono ?_
    rintro e1 w1 ⟨rfl, hw⟩
    subst hw
    rw [hh]
    go_wp2_with fail
    refine bodyPost_ret (v := .tuple #[.agg #[.int .i64 0, .int .i64 0, .string ⟨#[]⟩, .slice none 0 0], .int .i64 4]) ?_ rfl ⟨none, 0, ?_, ?_, B0.out⟩
    · rw [results_cell_tmp rfl]
      go_simp
    · rw [HF.out, HE.out]; rfl
    · rw [HF.out]; exact World.ownsRow_nil _ _ _ _
  · have HF := hid (show nodeE xs t = 0 by unfold nodeE; rw [hh]; rfl)
    have X0 := hid (show (w.alloc (.cells #[.int .i64 0, .int .i64 0, .string ⟨#[]⟩, .slice none 0 0] 88)).ownsRow w.heap.size 88 4 (.slice (some ⟨w.heap.size, 0, none⟩) 1 1) 1 [.int .i64 0, .int .i64 0, .string ⟨#[]⟩, .slice none 0 0] from
      ⟨by simp, .inr ⟨w.heap.size, 1, _, rfl, Nat.le_refl _, heap_alloc_new w _, Nat.le_refl _, by decide, rfl, by simp⟩⟩)
    go_enter Tryz.func73, Tryz.ntmps73
    go_wp2_with fail
    refine (has_any st xs t _ (H.out.ext B0.out)).mono ?_
    rintro e1 w1 ⟨rfl, hw⟩
    subst hw
    rw [hh]
    generalize w.alloc (.cells #[.int .i64 0, .int .i64 0, .string ⟨#[]⟩, .slice none 0 0] 88) = W0 at *
    have hhb := hh
    unfold hasB at hhb
    simp only [Bool.and_eq_true, decide_eq_true_eq] at hhb
    obtain ⟨hz0, hz1⟩ := hhb
    obtain ⟨j, rfl⟩ := Int.eq_ofNat_of_zero_le hz0
    have hlt0 : w.heap.size < W0.heap.size := (X0.out.lt w.heap.size rfl).2
    obtain ⟨A', c', m', q0, qm, hnd⟩ := (H.out.ext B0.out).parts
    have hjn : j < xs.length := by omega
    obtain ⟨bn, on, y, Ay, cy, rfl, hy, y0, y1, y2, y3, hsy⟩ := hnd.at hjn
    have HY := hid (show nodeF xs (j : Int) = y by
      unfold nodeF
      rw [hh, if_pos rfl, Int.toNat_natCast, List.getD, hy]; rfl)
    have HSY := hid hsy
    have hyl : y.l.length ≤ 64 := by
      have := (H.out.ok.may j y hy)
      unfold mayB shB at this
      simp only [Bool.and_eq_true, decide_eq_true_eq] at this
      exact this.1.1.1.1.1.1.2
    clear hh hy hsy hnd hz0 hz1
    go_wp2_with fail
    refine (clone_own Ay _ cy y.l _ (HSY.out.alloc _) (by omega)).mono ?_
    rintro e3 w3 ⟨q0', rfl, oq, b3⟩
    obtain ⟨Aq, cq, rfl, -⟩ := SlA.owned oq
    have X1 := hid (own_ext (own_ext X0.out ((Below.refl _ _).alloc (Nat.le_refl _) (.cells #[.int .i64 y.o, .int .i64 y.n, .string y.s, .slice Ay y.l.length cy] 88))) b3)
    have X2 := hid (own_ext (show (W0.alloc (.cells #[.int .i64 y.o, .int .i64 y.n, .string y.s, .slice Ay y.l.length cy] 88)).ownsRow W0.heap.size 88 4 (.slice (some ⟨W0.heap.size, 0, none⟩) 1 1) 1 [.int .i64 y.o, .int .i64 y.n, .string y.s, .slice Ay y.l.length cy] from
      ⟨by simp, .inr ⟨W0.heap.size, 1, _, rfl, Nat.le_refl _, heap_alloc_new W0 _, Nat.le_refl _, by decide, rfl, by simp⟩⟩) b3)
    have B3 := hid ((B0.out.alloc B0.out.size (.cells #[.int .i64 y.o, .int .i64 y.n, .string y.s, .slice Ay y.l.length cy] 88)).trans (b3.mono (by have := B0.out.size; simp; omega)))
    have OQ := hid oq
    have hsz1 : (W0.alloc (.cells #[.int .i64 y.o, .int .i64 y.n, .string y.s, .slice Ay y.l.length cy] 88)).heap.size = W0.heap.size + 1 := by simp
    obtain ⟨⟨k0, k1, k2, k3⟩, f0, f1, f2, f3⟩ := box4 X1.out
    obtain ⟨⟨l0, l1, l2, l3⟩, g0, g1, g2, g3⟩ := box4 X2.out
    have hne1 : ¬ W0.heap.size = w.heap.size := by omega
    have hne2 : ¬ w.heap.size = W0.heap.size := by omega
    rw [hsz1] at oq
    have HQ := hid oq
    clear oq b3 y0 y1 y2 y3 q0 qm
    go_wp2
    refine bodyPost_ret (v := .tuple #[.agg #[.int .i64 y.o, .int .i64 y.n, .string y.s, .slice Aq y.l.length cq], .int .i64 0]) ?_ rfl ⟨Aq, cq, ?_, ?_, ?_⟩
    · rw [results_cell_tmp rfl]
      go_simp
    · rw [HY.out, HF.out]
    · rw [HY.out]
      refine own_mono (own_block HQ.out fun b hb => ?_) (by omega)
      have hb1 := (HQ.out.lt b hb).1
      rw [Below.heap_setCell _ _ _ b (by show b ≠ w.heap.size; omega), Below.heap_setCell _ _ _ b (by show b ≠ w.heap.size; omega), Below.heap_setCell _ _ _ b (by show b ≠ w.heap.size; omega), Below.heap_setCell _ _ _ b (by show b ≠ w.heap.size; omega), Below.heap_setCell _ _ _ b (by show b ≠ W0.heap.size; omega)]
    · exact ((((B3.out.setCell (p := ⟨W0.heap.size, 3, none⟩) (by show w.heap.size ≤ W0.heap.size; omega) _).setCell (p := ⟨w.heap.size, 0, none⟩) (Nat.le_refl _) _).setCell (p := ⟨w.heap.size, 1, none⟩) (Nat.le_refl _) _).setCell (p := ⟨w.heap.size, 2, none⟩) (Nat.le_refl _) _).setCell (p := ⟨w.heap.size, 3, none⟩) (Nat.le_refl _) _
end Go.Proofs.YtkgobglmkhkbbaaGreatDoor

/- term: the arena's Make, Len, Node told in words. -/
namespace Go.Proofs.YtkgobglmkhkbbaaGreatDoor
open Go.RowKit Go.KK Go.Shelf Go.Maps
set_option linter.unusedVariables false
set_option linter.unusedSimpArgs false

/-- A call that makes the node x. -/
def MkS (w : World) (Z : Nat → Prop) (st : Nat) (xs : List ND) (x : ND) (e : Ending) (w' : World) : Prop := e = .returned (.tuple #[.int .i64 (makI xs x), .int .i64 (makE xs x)]) ∧ ArS w Z st (makT xs x) w'
theorem sla_row {w : World} {T : TypeId} (vs : Array Value) (hm : vs.size ≤ maxLen) : SlA (w.alloc (.cells vs T)) 1 (some ⟨w.heap.size, 0, none⟩) vs.size vs.size vs.toList :=
  ⟨Nat.le_refl _, hm, by simp, fun j u hj => ⟨w.heap.size, 0, rfl, by rw [World.cell?_alloc_at _ _ _ _ rfl, Nat.zero_add]; simpa using hj⟩⟩
theorem i64_lit {n : Int} (h0 : 0 ≤ n) (h1 : n ≤ 200000) : I64 n := ⟨by omega, by omega⟩
theorem ndI_nd {o : Int} {l : List Int} (ho : I64 o) (hl : ∀ i ∈ l, I64 i) : NdI (ndN o l) := ⟨ho, by unfold I64 ndN; simp, hl⟩
theorem ndI_at {n : Int} (h : I64 n) : NdI (atN n) := ⟨by unfold I64 atN; simp, h, fun i hi => by simp [atN] at hi⟩
theorem AR.turn {F : Nat → Prop} {w w' : World} {Z : Nat → Prop} {st : Nat} {xs : List ND} (h : AR w Z st xs) (ht : Turn F w w') (hd : ∀ b, Z b → ¬ F b) : AR w' Z st xs := by
  obtain ⟨mp, v, qs, h1⟩ := h
  exact ⟨mp, v, qs, h1.turn ht hd⟩
section
variable (Z : Nat → Prop) (st : Nat) (xs : List ND) (B : Nat) (w : World)
theorem mke_any (x : ND) (A : Option Addr) (c : Nat) (h : AR w Z st xs) (hl : SlA w 1 A x.l.length c (x.l.map (.int .i64))) (hT : Tb B w) (hB : B ≤ w.heap.size) (hx : NdI x) :
    Calls Tryz.prog 57 #[.pointer (some ⟨st, 0, none⟩), .agg #[.int .i64 x.o, .int .i64 x.n, .string x.s, .slice A x.l.length c]] w (MkS w Z st xs x) := by
  obtain ⟨mp, v, qs, h⟩ := h
  exact (make_any Z st mp v xs qs x A c B w h hl hT hB hx).mono fun e w' ⟨h1, h2⟩ => ⟨h1, .of h2⟩
end
end Go.Proofs.YtkgobglmkhkbbaaGreatDoor

/- term: a strings.Builder at the head of a writer: copyCheck, Len, WriteString, WriteByte, String. -/
namespace Go.Proofs.YtkgobglmkhkbbaaGreatDoor
open Go.RowKit Go.KK Go.Shelf Go.Maps
set_option linter.unusedVariables false
set_option linter.unusedSimpArgs false

/-- A writer: what its builder holds as its own address, its bytes, the arena that it writes of. -/
def WrP (B b : Nat) (p a : Value) (bs : List Value) (w : World) : Prop :=
  B ≤ b ∧ ∃ v, w.heap[b]? = some (.cells #[p, v, a] 132 (0, 0)) ∧ w.ownsRow B 5 1 v bs.length bs ∧ v.ownBlock ≠ some b
def Wr (B b : Nat) (a : Value) (bs : List Value) (w : World) : Prop := ∃ p, (p = .pointer none ∨ p = .pointer (some ⟨b, 0, none⟩)) ∧ WrP B b p a bs w
theorem wr_size : (Tryz.prog.info? 130).map (·.size) = some 2 := by kernel_rfl
theorem wr_lies : liesAt Tryz.prog Tryz.prog.depth 132 (3 / Tryz.prog.cellsOf 132) 0 130 1 = true := by kernel_rfl
theorem wr_ne : (132 : Nat) ≠ 5 := by decide
/-- All blocks but b and rows of bytes are as they were. -/
def Oth (b : Nat) (w w' : World) : Prop := ∀ k cs T fz, w.heap[k]? = some (.cells cs T fz) → T ≠ 5 → k ≠ b → w'.heap[k]? = w.heap[k]?
theorem Oth.refl (b : Nat) (w : World) : Oth b w w := fun _ _ _ _ _ _ _ => rfl
theorem Oth.trans {b : Nat} {w w' w'' : World} (h : Oth b w w') (k : Oth b w' w'') : Oth b w w'' := fun i cs T fz e hT hb => (k i cs T fz ((h i cs T fz e hT hb).trans e) hT hb).trans (h i cs T fz e hT hb)
theorem Oth.below {b : Nat} {w w' : World} (h : Below w.heap.size w w') : Oth b w w' := fun i cs T fz e _ _ => h.block i (by
  rcases Nat.lt_or_ge i w.heap.size with h' | h'
  · exact h'
  · simp [Array.getElem?_eq_none h'] at e)
theorem Oth.set (b o : Nat) (w : World) (v : Value) : Oth b w (w.setCell ⟨b, o, none⟩ v) := fun i _ _ _ _ _ hb => Below.heap_setCell w ⟨b, o, none⟩ v i hb
theorem Oth.grown {b base n : Nat} {v : Value} {bs : List Value} {w w' : World} (h : w.ownsRow base 5 1 v n bs) (hg : w.grownBy w' v.ownBlock) : Oth b w w' := fun i cs T fz e hT _ => hg.block i (by
  rcases Nat.lt_or_ge i w.heap.size with h' | h'
  · exact h'
  · simp [Array.getElem?_eq_none h'] at e) (fun e2 => by
    rcases h.2 with ⟨rfl, _⟩ | ⟨g, cap, cur, rfl, _, hg', _⟩
    · cases e2
    · injection e2 with e2
      simp only at e2
      subst e2
      rw [hg'] at e
      injection e with e
      injection e with _ e _
      exact hT e.symm)
theorem Oth.cell {b : Nat} {w w' : World} {k o : Nat} {cs : Array Value} {T : TypeId} {fz : Nat × Nat} {v : Value} (h : Oth b w w') (e : w.heap[k]? = some (.cells cs T fz)) (hT : T ≠ 5) (hb : k ≠ b) (hc : w.cell? ⟨k, o, none⟩ = some v) : w'.cell? ⟨k, o, none⟩ = some v :=
  (World.cell?_of_block (a := ⟨k, o, none⟩) (h k cs T fz e hT hb)).trans hc
section
variable {B b : Nat} {p a : Value} {bs : List Value} {w w' : World}
theorem WrP.lt (h : WrP B b p a bs w) : b < w.heap.size := by
  obtain ⟨_, v, hb, _⟩ := h
  rcases Nat.lt_or_ge b w.heap.size with h' | h'
  · exact h'
  · simp [Array.getElem?_eq_none h'] at hb
theorem WrP.wr (h : WrP B b (.pointer (some ⟨b, 0, none⟩)) a bs w) : Wr B b a bs w := ⟨_, .inr rfl, h⟩
theorem WrP.used (h : WrP B b p a bs w) (q : Value) : WrP B b q a bs (w.setCell ⟨b, 0, none⟩ q) := by
  have hlt := h.lt
  obtain ⟨hB, v, hb, hown, hne⟩ := h
  refine ⟨hB, v, ?_, ?_, hne⟩
  · simp [World.setCell, Array.getElem?_modify, hb]
  · exact own_block hown fun k hk => Below.heap_setCell _ _ _ _ (fun e => hne (by rw [hk, e]))
theorem WrP.put {v v' : Value} {bs' : List Value} (hB : B ≤ b) (hb : w.heap[b]? = some (.cells #[p, v, a] 132 (0, 0))) (hown : w.ownsRow B 5 1 v' bs'.length bs') : WrP B b p a bs' (w.setCell ⟨b, 1, none⟩ v') := by
  have hne := Lib.ownBlock_ne hown hb wr_ne
  refine ⟨hB, v', ?_, ?_, hne⟩
  · simp [World.setCell, Array.getElem?_modify, hb]
  · exact own_block hown fun k hk => Below.heap_setCell _ _ _ _ (fun e => hne (by rw [hk, e]))
theorem WrP.ext (h : WrP B b p a bs w) (hb : Below w.heap.size w w') : WrP B b p a bs w' := by
  have hlt := h.lt
  obtain ⟨hB, v, hbk, hown, hne⟩ := h
  exact ⟨hB, v, (hb.block b hlt).trans hbk, own_ext hown hb, hne⟩
theorem Wr.ext (h : Wr B b a bs w) (hb : Below w.heap.size w w') : Wr B b a bs w' := by
  obtain ⟨p, hp, h⟩ := h
  exact ⟨p, hp, h.ext hb⟩
theorem Wr.lt (h : Wr B b a bs w) : b < w.heap.size := by obtain ⟨p, hp, h⟩ := h; exact h.lt
theorem Wr.cell2 (h : Wr B b a bs w) : w.cell? ⟨b, 2, none⟩ = some a := by
  obtain ⟨p, hp, hB, v, hbk, hown, hne⟩ := h
  rw [Lib.cell_of_heap hbk]; rfl
end
theorem wr_new (w : World) (a : Value) : Wr w.heap.size w.heap.size a [] (w.alloc (.cells #[.pointer none, .slice none 0 0, a] 132)) :=
  ⟨_, .inl rfl, Nat.le_refl _, .slice none 0 0, heap_alloc_new w _, World.ownsRow_nil _ _ _ _, by simp [Value.ownBlock]⟩
section
variable (B b : Nat) (a : Value) (bs : List Value) (w : World)
set_option maxHeartbeats 1000000 in
set_option maxRecDepth 100000 in
theorem cc_any (h : Wr B b a bs w) : Calls Tryz.prog 125 #[.pointer (some ⟨b, 0, none⟩)] w fun e w' => e = .returned (.tuple #[]) ∧ WrP B b (.pointer (some ⟨b, 0, none⟩)) a bs w' ∧ Below B w w' ∧ Oth b w w' := by
  obtain ⟨j, hj, hjs⟩ := Option.map_eq_some_iff.1 wr_size
  obtain ⟨p, hp, hw⟩ := h
  have HW := hid hw
  obtain ⟨hB, v, hbk, hown, hne⟩ := hw
  have hsh : w.shape? b = some (132, 3) := by simp [World.shape?, hbk]
  have hfz : w.frozen? ⟨b, 0, none⟩ = false := Lib.frozen_of_heap hbk 0
  have c0 : w.cell? ⟨b, 0, none⟩ = some p := by rw [Lib.cell_of_heap hbk]; rfl
  have HB := hid hB
  clear hbk hown hne hB
  rcases hp with rfl | rfl
  · go_enter Tryz.func125, Tryz.ntmps125
    go_wp2
    rw [Lib.run_to_unsafe w ⟨b, 0, none⟩ Tryz.underlying127 Tryz.underlying195 hj (by rw [hjs]; decide) hsh (show (0 : Nat) < 3 by decide)]
    simp only [Result.andThen]
    rw [Oper.upon_value]
    go_wp2
    rw [run_callFunc_extern Tryz.func138 (by kernel_rfl) (by kernel_rfl) (by kernel_rfl) (e := Extern.AbiNoEscape.same) (by kernel_rfl)]
    rw [Lib.run_noEscape]
    simp only [Result.andThen]
    rw [Oper.upon_value]
    go_wp2
    rw [Lib.run_from_unsafe w ⟨b, 0, none⟩ Tryz.underlying195 Tryz.underlying127 hj hsh wr_lies]
    simp only [Result.andThen]
    rw [Oper.upon_value]
    go_wp2
    go_end0
    exact ⟨rfl, HW.out.used _, (Below.refl B w).setCell (p := ⟨b, 0, none⟩) HB.out _, Oth.set _ _ _ _⟩
  · go_enter Tryz.func125, Tryz.ntmps125
    go_wp2
    rw [Lib.run_neq_ptr_same w _ Tryz.underlying127 hj]
    go_wp2
    go_end0
    exact ⟨rfl, HW.out, Below.refl _ _, Oth.refl _ _⟩
theorem wlen_any (h : Wr B b a bs w) : Calls Tryz.prog 89 #[.pointer (some ⟨b, 0, none⟩)] w fun e w' => e = .returned (.int .i64 bs.length) ∧ w' = w := by
  obtain ⟨p, hp, hB, v, hbk, hown, hne⟩ := h
  obtain ⟨ao, cap, rfl⟩ : ∃ ao cap, v = .slice ao bs.length cap := by
    rcases hown.2 with ⟨hv, h0⟩ | ⟨g, cap, cur, hv, _⟩
    · exact ⟨none, 0, by rw [hv, h0]⟩
    · exact ⟨_, _, hv⟩
  have c1 : w.cell? ⟨b, 1, none⟩ = some (.slice ao bs.length cap) := by rw [Lib.cell_of_heap hbk]; rfl
  clear hbk hown hne hB hp
  go_enter Tryz.func89, Tryz.ntmps89
  go_wp2
  go_ret
  exact ⟨rfl, rfl⟩
set_option maxHeartbeats 2000000 in
set_option maxRecDepth 100000 in
theorem wbyte_any (c : Int) (h : Wr B b a bs w) (hlen : bs.length + 1 ≤ 140737488355328) (hBw : B ≤ w.heap.size) :
    Calls Tryz.prog 109 #[.pointer (some ⟨b, 0, none⟩), .int .u8 c] w fun e w' => e = .returned .nilIface ∧ Wr B b a (bs ++ [.int .u8 c]) w' ∧ Below B w w' ∧ Oth b w w' := by
  obtain ⟨i0, hi, hz0, hz1, hz2⟩ := info_parts Tryz.infoU8
  have HW := hid h
  clear h
  go_enter Tryz.func109, Tryz.ntmps109
  go_wp2_with fail
  refine (cc_any B b a bs _ HW.out).mono ?_
  rintro e w1 ⟨rfl, h1, hb1, ho1⟩
  have HO1 := hid ho1
  clear ho1
  clear HW
  obtain ⟨hB, v, hbk, hown, hne⟩ := h1
  have c0 : w1.cell? ⟨b, 0, none⟩ = some (.pointer (some ⟨b, 0, none⟩)) := by rw [Lib.cell_of_heap hbk]; rfl
  have c1 : w1.cell? ⟨b, 1, none⟩ = some v := by rw [Lib.cell_of_heap hbk]; rfl
  go_wp2_with (at_builtin; refine wpList_append_own _ rfl _ _ 128 rfl B 5 i0 (.int .u8 0) 1 1 Tryz.underlying128 hi hz0 hz1 hz2 rfl (by decide) _ _ _ rfl (hown.alloc _) ⟨w1.heap.size, 0, none⟩ 1 1 [.int .u8 c] rfl rfl ?c1 ?c2 ?c3 ?c4 ?c5 ?_)
  case c1 =>
    intro j u hj
    match j, hj with
    | 0, hj => simp at hj; subst hj; simp [Addr.add]
  case c2 => intro u hu; simp at hu; subst hu; rfl
  case c3 => unfold maxLen; omega
  case c4 => omega
  case c5 => have := hb1.size; simp; omega
  intro v' w2 hown' hgrow _
  have hlt : b < w1.heap.size := by
    rcases Nat.lt_or_ge b w1.heap.size with h' | h'
    · exact h'
    · simp [Array.getElem?_eq_none h'] at hbk
  have hb2 : w2.heap[b]? = some (.cells #[.pointer (some ⟨b, 0, none⟩), v, a] 132 (0, 0)) := by
    rw [hgrow.block b (by simp; omega) (fun e => hne e.symm), Lib.alloc_old w1 _ b hlt]
    exact hbk
  have d0 : w2.cell? ⟨b, 0, none⟩ = some (.pointer (some ⟨b, 0, none⟩)) := by rw [Lib.cell_of_heap hb2]; rfl
  have d1 : w2.cell? ⟨b, 1, none⟩ = some v := by rw [Lib.cell_of_heap hb2]; rfl
  have f1 : w2.frozen? ⟨b, 1, none⟩ = false := Lib.frozen_of_heap hb2 1
  obtain ⟨g, cap, rfl⟩ : ∃ g cap, v' = .slice (some ⟨g, 0, none⟩) (bs.length + 1) cap := by
    rcases hown'.2 with ⟨_, h0⟩ | ⟨g, cap, cur, hv, _⟩
    · omega
    · exact ⟨g, cap, hv⟩
  go_wp2
  go_ret
  refine ⟨rfl, (WrP.put (bs' := bs ++ [.int .u8 c]) hB hb2 (by simpa using hown')).wr, ?_, ?_⟩
  · exact ((hb1.alloc (by have := hb1.size; omega) _).grown hgrow (by have := hb1.size; simp; omega) (fun k hk => (hown.lt k hk).1)).setCell (p := ⟨b, 1, none⟩) hB _
  · exact HO1.out.trans ((Oth.below ((Below.refl _ _).alloc (Nat.le_refl _) _)).trans ((Oth.grown (hown.alloc _) hgrow).trans (Oth.set _ _ _ _)))
set_option maxHeartbeats 2000000 in
set_option maxRecDepth 100000 in
theorem wstr_any (s : ByteArray) (h : Wr B b a bs w) (hlen : bs.length + s.size ≤ 140737488355328) (hBw : B ≤ w.heap.size) :
    Calls Tryz.prog 106 #[.pointer (some ⟨b, 0, none⟩), .string s] w fun e w' => e = .returned (.tuple #[.int .i64 s.size, .nilIface]) ∧ Wr B b a (bs ++ Lib.strCells s) w' ∧ Below B w w' ∧ Oth b w w' := by
  obtain ⟨i0, hi, hz0, hz1, hz2⟩ := info_parts Tryz.infoU8
  have HW := hid h
  clear h
  go_enter Tryz.func106, Tryz.ntmps106
  go_wp2_with fail
  refine (cc_any B b a bs _ HW.out).mono ?_
  rintro e w1 ⟨rfl, h1, hb1, ho1⟩
  have HO1 := hid ho1
  clear ho1
  clear HW
  obtain ⟨hB, v, hbk, hown, hne⟩ := h1
  have c0 : w1.cell? ⟨b, 0, none⟩ = some (.pointer (some ⟨b, 0, none⟩)) := by rw [Lib.cell_of_heap hbk]; rfl
  have c1 : w1.cell? ⟨b, 1, none⟩ = some v := by rw [Lib.cell_of_heap hbk]; rfl
  go_wp2_with (at_builtin; refine Lib.wpList_append_own_string _ rfl _ _ 128 9 rfl B 5 i0 Tryz.underlying128 Tryz.underlying9 hi hz0 hz1 hz2 _ _ _ rfl hown s rfl ?c3 ?c4 ?c5 ?_)
  case c3 => unfold maxLen; omega
  case c4 => omega
  case c5 => have := hb1.size; omega
  intro v' w2 hown' hgrow _
  have hlt : b < w1.heap.size := by
    rcases Nat.lt_or_ge b w1.heap.size with h' | h'
    · exact h'
    · simp [Array.getElem?_eq_none h'] at hbk
  have hb2 : w2.heap[b]? = some (.cells #[.pointer (some ⟨b, 0, none⟩), v, a] 132 (0, 0)) := by
    rw [hgrow.block b hlt (fun e => hne e.symm)]
    exact hbk
  have d0 : w2.cell? ⟨b, 0, none⟩ = some (.pointer (some ⟨b, 0, none⟩)) := by rw [Lib.cell_of_heap hb2]; rfl
  have d1 : w2.cell? ⟨b, 1, none⟩ = some v := by rw [Lib.cell_of_heap hb2]; rfl
  have f1 : w2.frozen? ⟨b, 1, none⟩ = false := Lib.frozen_of_heap hb2 1
  obtain ⟨ao, n', cap, rfl⟩ : ∃ ao n' cap, v' = .slice ao n' cap := by
    rcases hown'.2 with ⟨hv, _⟩ | ⟨g, cap, cur, hv, _⟩
    · exact ⟨_, _, _, hv⟩
    · exact ⟨_, _, _, hv⟩
  go_wp2
  go_ret2
  refine ⟨rfl, (WrP.put (bs' := bs ++ Lib.strCells s) hB hb2 (by simpa [Lib.strCells_length] using hown')).wr, ?_, ?_⟩
  · exact (hb1.grown hgrow (by have := hb1.size; omega) (fun k hk => (hown.lt k hk).1)).setCell (p := ⟨b, 1, none⟩) hB _
  · exact HO1.out.trans ((Oth.grown hown hgrow).trans (Oth.set _ _ _ _))
set_option maxHeartbeats 2000000 in
set_option maxRecDepth 100000 in
theorem wout_any (l : List UInt8) (h : Wr B b a (Lib.byteCells l) w) (h0 : l ≠ []) :
    Calls Tryz.prog 90 #[.pointer (some ⟨b, 0, none⟩)] w fun e w' => e = .returned (.string ⟨l.toArray⟩) ∧ Below B w w' := by
  obtain ⟨p, hp, hB, v, hbk, hown, hne⟩ := h
  have hl0 : l.length ≠ 0 := by simpa using h0
  rw [Lib.byteCells_length] at hown
  obtain ⟨g, cap, cur, rfl, hbg, hg, hnc, hcm, hcs, htake⟩ : ∃ g cap cur, v = .slice (some ⟨g, 0, none⟩) l.length cap ∧ B ≤ g ∧ w.heap[g]? = some (.cells cur 5 (0, 0)) ∧ l.length ≤ cap ∧ cap ≤ maxLen ∧ cur.size = cap * 1 ∧ cur.toList.take (l.length * 1) = Lib.byteCells l := by
    rcases hown.2 with ⟨_, hz⟩ | ⟨g, cap, cur, hv, r⟩
    · exact absurd hz hl0
    · exact ⟨g, cap, cur, hv, r⟩
  have c1 : w.drew.cell? ⟨b, 1, none⟩ = some (.slice (some ⟨g, 0, none⟩) l.length cap) := by
    have : w.drew.heap[b]? = some (.cells #[p, .slice (some ⟨g, 0, none⟩) l.length cap, a] 132 (0, 0)) := hbk
    rw [Lib.cell_of_heap this]; rfl
  have hSD : (Builtin.unsafeSliceData_ #[128] 151 #[.slice (some ⟨g, 0, none⟩) l.length cap]).run Tryz.prog w.drew = .ok (.pointer (some ⟨g, 0, none⟩)) w.drew :=
    Lib.run_unsafeSliceData_row _ _ _ _ _ _ (by omega)
  have hUS : (Builtin.unsafeString_ #[151, 3] 9 #[.pointer (some ⟨g, 0, none⟩), .int .i64 l.length]).run Tryz.prog w.drew = .ok (.string ⟨l.toArray⟩) (w.drew.freeze ⟨g, 0, none⟩ l.length) := by
    refine Lib.run_unsafeString_row w.drew 151 3 9 5 Tryz.underlying151 (by kernel_rfl) g cur.size (by have hg' : w.drew.heap[g]? = some (.cells cur 5 (0, 0)) := hg; simp [World.shape?, hg']) l h0 (by omega) (by unfold maxLen at hcm; omega) ?_
    intro j x hx
    have := hown.cells (g := g) rfl j (.int .u8 x.toNat) (by simp [Lib.byteCells, hx])
    exact this
  go_enter Tryz.func90, Tryz.ntmps90
  go_wp2
  go_region
  all_goals (go_wp2; go_ret; exact ⟨rfl, Lib.below_freeze (Below.drew (Below.refl B w)) (p := ⟨g, 0, none⟩) hbg _⟩)
end
end Go.Proofs.YtkgobglmkhkbbaaGreatDoor

/- plain: nodes made one behind the other: a node that is made again is the same term (TermOnce). -/
namespace Go.KK
open Go.RowKit
set_option linter.unusedVariables false
set_option linter.unusedSimpArgs false

theorem has_iff {xs : List ND} {t : Int} : hasB xs t = true ↔ 0 ≤ t ∧ t < (xs.length : Nat) := by
  unfold hasB
  simp only [Bool.and_eq_true, decide_eq_true_eq]
theorem may_app {xs : List ND} (l : List ND) {x : ND} (h : mayB xs x = true) : mayB (xs ++ l) x = true := by
  unfold mayB at h ⊢
  simp only [Bool.and_eq_true, List.all_eq_true, Bool.or_eq_true] at h ⊢
  refine ⟨⟨h.1.1, fun t ht => ?_⟩, h.2.imp id fun h2 => ?_⟩
  · have := h.1.2 t ht
    unfold hasB at this ⊢
    simp only [Bool.and_eq_true, decide_eq_true_eq, List.length_append] at this ⊢
    omega
  · have h3 : opAt xs (x.l.getD 1 0) = 2 := eq_of_beq h2
    have h4 : opAt (xs ++ l) (x.l.getD 1 0) = 2 := by
      unfold opAt at h3 ⊢
      rcases hh : xs[(x.l.getD 1 0).toNat]? with _ | y
      · rw [hh] at h3; exact absurd h3 (by decide)
      · rw [List.getElem?_append_left (List.getElem?_eq_some_iff.1 hh).1, hh]
        rw [hh] at h3; exact h3
    exact beq_iff_eq.2 h4
/-- The arena behind nodes that were made, one behind the other. -/
def mksT (xs l : List ND) : List ND := l.foldl makT xs
/-- What is told of one: -1 where it may not be. -/
def toldI (xs : List ND) (x : ND) : Int := if makE xs x = 0 then makI xs x else -1
def mksR : List ND → List ND → List Int
  | _, [] => []
  | xs, x :: l => toldI xs x :: mksR (makT xs x) l
theorem take_one {α : Type} {l : List α} {j : Nat} {x : α} (h : l[j]? = some x) : l.take (j + 1) = l.take j ++ [x] := by rw [List.take_add_one, h]; rfl
theorem mksT_take {xs l : List ND} {j : Nat} {x : ND} (h : l[j]? = some x) : mksT xs (l.take (j + 1)) = makT (mksT xs (l.take j)) x := by
  rw [take_one h]; unfold mksT; rw [List.foldl_append]; rfl
theorem mksR_snoc (x : ND) : ∀ (l xs : List ND), mksR xs (l ++ [x]) = mksR xs l ++ [toldI (mksT xs l) x]
  | [], xs => rfl
  | y :: l, xs => by
    show toldI xs y :: mksR (makT xs y) (l ++ [x]) = toldI xs y :: mksR (makT xs y) l ++ [toldI (mksT (makT xs y) l) x]
    rw [mksR_snoc x l]; rfl
theorem mksR_take {xs l : List ND} {j : Nat} {x : ND} (h : l[j]? = some x) : mksR xs (l.take (j + 1)) = mksR xs (l.take j) ++ [toldI (mksT xs (l.take j)) x] := by
  rw [take_one h, mksR_snoc]
theorem mksR_len : ∀ (l xs : List ND), (mksR xs l).length = l.length
  | [], _ => rfl
  | _ :: l, xs => by show (mksR _ l).length + 1 = l.length + 1; rw [mksR_len l]
theorem mksR_at : ∀ (l xs : List ND) (j : Nat) (x : ND), l[j]? = some x → (mksR xs l)[j]? = some (toldI (mksT xs (l.take j)) x)
  | [], _, _, _, h => by simp at h
  | y :: l, xs, 0, x, h => by injection h with h; subst h; rfl
  | y :: l, xs, j + 1, x, h => mksR_at l (makT xs y) j x h
theorem mak_pre (xs : List ND) (x : ND) : ∃ m, makT xs x = xs ++ m := by
  unfold makT
  split
  · split
    · exact ⟨[], by simp⟩
    · split
      · exact ⟨[], by simp⟩
      · exact ⟨[x], rfl⟩
  · exact ⟨[], by simp⟩
theorem mks_pre : ∀ (l xs : List ND), ∃ m, mksT xs l = xs ++ m
  | [], xs => ⟨[], by simp [mksT]⟩
  | x :: l, xs => by
    obtain ⟨m, hm⟩ := mak_pre xs x
    obtain ⟨m', hm'⟩ := mks_pre l (makT xs x)
    exact ⟨m ++ m', by show mksT (makT xs x) l = _; rw [hm', hm, List.append_assoc]⟩
theorem mks_pre_take (xs l : List ND) (j : Nat) : ∃ m, mksT xs l = mksT xs (l.take j) ++ m := by
  obtain ⟨m, hm⟩ := mks_pre (l.drop j) (mksT xs (l.take j))
  refine ⟨m, ?_⟩
  rw [← hm]
  unfold mksT
  rw [← List.foldl_append, List.take_append_drop]
theorem mks_len (xs l : List ND) : (mksT xs l).length ≤ xs.length + l.length := by
  induction l generalizing xs with
  | nil => simp [mksT]
  | cons x l ih =>
    have h1 := ih (makT xs x)
    have h2 : (makT xs x).length ≤ xs.length + 1 := by
      unfold makT
      split
      · split
        · omega
        · split <;> simp
      · omega
    show (mksT (makT xs x) l).length ≤ _
    rw [List.length_cons]; omega
theorem mks_ok {xs l : List ND} (h : Okay xs) (hl : ∀ x ∈ l, x.n < 9223372036854775808) : Okay (mksT xs l) := by
  induction l generalizing xs with
  | nil => exact h
  | cons x l ih => exact ih (okay_mak h (hl x (by simp))) fun y hy => hl y (by simp [hy])
theorem told_some {xs : List ND} {x : ND} (h : 0 ≤ toldI xs x) : makE xs x = 0 ∧ makI xs x = toldI xs x ∧ mayB xs x = true ∧ (makT xs x)[(toldI xs x).toNat]? = some x := by
  unfold toldI at h ⊢
  split at h
  · rename_i he
    rw [if_pos he]
    refine ⟨he, rfl, ?_⟩
    by_cases hm : mayB xs x = true
    · refine ⟨hm, ?_⟩
      by_cases hx : x ∈ xs
      · obtain ⟨a, b, c⟩ := mak_old hm hx
        rw [a, b, Int.toNat_natCast]
        exact idxOf_get hx
      · by_cases hl : xs.length < 100000
        · obtain ⟨a, b, c⟩ := mak_new hm hx hl
          rw [a, b, Int.toNat_natCast]; simp
        · unfold makE at he
          rw [if_pos hm, if_neg hx, if_pos (by omega)] at he
          exact absurd he (by decide)
    · unfold makE at he
      rw [if_neg hm] at he
      exact absurd he (by decide)
  · omega
theorem told_cases (xs : List ND) (x : ND) : (makE xs x = 0 ∧ toldI xs x = makI xs x ∧ 0 ≤ toldI xs x) ∨ (makE xs x ≠ 0 ∧ toldI xs x = -1) := by
  unfold toldI
  by_cases he : makE xs x = 0
  · left
    rw [if_pos he]
    refine ⟨he, rfl, ?_⟩
    unfold makI
    split
    · split
      · omega
      · split <;> omega
    · omega
  · right; rw [if_neg he]; exact ⟨he, rfl⟩
theorem get_pre {α : Type} {xs m : List α} {j : Nat} {x : α} (h : xs[j]? = some x) : (xs ++ m)[j]? = some x := by
  rw [List.getElem?_append_left (List.getElem?_eq_some_iff.1 h).1, h]
theorem get_inj {α : Type} {xs : List α} {j k : Nat} {x : α} (hn : xs.Nodup) (h : xs[j]? = some x) (h' : xs[k]? = some x) : j = k :=
  (List.getElem?_inj (List.getElem?_eq_some_iff.1 h).1 hn).1 (h.trans h'.symm)
/-- Made again, a node is what it was. -/
theorem once_at {l : List ND} {i : Nat} {n : ND} (hl : ∀ x ∈ l, x.n < 9223372036854775808) (hi : l[i]? = some n) (h0 : 0 ≤ toldI (mksT [] (l.take i)) n) :
    makE (mksT (mksT [] l) (l.take i)) n = 0 ∧ makI (mksT (mksT [] l) (l.take i)) n = toldI (mksT [] (l.take i)) n ∧
    (∀ k x, k < i → l[k]? = some x → 0 ≤ toldI (mksT [] (l.take k)) x → (toldI (mksT [] (l.take k)) x == toldI (mksT [] (l.take i)) n) = decide (x = n)) ∧
    ∀ x ∈ n.l, x < toldI (mksT [] (l.take i)) n := by
  have hok : Okay (mksT (mksT [] l) (l.take i)) := mks_ok (mks_ok okay_nil hl) fun x hx => hl x (List.mem_of_mem_take hx)
  have at' : ∀ k x, l[k]? = some x → 0 ≤ toldI (mksT [] (l.take k)) x → mayB (mksT (mksT [] l) (l.take i)) x = true ∧ (mksT (mksT [] l) (l.take i))[(toldI (mksT [] (l.take k)) x).toNat]? = some x := by
    intro k x hk h
    obtain ⟨_, _, c, d⟩ := told_some h
    obtain ⟨m1, e1⟩ := mks_pre_take [] l (k + 1)
    obtain ⟨m2, e2⟩ := mks_pre (l.take i) (mksT [] l)
    rw [mksT_take hk] at e1
    obtain ⟨m0, e0⟩ := mak_pre (mksT [] (l.take k)) x
    refine ⟨?_, ?_⟩
    · rw [e2, e1, e0]; exact may_app _ (may_app _ (may_app _ c))
    · rw [e2, e1]; exact get_pre (get_pre d)
  obtain ⟨hm, hg⟩ := at' i n hi h0
  have hmem := List.mem_of_getElem? hg
  obtain ⟨a, b, c⟩ := mak_old hm hmem
  have hidx := get_inj hok.nd (idxOf_get hmem) hg
  refine ⟨c, by rw [b, hidx]; omega, fun k x hk hx hx0 => ?_, fun x hx => ?_⟩
  · obtain ⟨_, hgx⟩ := at' k x hx hx0
    by_cases he : x = n
    · subst he
      have := get_inj hok.nd hgx hg
      rw [decide_eq_true rfl, beq_iff_eq]
      omega
    · rw [decide_eq_false he, beq_eq_false_iff_ne]
      intro h
      rw [h] at hgx
      rw [hgx] at hg
      injection hg with hg
      exact he hg
  · have hmay := hok.may _ _ hg
    unfold mayB at hmay
    simp only [Bool.and_eq_true, List.all_eq_true] at hmay
    have := hmay.1.2 x hx
    unfold hasB at this
    simp only [Bool.and_eq_true, decide_eq_true_eq, List.length_take] at this
    omega
end Go.KK

/- plain: a term's text, and what a writer writes of it that stops behind 4000 bytes. -/
namespace Go.KK
open Go.RowKit
set_option linter.unusedVariables false
set_option linter.unusedSimpArgs false

/-- The name of a kind. -/
def nameB (o : Int) : List UInt8 :=
  if o = 3 then [108, 105, 115, 116] else if o = 4 then [104, 97, 115, 104] else if o = 5 then [109, 105, 120] else if o = 6 then [107, 101, 121]
  else if o = 7 then [112, 117, 98] else if o = 8 then [115, 101, 97, 108] else if o = 9 then [101, 110, 99] else if o = 10 then [115, 105, 103] else if o = 11 then [109, 97, 99] else if o = 12 then [98, 108, 105, 110, 100] else []
/-- A text's bytes, with a stroke ahead of what would end it. -/
def escB (s : List UInt8) : List UInt8 := s.flatMap fun b => if b = 34 ∨ b = 92 then [92, b] else [b]
def joinC : List (List UInt8) → List UInt8
  | [] => []
  | [x] => x
  | x :: y :: l => x ++ 44 :: joinC (y :: l)
/-- One node's text, where the texts of all lesser terms are these. -/
def textOf (T : List (List UInt8)) (x : ND) : List UInt8 :=
  if x.o = 1 then 35 :: Lib.itoa x.n else if x.o = 2 then 34 :: (escB x.s.data.toList ++ [34])
  else nameB x.o ++ 40 :: (joinC (x.l.map fun t => T.getD t.toNat []) ++ [41])
def texts : List ND → List (List UInt8) := List.foldl (fun T x => T ++ [textOf T x]) []
def showL (xs : List ND) (t : Nat) : List UInt8 := (texts xs).getD t []
theorem texts_snoc (xs : List ND) (x : ND) : texts (xs ++ [x]) = texts xs ++ [textOf (texts xs) x] := by unfold texts; rw [List.foldl_append]; rfl
theorem snoc_ind {α : Type} {P : List α → Prop} (h0 : P []) (h1 : ∀ l x, P l → P (l ++ [x])) (l : List α) : P l := by
  have h : ∀ l : List α, P l.reverse := by
    intro l
    induction l with
    | nil => exact h0
    | cons x l ih => rw [List.reverse_cons]; exact h1 _ _ ih
  have := h l.reverse
  rwa [List.reverse_reverse] at this
theorem texts_len (xs : List ND) : (texts xs).length = xs.length := by
  refine snoc_ind (P := fun xs => (texts xs).length = xs.length) rfl (fun xs x ih => ?_) xs
  rw [texts_snoc, List.length_append, List.length_append, ih]; rfl
theorem texts_app (xs m : List ND) : ∃ T, texts (xs ++ m) = texts xs ++ T := by
  refine snoc_ind (P := fun m => ∃ T, texts (xs ++ m) = texts xs ++ T) ⟨[], by simp⟩ (fun m x ih => ?_) m
  obtain ⟨T, h⟩ := ih
  exact ⟨T ++ [textOf (texts (xs ++ m)) x], by rw [← List.append_assoc, texts_snoc, h, List.append_assoc]⟩
theorem show_app (xs m : List ND) {t : Nat} (h : t < xs.length) : showL (xs ++ m) t = showL xs t := by
  obtain ⟨T, e⟩ := texts_app xs m
  unfold showL
  rw [e, List.getD, List.getD, List.getElem?_append_left (by rw [texts_len]; exact h)]
theorem show_at {xs : List ND} {t : Nat} {x : ND} (hx : xs[t]? = some x) : showL xs t = textOf (texts (xs.take t)) x := by
  have ht := (List.getElem?_eq_some_iff.1 hx).1
  have e : xs = (xs.take t ++ [x]) ++ xs.drop (t + 1) := by rw [← take_one hx, List.take_append_drop]
  have hl : (xs.take t).length = t := by rw [List.length_take]; omega
  have h2 : showL xs t = showL (xs.take t ++ [x]) t := by
    conv => lhs; rw [e]
    exact show_app _ _ (by simp; omega)
  rw [h2]
  unfold showL
  rw [texts_snoc, List.getD, List.getElem?_append_right (by rw [texts_len, hl]; omega), texts_len, hl, Nat.sub_self]
  rfl
/-- A node that is made of parts: its text in words of theirs. -/
theorem show_parts {xs : List ND} (ok : Okay xs) {t : Nat} {x : ND} (hx : xs[t]? = some x) (h1 : x.o ≠ 1) (h2 : x.o ≠ 2) : showL xs t = nameB x.o ++ 40 :: (joinC (x.l.map fun y => showL xs y.toNat) ++ [41]) := by
  rw [show_at hx]
  unfold textOf
  rw [if_neg h1, if_neg h2]
  have : (x.l.map fun y => (texts (xs.take t)).getD y.toNat []) = x.l.map fun y => showL xs y.toNat := by
    apply List.map_congr_left
    intro y hy
    have hm := ok.may _ _ hx
    unfold mayB at hm
    simp only [Bool.and_eq_true, List.all_eq_true] at hm
    have h3 := has_iff.1 (hm.1.2 y hy)
    have e := show_app (xs.take t) (xs.drop t) (t := y.toNat) (by omega)
    rw [List.take_append_drop] at e
    rw [e]; rfl
  rw [this]
theorem joinC_snoc : ∀ (l : List (List UInt8)) (x : List UInt8), joinC (l ++ [x]) = if l = [] then x else joinC l ++ 44 :: x
  | [], x => rfl
  | [y], x => rfl
  | y :: z :: l, x => by
    have ih := joinC_snoc (z :: l) x
    rw [if_neg (by simp)] at ih ⊢
    show y ++ 44 :: joinC (z :: l ++ [x]) = (y ++ 44 :: joinC (z :: l)) ++ 44 :: x
    rw [ih]; simp
/-- Behind n bytes: all of it is written, if it ends by 4000; else so much that it is beyond. -/
def Cut (n : Nat) (tgt out : List UInt8) : Prop := (n + tgt.length ≤ 4000 → out = tgt) ∧ (4000 < n + tgt.length → 4000 < n + out.length)
theorem cut_all (n : Nat) (l : List UInt8) : Cut n l l := ⟨fun _ => rfl, id⟩
theorem cut_over {n : Nat} (h : 4000 < n) (l : List UInt8) : Cut n l [] := ⟨fun h' => by omega, fun _ => by simpa using h⟩
theorem Cut.app {n : Nat} {t1 o1 t2 o2 : List UInt8} (h : Cut n t1 o1) (k : Cut (n + o1.length) t2 o2) : Cut n (t1 ++ t2) (o1 ++ o2) := by
  refine ⟨fun h' => ?_, fun h' => ?_⟩
  · rw [List.length_append] at h'
    have e1 := h.1 (by omega)
    subst e1
    rw [k.1 (by omega)]
  · rw [List.length_append] at h' ⊢
    by_cases h1 : n + t1.length ≤ 4000
    · have e1 := h.1 h1
      subst e1
      have := k.2 (by omega)
      omega
    · have := h.2 (by omega)
      omega
theorem nameB_len (o : Int) : (nameB o).length ≤ 5 := by
  unfold nameB
  repeat' split
  all_goals decide
end Go.KK

