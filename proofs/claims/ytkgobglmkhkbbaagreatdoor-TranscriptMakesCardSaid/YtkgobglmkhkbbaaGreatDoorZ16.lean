import Derived.Test.YtkgobglmkhkbbaaGreatDoorZ15
import Derived.BigQuiet
import Derived.BigRegion
import Derived.Test.YtkgobglmkhkbbaaGreatDoorZ07
import Derived.Test.YtkgobglmkhkbbaaGreatDoorZ06
/- the document's layer 12: Read. -/
namespace Go.Proofs.YtkgobglmkhkbbaaGreatDoor
open Go.RowKit Go.KK Go.Shelf Go.Maps
set_option linter.unusedVariables false
set_option linter.unusedSimpArgs false

set_option maxHeartbeats 2000000 in
set_option maxRecDepth 100000 in
theorem rread_none (sa : Nat) (xs : List ND) (t : Int) (W : World) (h : ArV W 104 sa xs) (hh : hasB xs t = false) :
    Calls Tryz.prog 41 #[.pointer (some ⟨sa, 0, none⟩), .int .i64 t] W (RdS W (rdO xs t)) := by
  have HE0 := hid (heap_alloc_new W (.cells #[.int .i64 0, .int .i64 0, .int .i64 0, .int .i64 0, .int .i64 0] 58))
  have HB0 := hid (show Below W.heap.size W (W.alloc (.cells #[.int .i64 0, .int .i64 0, .int .i64 0, .int .i64 0, .int .i64 0] 58)) from (Below.refl _ _).alloc (Nat.le_refl _) _)
  have HN := hid (rnode_any sa xs t _ (h.ext HB0.out))
  have HQ := hid (show rdO xs t = none by unfold rdO; rw [if_neg (by rw [hh]; simp)])
  have hE4 : nodeE xs t = 4 := by unfold nodeE; rw [hh]; rfl
  rw [hE4] at HN
  clear hh hE4
  clear h
  generalize nodeF xs t = x at *
  go_enter Tryz.func41, Tryz.ntmps41
  go_wp2_with fail
  refine HN.out.mono ?_
  rintro e w2 ⟨A, c, rfl, -, hb⟩
  have HB3 := hid (HB0.out.trans ((hb.alloc hb.size (.cells #[.int .i64 x.o, .int .i64 x.n, .string x.s, .slice A x.l.length c] 88)).mono HB0.out.size))
  have HE3 := hid (((hb.alloc hb.size (.cells #[.int .i64 x.o, .int .i64 x.n, .string x.s, .slice A x.l.length c] 88)).block W.heap.size (by simp)).trans HE0.out)
  clear hb HN
  go_wp2_with fail
  go_quiet (fail)
  generalize hW3 : (w2.alloc (.cells #[.int .i64 x.o, .int .i64 x.n, .string x.s, .slice A x.l.length c] 88)) = w3 at *
  have r0 : (w3.drewN nq).cell? ⟨W.heap.size, 0, none⟩ = some (.int .i64 0) := by rw [cell_of_row (w3.drewN nq) (W.heap.size) 0 _ _ (0, 0) (show (w3.drewN nq).heap[W.heap.size]? = _ from HE3.out)]; rfl
  have f0 : (w3.drewN nq).frozen? ⟨W.heap.size, 0, none⟩ = false := frozen_of_row (w3.drewN nq) (W.heap.size) 0 _ _ (show (w3.drewN nq).heap[W.heap.size]? = _ from HE3.out)
  have r1 : (w3.drewN nq).cell? ⟨W.heap.size, 1, none⟩ = some (.int .i64 0) := by rw [cell_of_row (w3.drewN nq) (W.heap.size) 1 _ _ (0, 0) (show (w3.drewN nq).heap[W.heap.size]? = _ from HE3.out)]; rfl
  have f1 : (w3.drewN nq).frozen? ⟨W.heap.size, 1, none⟩ = false := frozen_of_row (w3.drewN nq) (W.heap.size) 1 _ _ (show (w3.drewN nq).heap[W.heap.size]? = _ from HE3.out)
  have r2 : (w3.drewN nq).cell? ⟨W.heap.size, 2, none⟩ = some (.int .i64 0) := by rw [cell_of_row (w3.drewN nq) (W.heap.size) 2 _ _ (0, 0) (show (w3.drewN nq).heap[W.heap.size]? = _ from HE3.out)]; rfl
  have f2 : (w3.drewN nq).frozen? ⟨W.heap.size, 2, none⟩ = false := frozen_of_row (w3.drewN nq) (W.heap.size) 2 _ _ (show (w3.drewN nq).heap[W.heap.size]? = _ from HE3.out)
  have r3 : (w3.drewN nq).cell? ⟨W.heap.size, 3, none⟩ = some (.int .i64 0) := by rw [cell_of_row (w3.drewN nq) (W.heap.size) 3 _ _ (0, 0) (show (w3.drewN nq).heap[W.heap.size]? = _ from HE3.out)]; rfl
  have f3 : (w3.drewN nq).frozen? ⟨W.heap.size, 3, none⟩ = false := frozen_of_row (w3.drewN nq) (W.heap.size) 3 _ _ (show (w3.drewN nq).heap[W.heap.size]? = _ from HE3.out)
  have r4 : (w3.drewN nq).cell? ⟨W.heap.size, 4, none⟩ = some (.int .i64 0) := by rw [cell_of_row (w3.drewN nq) (W.heap.size) 4 _ _ (0, 0) (show (w3.drewN nq).heap[W.heap.size]? = _ from HE3.out)]; rfl
  have f4 : (w3.drewN nq).frozen? ⟨W.heap.size, 4, none⟩ = false := frozen_of_row (w3.drewN nq) (W.heap.size) 4 _ _ (show (w3.drewN nq).heap[W.heap.size]? = _ from HE3.out)
  go_wp2_with fail
  refine bodyPost_ret (v := .tuple #[.agg #[.int .i64 0, .int .i64 0, .int .i64 0, .int .i64 0, .int .i64 0], .int .i64 1]) ?_ rfl (show RdS _ _ _ _ from ⟨by rw [HQ.out]; rfl, ?_⟩)
  · rw [results_cell_tmp rfl]
    go_simp
  · iterate 5 refine Below.setCell (B := W.heap.size) ?_ (p := ⟨W.heap.size, _, none⟩) (Nat.le_refl _) _
    exact below_drewN HB3.out nq
set_option maxHeartbeats 2000000 in
set_option maxRecDepth 100000 in
theorem rread_op (sa : Nat) (xs : List ND) (t : Int) (W : World) (h : ArV W 104 sa xs) (hh : hasB xs t = true) (ho : (nodeF xs t).o ≠ 3) :
    Calls Tryz.prog 41 #[.pointer (some ⟨sa, 0, none⟩), .int .i64 t] W (RdS W (rdO xs t)) := by
  have HE0 := hid (heap_alloc_new W (.cells #[.int .i64 0, .int .i64 0, .int .i64 0, .int .i64 0, .int .i64 0] 58))
  have HB0 := hid (show Below W.heap.size W (W.alloc (.cells #[.int .i64 0, .int .i64 0, .int .i64 0, .int .i64 0, .int .i64 0] 58)) from (Below.refl _ _).alloc (Nat.le_refl _) _)
  have HN := hid (rnode_any sa xs t _ (h.ext HB0.out))
  have HQ := hid (show rdO xs t = none by unfold rdO; rw [if_neg (fun e => ho e.2.1)])
  have hE4 : nodeE xs t = 0 := by unfold nodeE; rw [hh]; rfl
  rw [hE4] at HN
  have hne : ((nodeF xs t).o != 3) = true := bne_iff_ne.2 ho
  clear hh hE4 ho
  clear h
  generalize nodeF xs t = x at *
  go_enter Tryz.func41, Tryz.ntmps41
  go_wp2_with fail
  refine HN.out.mono ?_
  rintro e w2 ⟨A, c, rfl, -, hb⟩
  have HB3 := hid (HB0.out.trans ((hb.alloc hb.size (.cells #[.int .i64 x.o, .int .i64 x.n, .string x.s, .slice A x.l.length c] 88)).mono HB0.out.size))
  have HE3 := hid (((hb.alloc hb.size (.cells #[.int .i64 x.o, .int .i64 x.n, .string x.s, .slice A x.l.length c] 88)).block W.heap.size (by simp)).trans HE0.out)
  clear hb HN
  go_wp2_with fail
  go_quiet (fail)
  generalize hW3 : (w2.alloc (.cells #[.int .i64 x.o, .int .i64 x.n, .string x.s, .slice A x.l.length c] 88)) = w3 at *
  have r0 : (w3.drewN nq).cell? ⟨W.heap.size, 0, none⟩ = some (.int .i64 0) := by rw [cell_of_row (w3.drewN nq) (W.heap.size) 0 _ _ (0, 0) (show (w3.drewN nq).heap[W.heap.size]? = _ from HE3.out)]; rfl
  have f0 : (w3.drewN nq).frozen? ⟨W.heap.size, 0, none⟩ = false := frozen_of_row (w3.drewN nq) (W.heap.size) 0 _ _ (show (w3.drewN nq).heap[W.heap.size]? = _ from HE3.out)
  have r1 : (w3.drewN nq).cell? ⟨W.heap.size, 1, none⟩ = some (.int .i64 0) := by rw [cell_of_row (w3.drewN nq) (W.heap.size) 1 _ _ (0, 0) (show (w3.drewN nq).heap[W.heap.size]? = _ from HE3.out)]; rfl
  have f1 : (w3.drewN nq).frozen? ⟨W.heap.size, 1, none⟩ = false := frozen_of_row (w3.drewN nq) (W.heap.size) 1 _ _ (show (w3.drewN nq).heap[W.heap.size]? = _ from HE3.out)
  have r2 : (w3.drewN nq).cell? ⟨W.heap.size, 2, none⟩ = some (.int .i64 0) := by rw [cell_of_row (w3.drewN nq) (W.heap.size) 2 _ _ (0, 0) (show (w3.drewN nq).heap[W.heap.size]? = _ from HE3.out)]; rfl
  have f2 : (w3.drewN nq).frozen? ⟨W.heap.size, 2, none⟩ = false := frozen_of_row (w3.drewN nq) (W.heap.size) 2 _ _ (show (w3.drewN nq).heap[W.heap.size]? = _ from HE3.out)
  have r3 : (w3.drewN nq).cell? ⟨W.heap.size, 3, none⟩ = some (.int .i64 0) := by rw [cell_of_row (w3.drewN nq) (W.heap.size) 3 _ _ (0, 0) (show (w3.drewN nq).heap[W.heap.size]? = _ from HE3.out)]; rfl
  have f3 : (w3.drewN nq).frozen? ⟨W.heap.size, 3, none⟩ = false := frozen_of_row (w3.drewN nq) (W.heap.size) 3 _ _ (show (w3.drewN nq).heap[W.heap.size]? = _ from HE3.out)
  have r4 : (w3.drewN nq).cell? ⟨W.heap.size, 4, none⟩ = some (.int .i64 0) := by rw [cell_of_row (w3.drewN nq) (W.heap.size) 4 _ _ (0, 0) (show (w3.drewN nq).heap[W.heap.size]? = _ from HE3.out)]; rfl
  have f4 : (w3.drewN nq).frozen? ⟨W.heap.size, 4, none⟩ = false := frozen_of_row (w3.drewN nq) (W.heap.size) 4 _ _ (show (w3.drewN nq).heap[W.heap.size]? = _ from HE3.out)
  go_wp2_with fail
  refine bodyPost_ret (v := .tuple #[.agg #[.int .i64 0, .int .i64 0, .int .i64 0, .int .i64 0, .int .i64 0], .int .i64 1]) ?_ rfl (show RdS _ _ _ _ from ⟨by rw [HQ.out]; rfl, ?_⟩)
  · rw [results_cell_tmp rfl]
    go_simp
  · iterate 5 refine Below.setCell (B := W.heap.size) ?_ (p := ⟨W.heap.size, _, none⟩) (Nat.le_refl _) _
    exact below_drewN HB3.out nq
set_option maxHeartbeats 2000000 in
set_option maxRecDepth 100000 in
theorem rread_six (sa : Nat) (xs : List ND) (t : Int) (W : World) (h : ArV W 104 sa xs) (hh : hasB xs t = true) (ho : (nodeF xs t).o = 3) (hl : (nodeF xs t).l.length ≠ 6) :
    Calls Tryz.prog 41 #[.pointer (some ⟨sa, 0, none⟩), .int .i64 t] W (RdS W (rdO xs t)) := by
  have HE0 := hid (heap_alloc_new W (.cells #[.int .i64 0, .int .i64 0, .int .i64 0, .int .i64 0, .int .i64 0] 58))
  have HB0 := hid (show Below W.heap.size W (W.alloc (.cells #[.int .i64 0, .int .i64 0, .int .i64 0, .int .i64 0, .int .i64 0] 58)) from (Below.refl _ _).alloc (Nat.le_refl _) _)
  have HN := hid (rnode_any sa xs t _ (h.ext HB0.out))
  have HQ := hid (show rdO xs t = none by unfold rdO; rw [if_neg (fun e => hl e.2.2)])
  have hE4 : nodeE xs t = 0 := by unfold nodeE; rw [hh]; rfl
  rw [hE4] at HN
  have hne : (((nodeF xs t).l.length : Int) != 6) = true := bne_iff_ne.2 (by omega)
  have hoe : ((nodeF xs t).o != 3) = false := by rw [ho]; decide
  clear hh hE4 hl ho
  clear h
  generalize nodeF xs t = x at *
  go_enter Tryz.func41, Tryz.ntmps41
  go_wp2_with fail
  refine HN.out.mono ?_
  rintro e w2 ⟨A, c, rfl, -, hb⟩
  have HB3 := hid (HB0.out.trans ((hb.alloc hb.size (.cells #[.int .i64 x.o, .int .i64 x.n, .string x.s, .slice A x.l.length c] 88)).mono HB0.out.size))
  have HE3 := hid (((hb.alloc hb.size (.cells #[.int .i64 x.o, .int .i64 x.n, .string x.s, .slice A x.l.length c] 88)).block W.heap.size (by simp)).trans HE0.out)
  clear hb HN
  go_wp2_with fail
  go_quiet (fail)
  generalize hW3 : (w2.alloc (.cells #[.int .i64 x.o, .int .i64 x.n, .string x.s, .slice A x.l.length c] 88)) = w3 at *
  have r0 : (w3.drewN nq).cell? ⟨W.heap.size, 0, none⟩ = some (.int .i64 0) := by rw [cell_of_row (w3.drewN nq) (W.heap.size) 0 _ _ (0, 0) (show (w3.drewN nq).heap[W.heap.size]? = _ from HE3.out)]; rfl
  have f0 : (w3.drewN nq).frozen? ⟨W.heap.size, 0, none⟩ = false := frozen_of_row (w3.drewN nq) (W.heap.size) 0 _ _ (show (w3.drewN nq).heap[W.heap.size]? = _ from HE3.out)
  have r1 : (w3.drewN nq).cell? ⟨W.heap.size, 1, none⟩ = some (.int .i64 0) := by rw [cell_of_row (w3.drewN nq) (W.heap.size) 1 _ _ (0, 0) (show (w3.drewN nq).heap[W.heap.size]? = _ from HE3.out)]; rfl
  have f1 : (w3.drewN nq).frozen? ⟨W.heap.size, 1, none⟩ = false := frozen_of_row (w3.drewN nq) (W.heap.size) 1 _ _ (show (w3.drewN nq).heap[W.heap.size]? = _ from HE3.out)
  have r2 : (w3.drewN nq).cell? ⟨W.heap.size, 2, none⟩ = some (.int .i64 0) := by rw [cell_of_row (w3.drewN nq) (W.heap.size) 2 _ _ (0, 0) (show (w3.drewN nq).heap[W.heap.size]? = _ from HE3.out)]; rfl
  have f2 : (w3.drewN nq).frozen? ⟨W.heap.size, 2, none⟩ = false := frozen_of_row (w3.drewN nq) (W.heap.size) 2 _ _ (show (w3.drewN nq).heap[W.heap.size]? = _ from HE3.out)
  have r3 : (w3.drewN nq).cell? ⟨W.heap.size, 3, none⟩ = some (.int .i64 0) := by rw [cell_of_row (w3.drewN nq) (W.heap.size) 3 _ _ (0, 0) (show (w3.drewN nq).heap[W.heap.size]? = _ from HE3.out)]; rfl
  have f3 : (w3.drewN nq).frozen? ⟨W.heap.size, 3, none⟩ = false := frozen_of_row (w3.drewN nq) (W.heap.size) 3 _ _ (show (w3.drewN nq).heap[W.heap.size]? = _ from HE3.out)
  have r4 : (w3.drewN nq).cell? ⟨W.heap.size, 4, none⟩ = some (.int .i64 0) := by rw [cell_of_row (w3.drewN nq) (W.heap.size) 4 _ _ (0, 0) (show (w3.drewN nq).heap[W.heap.size]? = _ from HE3.out)]; rfl
  have f4 : (w3.drewN nq).frozen? ⟨W.heap.size, 4, none⟩ = false := frozen_of_row (w3.drewN nq) (W.heap.size) 4 _ _ (show (w3.drewN nq).heap[W.heap.size]? = _ from HE3.out)
  go_wp2_with fail
  refine bodyPost_ret (v := .tuple #[.agg #[.int .i64 0, .int .i64 0, .int .i64 0, .int .i64 0, .int .i64 0], .int .i64 1]) ?_ rfl (show RdS _ _ _ _ from ⟨by rw [HQ.out]; rfl, ?_⟩)
  · rw [results_cell_tmp rfl]
    go_simp
  · iterate 5 refine Below.setCell (B := W.heap.size) ?_ (p := ⟨W.heap.size, _, none⟩) (Nat.le_refl _) _
    exact below_drewN HB3.out nq
/-- Where Read stands behind its node: the node in its variable, two more that it looks at, the result's box still empty. -/
structure RrC (W U : World) (nb b o c sa bA oA cA i0 i2 N : Nat) (x1 x3 x4 x5 o0 o2 : Int) (s0 s2 : ByteArray) : Prop where
  low : Below W.heap.size W U
  box : U.heap[W.heap.size]? = some (.cells #[.int .i64 0, .int .i64 0, .int .i64 0, .int .i64 0, .int .i64 0] 58 (0, 0))
  sl : U.cell? ⟨nb, 3, none⟩ = some (.slice (some ⟨b, o, none⟩) 6 c)
  k0 : U.cell? ⟨nb, 0, none⟩ = some (.int .i64 3)
  c0 : U.cell? ⟨b, o, none⟩ = some (.int .i64 i0)
  c1 : U.cell? ⟨b, o + 1, none⟩ = some (.int .i64 x1)
  c2 : U.cell? ⟨b, o + 2, none⟩ = some (.int .i64 i2)
  c3 : U.cell? ⟨b, o + 3, none⟩ = some (.int .i64 x3)
  c4 : U.cell? ⟨b, o + 4, none⟩ = some (.int .i64 x4)
  c5 : U.cell? ⟨b, o + 5, none⟩ = some (.int .i64 x5)
  bx : U.cell? ⟨sa, 0, none⟩ = some (.slice (some ⟨bA, oA, none⟩) N cA)
  p0 : U.cell? ⟨bA, oA + i0 * 4, none⟩ = some (.int .i64 o0)
  p2 : U.cell? ⟨bA, oA + i0 * 4 + 2, none⟩ = some (.string s0)
  q0 : U.cell? ⟨bA, oA + i2 * 4, none⟩ = some (.int .i64 o2)
  q2 : U.cell? ⟨bA, oA + i2 * 4 + 2, none⟩ = some (.string s2)
theorem RrC.ext {W U U' : World} {nb b o c sa bA oA cA i0 i2 N : Nat} {x1 x3 x4 x5 o0 o2 : Int} {s0 s2 : ByteArray} (h : RrC W U nb b o c sa bA oA cA i0 i2 N x1 x3 x4 x5 o0 o2 s0 s2) (hb : Below U.heap.size U U') : RrC W U' nb b o c sa bA oA cA i0 i2 N x1 x3 x4 x5 o0 o2 s0 s2 :=
  have k := fun {b o : Nat} {v : Value} (hc : U.cell? ⟨b, o, none⟩ = some v) => (hb.cell (p := ⟨b, o, none⟩) (block_lt_of_cell hc)).trans hc
  ⟨h.low.trans (hb.mono h.low.size), (hb.block _ (Array.getElem?_eq_some_iff.1 h.box).1).trans h.box, k h.sl, k h.k0, k h.c0, k h.c1, k h.c2, k h.c3, k h.c4, k h.c5, k h.bx, k h.p0, k h.p2, k h.q0, k h.q2⟩
theorem rrc_start {W w2 : World} {A : Option Addr} {c sa : Nat} {xs : List ND} {x0 x1 x2 x3 x4 x5 : Int} (hs : SlA w2 1 A 6 c ([x0, x1, x2, x3, x4, x5].map (.int .i64))) (hb : Below (W.alloc (.cells #[.int .i64 0, .int .i64 0, .int .i64 0, .int .i64 0, .int .i64 0] 58)).heap.size (W.alloc (.cells #[.int .i64 0, .int .i64 0, .int .i64 0, .int .i64 0, .int .i64 0] 58)) w2)
    (hE : (W.alloc (.cells #[.int .i64 0, .int .i64 0, .int .i64 0, .int .i64 0, .int .i64 0] 58)).heap[W.heap.size]? = some (.cells #[.int .i64 0, .int .i64 0, .int .i64 0, .int .i64 0, .int .i64 0] 58 (0, 0))) (hA : ArV (W.alloc (.cells #[.int .i64 0, .int .i64 0, .int .i64 0, .int .i64 0, .int .i64 0] 58)) 104 sa xs) (n : Int) (s : ByteArray) (h0 : hasB xs x0 = true) (h2 : hasB xs x2 = true) :
    ∃ b o bA oA cA i0 i2 : Nat, A = some ⟨b, o, none⟩ ∧ x0 = (i0 : Int) ∧ x2 = (i2 : Int) ∧ i0 < xs.length ∧ i2 < xs.length ∧ RrC W (w2.alloc (.cells #[.int .i64 3, .int .i64 n, .string s, .slice A 6 c] 88)) w2.heap.size b o c sa bA oA cA i0 i2 xs.length x1 x3 x4 x5 (nodeF xs x0).o (nodeF xs x2).o (nodeF xs x0).s (nodeF xs x2).s := by
  have g0 := has_iff.1 h0; have g2 := has_iff.1 h2
  obtain ⟨i0, rfl⟩ := Int.eq_ofNat_of_zero_le g0.1
  obtain ⟨i2, rfl⟩ := Int.eq_ofNat_of_zero_le g2.1
  have l0 : i0 < xs.length := by omega
  have l2 : i2 < xs.length := by omega
  obtain ⟨A1, cA, m, a0, -, hn⟩ := hA.parts
  obtain ⟨bA, oA, y, -, -, rfl, hy, y0, -, y2, -⟩ := hn.at l0
  obtain ⟨bA', oA', z, -, -, e, hz, z0, -, z2, -⟩ := hn.at l2
  simp only [Option.some.injEq, Addr.mk.injEq, and_true] at e
  obtain ⟨rfl, rfl⟩ := e
  have e0 : nodeF xs (i0 : Int) = y := by unfold nodeF; rw [h0, if_pos rfl, Int.toNat_natCast, List.getD, hy]; rfl
  have e2 : nodeF xs (i2 : Int) = z := by unfold nodeF; rw [h2, if_pos rfl, Int.toNat_natCast, List.getD, hz]; rfl
  obtain ⟨b, o, z0', rfl, hz0, w0⟩ := hs.elemI (show 0 < 6 by decide)
  obtain ⟨b1, o1, z1, f1, hz1, w1⟩ := hs.elemI (show 1 < 6 by decide)
  obtain ⟨b2, o2, z2', f2, hz2, w2'⟩ := hs.elemI (show 2 < 6 by decide)
  obtain ⟨b3, o3, z3, f3, hz3, w3⟩ := hs.elemI (show 3 < 6 by decide)
  obtain ⟨b4, o4, z4, f4, hz4, w4⟩ := hs.elemI (show 4 < 6 by decide)
  obtain ⟨b5, o5, z5, f5, hz5, w5⟩ := hs.elemI (show 5 < 6 by decide)
  simp only [Option.some.injEq, Addr.mk.injEq, and_true] at f1 f2 f3 f4 f5
  obtain ⟨rfl, rfl⟩ := f1; obtain ⟨rfl, rfl⟩ := f2; obtain ⟨rfl, rfl⟩ := f3; obtain ⟨rfl, rfl⟩ := f4; obtain ⟨rfl, rfl⟩ := f5
  simp at hz0 hz1 hz2 hz3 hz4 hz5
  subst hz0; subst hz1; subst hz2; subst hz3; subst hz4; subst hz5
  have hB : Below W.heap.size W (W.alloc (.cells #[.int .i64 0, .int .i64 0, .int .i64 0, .int .i64 0, .int .i64 0] 58)) := (Below.refl _ _).alloc (Nat.le_refl _) _
  have hbA : Below (W.alloc (.cells #[.int .i64 0, .int .i64 0, .int .i64 0, .int .i64 0, .int .i64 0] 58)).heap.size (W.alloc (.cells #[.int .i64 0, .int .i64 0, .int .i64 0, .int .i64 0, .int .i64 0] 58)) (w2.alloc (.cells #[.int .i64 3, .int .i64 n, .string s, .slice (some ⟨b, o, none⟩) 6 c] 88)) := hb.alloc hb.size _
  have hsz : (W.alloc (.cells #[.int .i64 0, .int .i64 0, .int .i64 0, .int .i64 0, .int .i64 0] 58)).heap.size = W.heap.size + 1 := by simp
  have ar := fun {b o : Nat} {v : Value} (hc : (W.alloc (.cells #[.int .i64 0, .int .i64 0, .int .i64 0, .int .i64 0, .int .i64 0] 58)).cell? ⟨b, o, none⟩ = some v) => (hbA.cell (p := ⟨b, o, none⟩) (block_lt_of_cell hc)).trans hc
  refine ⟨b, o, bA, oA, cA, i0, i2, rfl, rfl, rfl, l0, l2, hB.trans (hbA.mono hB.size), (hbA.block _ (by rw [hsz]; omega)).trans hE, ?_, ?_, kk w0, kk w1, kk w2', kk w3, kk w4, kk w5, ar a0, by rw [e0]; exact ar y0, by rw [e0]; exact ar y2, by rw [e2]; exact ar z0, by rw [e2]; exact ar z2⟩
  · rw [cell_of_row _ w2.heap.size 3 _ _ (0, 0) (heap_alloc_new w2 _)]; rfl
  · rw [cell_of_row _ w2.heap.size 0 _ _ (0, 0) (heap_alloc_new w2 _)]; rfl
where kk {w2 : World} {o' : Obj} {b o : Nat} {v : Value} (hc : w2.cell? ⟨b, o, none⟩ = some v) : (w2.alloc o').cell? ⟨b, o, none⟩ = some v := (((Below.refl w2.heap.size w2).alloc (Nat.le_refl _) o').cell (p := ⟨b, o, none⟩) (block_lt_of_cell hc)).trans hc
set_option maxHeartbeats 4000000 in
set_option maxRecDepth 100000 in
theorem rread_b1 (sa : Nat) (xs : List ND) (t : Int) (W : World) (h : ArV W 104 sa xs) (hh : hasB xs t = true) (ho : (nodeF xs t).o = 3) (hl : (nodeF xs t).l.length = 6) (h0 : (nodeF xs ((nodeF xs t).l.getD 0 0)).o ≠ 2) :
    Calls Tryz.prog 41 #[.pointer (some ⟨sa, 0, none⟩), .int .i64 t] W (RdS W (rdO xs t)) := by
  have HE0 := hid (heap_alloc_new W (.cells #[.int .i64 0, .int .i64 0, .int .i64 0, .int .i64 0, .int .i64 0] 58))
  have HB0 := hid (show Below W.heap.size W (W.alloc (.cells #[.int .i64 0, .int .i64 0, .int .i64 0, .int .i64 0, .int .i64 0] 58)) from (Below.refl _ _).alloc (Nat.le_refl _) _)
  have HA0 := hid (h.ext HB0.out)
  have HN := hid (rnode_any sa xs t _ HA0.out)
  have hE4 : nodeE xs t = 0 := by unfold nodeE; rw [hh]; rfl
  have HP := hid (part_has h.ok hh)
  have HTL := hid (fun i => text_len h.ok i)
  have HLN := hid h.ok.len
  obtain ⟨o, ho'⟩ : ∃ o, o = rdO xs t := ⟨_, rfl⟩
  have HO := hid ho'
  rw [← ho']
  clear ho'
  unfold rdO at HO
  rw [if_pos ⟨hh, ho, hl⟩] at HO
  rw [hE4] at HN
  clear h hE4 hh
  generalize nodeF xs t = x at HN HO HP ho hl h0
  obtain ⟨xo, n, s, l⟩ := x
  try dsimp only at HN HO HP ho hl
  subst ho
  obtain ⟨x0, x1, x2, x3, x4, x5, rfl⟩ : ∃ x0 x1 x2 x3 x4 x5, l = [x0, x1, x2, x3, x4, x5] := by
    match l, hl with
    | [a, b, c, d, e, f], _ => exact ⟨a, b, c, d, e, f, rfl⟩
  clear hl
  have HN := hid (show Calls Tryz.prog 81 #[.pointer (some ⟨sa, 0, none⟩), .int .i64 t] (W.alloc (.cells #[.int .i64 0, .int .i64 0, .int .i64 0, .int .i64 0, .int .i64 0] 58)) fun e w' => ∃ A c, e = .returned (.tuple #[.agg #[.int .i64 3, .int .i64 n, .string s, .slice A 6 c], .int .i64 0]) ∧ SlA w' 1 A 6 c ([x0, x1, x2, x3, x4, x5].map (.int .i64)) ∧ Below (W.alloc (.cells #[.int .i64 0, .int .i64 0, .int .i64 0, .int .i64 0, .int .i64 0] 58)).heap.size (W.alloc (.cells #[.int .i64 0, .int .i64 0, .int .i64 0, .int .i64 0, .int .i64 0] 58)) w' from HN.out)
  have HO := hid (show o = if (nodeF xs x0).o = 2 ∧ (nodeF xs x0).s = lbGroup ∧ (nodeF xs x2).o = 2 then (numO (nodeF xs x2).s).map fun k => [x1, k, x3, x4, x5] else none from HO.out)
  have HH0 := hid (HP.out x0 (by simp)); have HH2 := hid (HP.out x2 (by simp))
  have HS2 := hid (HTL.out x2)
  clear HP HTL
  replace h0 : (nodeF xs x0).o ≠ 2 := h0
  obtain ⟨n0, hn0⟩ : ∃ n0, n0 = nodeF xs x0 := ⟨_, rfl⟩
  obtain ⟨n2, hn2⟩ : ∃ n2, n2 = nodeF xs x2 := ⟨_, rfl⟩
  have HN0 := hid hn0.symm; have HN2 := hid hn2.symm
  rw [HN0.out, HN2.out] at HO
  rw [HN2.out] at HS2
  rw [HN0.out] at h0
  clear hn0 hn2
  obtain ⟨q0, p0, n0s, l0⟩ := n0
  obtain ⟨q2, p2, n2s, l2⟩ := n2
  dsimp only at HO HS2 h0
  have e0 : (q0 != 2) = true := bne_iff_ne.2 h0
  have HQ := hid (show o = none by rw [HO.out, if_neg (fun e => h0 e.1)])
  clear h0 HO
  go_enter Tryz.func41, Tryz.ntmps41
  go_wp2_with fail
  refine HN.out.mono ?_
  rintro e w2 ⟨A, c, rfl, hrow, hb⟩
  obtain ⟨b, o', bA, oA, cA, i0, i2, rfl, hx0, hx2, hl0, hl2, hr3⟩ := rrc_start hrow hb HE0.out HA0.out n s HH0.out HH2.out
  rw [HN0.out, HN2.out] at hr3
  subst hx0; subst hx2
  have HR3 := hid hr3
  clear hrow hb HN HE0 HA0 hr3 HH0 HH2
  have k0 := HR3.out.k0; have sl := HR3.out.sl; have c0 := HR3.out.c0; have c2 := HR3.out.c2; have bx := HR3.out.bx; have p0 := HR3.out.p0; have p2 := HR3.out.p2; have q0 := HR3.out.q0; have q2 := HR3.out.q2
  have hl0' : (i0 : Int) < (xs.length : Int) := by omega
  have hl2' : (i2 : Int) < (xs.length : Int) := by omega
  clear hl0 hl2
  go_wp2_with fail
  generalize w2.alloc (.cells #[.int .i64 3, .int .i64 n, .string s, .slice (some ⟨b, o', none⟩) 6 c] 88) = w3 at *
  generalize w2.heap.size = nb at *
  go_quiet (fail)
  have HR4 := hid (HR3.out.ext (below_drewN (Below.refl _ _) nq))
  clear HR3 k0 sl c0 c2 bx p0 p2 q0 q2
  generalize w3.drewN nq = w4 at *
  have r0 : w4.cell? ⟨W.heap.size, 0, none⟩ = some (.int .i64 0) := by rw [cell_of_row w4 (W.heap.size) 0 _ _ (0, 0) HR4.out.box]; rfl
  have f0 : w4.frozen? ⟨W.heap.size, 0, none⟩ = false := frozen_of_row w4 (W.heap.size) 0 _ _ HR4.out.box
  have r1 : w4.cell? ⟨W.heap.size, 1, none⟩ = some (.int .i64 0) := by rw [cell_of_row w4 (W.heap.size) 1 _ _ (0, 0) HR4.out.box]; rfl
  have f1 : w4.frozen? ⟨W.heap.size, 1, none⟩ = false := frozen_of_row w4 (W.heap.size) 1 _ _ HR4.out.box
  have r2 : w4.cell? ⟨W.heap.size, 2, none⟩ = some (.int .i64 0) := by rw [cell_of_row w4 (W.heap.size) 2 _ _ (0, 0) HR4.out.box]; rfl
  have f2 : w4.frozen? ⟨W.heap.size, 2, none⟩ = false := frozen_of_row w4 (W.heap.size) 2 _ _ HR4.out.box
  have r3 : w4.cell? ⟨W.heap.size, 3, none⟩ = some (.int .i64 0) := by rw [cell_of_row w4 (W.heap.size) 3 _ _ (0, 0) HR4.out.box]; rfl
  have f3 : w4.frozen? ⟨W.heap.size, 3, none⟩ = false := frozen_of_row w4 (W.heap.size) 3 _ _ HR4.out.box
  have r4 : w4.cell? ⟨W.heap.size, 4, none⟩ = some (.int .i64 0) := by rw [cell_of_row w4 (W.heap.size) 4 _ _ (0, 0) HR4.out.box]; rfl
  have f4 : w4.frozen? ⟨W.heap.size, 4, none⟩ = false := frozen_of_row w4 (W.heap.size) 4 _ _ HR4.out.box
  go_wp2_with fail
  refine bodyPost_ret (v := .tuple #[.agg #[.int .i64 0, .int .i64 0, .int .i64 0, .int .i64 0, .int .i64 0], .int .i64 1]) ?_ rfl (show RdS _ _ _ _ from ⟨by rw [HQ.out]; rfl, ?_⟩)
  · rw [results_cell_tmp rfl]
    go_simp
  · iterate 5 refine Below.setCell (B := W.heap.size) ?_ (p := ⟨W.heap.size, _, none⟩) (Nat.le_refl _) _
    exact HR4.out.low
set_option maxHeartbeats 4000000 in
set_option maxRecDepth 100000 in
theorem rread_b3 (sa : Nat) (xs : List ND) (t : Int) (W : World) (h : ArV W 104 sa xs) (hh : hasB xs t = true) (ho : (nodeF xs t).o = 3) (hl : (nodeF xs t).l.length = 6) (h0 : (nodeF xs ((nodeF xs t).l.getD 0 0)).o = 2) (hg : (nodeF xs ((nodeF xs t).l.getD 0 0)).s ≠ lbGroup) :
    Calls Tryz.prog 41 #[.pointer (some ⟨sa, 0, none⟩), .int .i64 t] W (RdS W (rdO xs t)) := by
  have HE0 := hid (heap_alloc_new W (.cells #[.int .i64 0, .int .i64 0, .int .i64 0, .int .i64 0, .int .i64 0] 58))
  have HB0 := hid (show Below W.heap.size W (W.alloc (.cells #[.int .i64 0, .int .i64 0, .int .i64 0, .int .i64 0, .int .i64 0] 58)) from (Below.refl _ _).alloc (Nat.le_refl _) _)
  have HA0 := hid (h.ext HB0.out)
  have HN := hid (rnode_any sa xs t _ HA0.out)
  have hE4 : nodeE xs t = 0 := by unfold nodeE; rw [hh]; rfl
  have HP := hid (part_has h.ok hh)
  have HTL := hid (fun i => text_len h.ok i)
  have HLN := hid h.ok.len
  obtain ⟨o, ho'⟩ : ∃ o, o = rdO xs t := ⟨_, rfl⟩
  have HO := hid ho'
  rw [← ho']
  clear ho'
  unfold rdO at HO
  rw [if_pos ⟨hh, ho, hl⟩] at HO
  rw [hE4] at HN
  clear h hE4 hh
  generalize nodeF xs t = x at HN HO HP ho hl h0 hg
  obtain ⟨xo, n, s, l⟩ := x
  try dsimp only at HN HO HP ho hl
  subst ho
  obtain ⟨x0, x1, x2, x3, x4, x5, rfl⟩ : ∃ x0 x1 x2 x3 x4 x5, l = [x0, x1, x2, x3, x4, x5] := by
    match l, hl with
    | [a, b, c, d, e, f], _ => exact ⟨a, b, c, d, e, f, rfl⟩
  clear hl
  have HN := hid (show Calls Tryz.prog 81 #[.pointer (some ⟨sa, 0, none⟩), .int .i64 t] (W.alloc (.cells #[.int .i64 0, .int .i64 0, .int .i64 0, .int .i64 0, .int .i64 0] 58)) fun e w' => ∃ A c, e = .returned (.tuple #[.agg #[.int .i64 3, .int .i64 n, .string s, .slice A 6 c], .int .i64 0]) ∧ SlA w' 1 A 6 c ([x0, x1, x2, x3, x4, x5].map (.int .i64)) ∧ Below (W.alloc (.cells #[.int .i64 0, .int .i64 0, .int .i64 0, .int .i64 0, .int .i64 0] 58)).heap.size (W.alloc (.cells #[.int .i64 0, .int .i64 0, .int .i64 0, .int .i64 0, .int .i64 0] 58)) w' from HN.out)
  have HO := hid (show o = if (nodeF xs x0).o = 2 ∧ (nodeF xs x0).s = lbGroup ∧ (nodeF xs x2).o = 2 then (numO (nodeF xs x2).s).map fun k => [x1, k, x3, x4, x5] else none from HO.out)
  have HH0 := hid (HP.out x0 (by simp)); have HH2 := hid (HP.out x2 (by simp))
  have HS2 := hid (HTL.out x2)
  clear HP HTL
  replace h0 : (nodeF xs x0).o = 2 := h0
  replace hg : (nodeF xs x0).s ≠ lbGroup := hg
  obtain ⟨n0, hn0⟩ : ∃ n0, n0 = nodeF xs x0 := ⟨_, rfl⟩
  obtain ⟨n2, hn2⟩ : ∃ n2, n2 = nodeF xs x2 := ⟨_, rfl⟩
  have HN0 := hid hn0.symm; have HN2 := hid hn2.symm
  rw [HN0.out, HN2.out] at HO
  rw [HN2.out] at HS2
  rw [HN0.out] at h0
  rw [HN0.out] at hg
  clear hn0 hn2
  obtain ⟨q0, p0, n0s, l0⟩ := n0
  obtain ⟨q2, p2, n2s, l2⟩ := n2
  dsimp only at HO HS2 h0 hg
  have e0 : (q0 != 2) = false := by rw [h0]; rfl
  have HQ := hid (show o = none by rw [HO.out, if_neg (fun e => hg e.2.1)])
  have hg2 : ¬ n0s.toList = [103, 114, 111, 117, 112] := fun e => by
    have h1 := ba_ne hg
    have h2 : lbGroup.toList = [103, 114, 111, 117, 112] := by rw [ByteArray.toList_eq]; rfl
    rw [h2, e] at h1
    simp at h1
  have hg3 : (n0s.toList == [103, 114, 111, 117, 112]) = false := beq_eq_false_iff_ne.2 hg2
  clear h0 HO hg
  go_enter Tryz.func41, Tryz.ntmps41
  go_wp2_with fail
  refine HN.out.mono ?_
  rintro e w2 ⟨A, c, rfl, hrow, hb⟩
  obtain ⟨b, o', bA, oA, cA, i0, i2, rfl, hx0, hx2, hl0, hl2, hr3⟩ := rrc_start hrow hb HE0.out HA0.out n s HH0.out HH2.out
  rw [HN0.out, HN2.out] at hr3
  subst hx0; subst hx2
  have HR3 := hid hr3
  clear hrow hb HN HE0 HA0 hr3 HH0 HH2
  have k0 := HR3.out.k0; have sl := HR3.out.sl; have c0 := HR3.out.c0; have c2 := HR3.out.c2; have bx := HR3.out.bx; have p0 := HR3.out.p0; have p2 := HR3.out.p2; have q0 := HR3.out.q0; have q2 := HR3.out.q2
  have hl0' : (i0 : Int) < (xs.length : Int) := by omega
  have hl2' : (i2 : Int) < (xs.length : Int) := by omega
  clear hl0 hl2
  go_wp2_with fail
  generalize w2.alloc (.cells #[.int .i64 3, .int .i64 n, .string s, .slice (some ⟨b, o', none⟩) 6 c] 88) = w3 at *
  generalize w2.heap.size = nb at *
  go_quiet (fail)
  have HR4 := hid (HR3.out.ext (below_drewN (Below.refl _ _) nq))
  clear HR3 k0 sl c0 c2 bx p0 p2 q0 q2
  generalize w3.drewN nq = w4 at *
  have r0 : w4.cell? ⟨W.heap.size, 0, none⟩ = some (.int .i64 0) := by rw [cell_of_row w4 (W.heap.size) 0 _ _ (0, 0) HR4.out.box]; rfl
  have f0 : w4.frozen? ⟨W.heap.size, 0, none⟩ = false := frozen_of_row w4 (W.heap.size) 0 _ _ HR4.out.box
  have r1 : w4.cell? ⟨W.heap.size, 1, none⟩ = some (.int .i64 0) := by rw [cell_of_row w4 (W.heap.size) 1 _ _ (0, 0) HR4.out.box]; rfl
  have f1 : w4.frozen? ⟨W.heap.size, 1, none⟩ = false := frozen_of_row w4 (W.heap.size) 1 _ _ HR4.out.box
  have r2 : w4.cell? ⟨W.heap.size, 2, none⟩ = some (.int .i64 0) := by rw [cell_of_row w4 (W.heap.size) 2 _ _ (0, 0) HR4.out.box]; rfl
  have f2 : w4.frozen? ⟨W.heap.size, 2, none⟩ = false := frozen_of_row w4 (W.heap.size) 2 _ _ HR4.out.box
  have r3 : w4.cell? ⟨W.heap.size, 3, none⟩ = some (.int .i64 0) := by rw [cell_of_row w4 (W.heap.size) 3 _ _ (0, 0) HR4.out.box]; rfl
  have f3 : w4.frozen? ⟨W.heap.size, 3, none⟩ = false := frozen_of_row w4 (W.heap.size) 3 _ _ HR4.out.box
  have r4 : w4.cell? ⟨W.heap.size, 4, none⟩ = some (.int .i64 0) := by rw [cell_of_row w4 (W.heap.size) 4 _ _ (0, 0) HR4.out.box]; rfl
  have f4 : w4.frozen? ⟨W.heap.size, 4, none⟩ = false := frozen_of_row w4 (W.heap.size) 4 _ _ HR4.out.box
  go_wp2_with fail
  refine bodyPost_ret (v := .tuple #[.agg #[.int .i64 0, .int .i64 0, .int .i64 0, .int .i64 0, .int .i64 0], .int .i64 1]) ?_ rfl (show RdS _ _ _ _ from ⟨by rw [HQ.out]; rfl, ?_⟩)
  · rw [results_cell_tmp rfl]
    go_simp
  · iterate 5 refine Below.setCell (B := W.heap.size) ?_ (p := ⟨W.heap.size, _, none⟩) (Nat.le_refl _) _
    exact HR4.out.low
set_option maxHeartbeats 4000000 in
set_option maxRecDepth 100000 in
theorem rread_b2 (sa : Nat) (xs : List ND) (t : Int) (W : World) (h : ArV W 104 sa xs) (hh : hasB xs t = true) (ho : (nodeF xs t).o = 3) (hl : (nodeF xs t).l.length = 6) (h0 : (nodeF xs ((nodeF xs t).l.getD 0 0)).o = 2) (hg : (nodeF xs ((nodeF xs t).l.getD 0 0)).s = lbGroup) (h2 : (nodeF xs ((nodeF xs t).l.getD 2 0)).o ≠ 2) :
    Calls Tryz.prog 41 #[.pointer (some ⟨sa, 0, none⟩), .int .i64 t] W (RdS W (rdO xs t)) := by
  have HE0 := hid (heap_alloc_new W (.cells #[.int .i64 0, .int .i64 0, .int .i64 0, .int .i64 0, .int .i64 0] 58))
  have HB0 := hid (show Below W.heap.size W (W.alloc (.cells #[.int .i64 0, .int .i64 0, .int .i64 0, .int .i64 0, .int .i64 0] 58)) from (Below.refl _ _).alloc (Nat.le_refl _) _)
  have HA0 := hid (h.ext HB0.out)
  have HN := hid (rnode_any sa xs t _ HA0.out)
  have hE4 : nodeE xs t = 0 := by unfold nodeE; rw [hh]; rfl
  have HP := hid (part_has h.ok hh)
  have HTL := hid (fun i => text_len h.ok i)
  have HLN := hid h.ok.len
  obtain ⟨o, ho'⟩ : ∃ o, o = rdO xs t := ⟨_, rfl⟩
  have HO := hid ho'
  rw [← ho']
  clear ho'
  unfold rdO at HO
  rw [if_pos ⟨hh, ho, hl⟩] at HO
  rw [hE4] at HN
  clear h hE4 hh
  generalize nodeF xs t = x at HN HO HP ho hl h0 hg h2
  obtain ⟨xo, n, s, l⟩ := x
  try dsimp only at HN HO HP ho hl
  subst ho
  obtain ⟨x0, x1, x2, x3, x4, x5, rfl⟩ : ∃ x0 x1 x2 x3 x4 x5, l = [x0, x1, x2, x3, x4, x5] := by
    match l, hl with
    | [a, b, c, d, e, f], _ => exact ⟨a, b, c, d, e, f, rfl⟩
  clear hl
  have HN := hid (show Calls Tryz.prog 81 #[.pointer (some ⟨sa, 0, none⟩), .int .i64 t] (W.alloc (.cells #[.int .i64 0, .int .i64 0, .int .i64 0, .int .i64 0, .int .i64 0] 58)) fun e w' => ∃ A c, e = .returned (.tuple #[.agg #[.int .i64 3, .int .i64 n, .string s, .slice A 6 c], .int .i64 0]) ∧ SlA w' 1 A 6 c ([x0, x1, x2, x3, x4, x5].map (.int .i64)) ∧ Below (W.alloc (.cells #[.int .i64 0, .int .i64 0, .int .i64 0, .int .i64 0, .int .i64 0] 58)).heap.size (W.alloc (.cells #[.int .i64 0, .int .i64 0, .int .i64 0, .int .i64 0, .int .i64 0] 58)) w' from HN.out)
  have HO := hid (show o = if (nodeF xs x0).o = 2 ∧ (nodeF xs x0).s = lbGroup ∧ (nodeF xs x2).o = 2 then (numO (nodeF xs x2).s).map fun k => [x1, k, x3, x4, x5] else none from HO.out)
  have HH0 := hid (HP.out x0 (by simp)); have HH2 := hid (HP.out x2 (by simp))
  have HS2 := hid (HTL.out x2)
  clear HP HTL
  replace h0 : (nodeF xs x0).o = 2 := h0
  replace hg : (nodeF xs x0).s = lbGroup := hg
  replace h2 : (nodeF xs x2).o ≠ 2 := h2
  obtain ⟨n0, hn0⟩ : ∃ n0, n0 = nodeF xs x0 := ⟨_, rfl⟩
  obtain ⟨n2, hn2⟩ : ∃ n2, n2 = nodeF xs x2 := ⟨_, rfl⟩
  have HN0 := hid hn0.symm; have HN2 := hid hn2.symm
  rw [HN0.out, HN2.out] at HO
  rw [HN2.out] at HS2
  rw [HN0.out] at h0
  rw [HN0.out] at hg
  rw [HN2.out] at h2
  clear hn0 hn2
  obtain ⟨q0, p0, n0s, l0⟩ := n0
  obtain ⟨q2, p2, n2s, l2⟩ := n2
  dsimp only at HO HS2 h0 hg h2
  have e0 : (q0 != 2) = false := by rw [h0]; rfl
  have e2 : (q2 != 2) = true := bne_iff_ne.2 h2
  have HQ := hid (show o = none by rw [HO.out, if_neg (fun e => h2 e.2.2)])
  have hg2 : n0s.toList = [103, 114, 111, 117, 112] := by rw [hg, ByteArray.toList_eq]; rfl
  clear h0 HO hg h2
  go_enter Tryz.func41, Tryz.ntmps41
  go_wp2_with fail
  refine HN.out.mono ?_
  rintro e w2 ⟨A, c, rfl, hrow, hb⟩
  obtain ⟨b, o', bA, oA, cA, i0, i2, rfl, hx0, hx2, hl0, hl2, hr3⟩ := rrc_start hrow hb HE0.out HA0.out n s HH0.out HH2.out
  rw [HN0.out, HN2.out] at hr3
  subst hx0; subst hx2
  have HR3 := hid hr3
  clear hrow hb HN HE0 HA0 hr3 HH0 HH2
  have k0 := HR3.out.k0; have sl := HR3.out.sl; have c0 := HR3.out.c0; have c2 := HR3.out.c2; have bx := HR3.out.bx; have p0 := HR3.out.p0; have p2 := HR3.out.p2; have q0 := HR3.out.q0; have q2 := HR3.out.q2
  have hl0' : (i0 : Int) < (xs.length : Int) := by omega
  have hl2' : (i2 : Int) < (xs.length : Int) := by omega
  clear hl0 hl2
  go_wp2_with fail
  generalize w2.alloc (.cells #[.int .i64 3, .int .i64 n, .string s, .slice (some ⟨b, o', none⟩) 6 c] 88) = w3 at *
  generalize w2.heap.size = nb at *
  go_quiet (fail)
  have HR4 := hid (HR3.out.ext (below_drewN (Below.refl _ _) nq))
  clear HR3 k0 sl c0 c2 bx p0 p2 q0 q2
  generalize w3.drewN nq = w4 at *
  have r0 : w4.cell? ⟨W.heap.size, 0, none⟩ = some (.int .i64 0) := by rw [cell_of_row w4 (W.heap.size) 0 _ _ (0, 0) HR4.out.box]; rfl
  have f0 : w4.frozen? ⟨W.heap.size, 0, none⟩ = false := frozen_of_row w4 (W.heap.size) 0 _ _ HR4.out.box
  have r1 : w4.cell? ⟨W.heap.size, 1, none⟩ = some (.int .i64 0) := by rw [cell_of_row w4 (W.heap.size) 1 _ _ (0, 0) HR4.out.box]; rfl
  have f1 : w4.frozen? ⟨W.heap.size, 1, none⟩ = false := frozen_of_row w4 (W.heap.size) 1 _ _ HR4.out.box
  have r2 : w4.cell? ⟨W.heap.size, 2, none⟩ = some (.int .i64 0) := by rw [cell_of_row w4 (W.heap.size) 2 _ _ (0, 0) HR4.out.box]; rfl
  have f2 : w4.frozen? ⟨W.heap.size, 2, none⟩ = false := frozen_of_row w4 (W.heap.size) 2 _ _ HR4.out.box
  have r3 : w4.cell? ⟨W.heap.size, 3, none⟩ = some (.int .i64 0) := by rw [cell_of_row w4 (W.heap.size) 3 _ _ (0, 0) HR4.out.box]; rfl
  have f3 : w4.frozen? ⟨W.heap.size, 3, none⟩ = false := frozen_of_row w4 (W.heap.size) 3 _ _ HR4.out.box
  have r4 : w4.cell? ⟨W.heap.size, 4, none⟩ = some (.int .i64 0) := by rw [cell_of_row w4 (W.heap.size) 4 _ _ (0, 0) HR4.out.box]; rfl
  have f4 : w4.frozen? ⟨W.heap.size, 4, none⟩ = false := frozen_of_row w4 (W.heap.size) 4 _ _ HR4.out.box
  go_wp2_with fail
  refine bodyPost_ret (v := .tuple #[.agg #[.int .i64 0, .int .i64 0, .int .i64 0, .int .i64 0, .int .i64 0], .int .i64 1]) ?_ rfl (show RdS _ _ _ _ from ⟨by rw [HQ.out]; rfl, ?_⟩)
  · rw [results_cell_tmp rfl]
    go_simp
  · iterate 5 refine Below.setCell (B := W.heap.size) ?_ (p := ⟨W.heap.size, _, none⟩) (Nat.le_refl _) _
    exact HR4.out.low
end Go.Proofs.YtkgobglmkhkbbaaGreatDoor

/- the document's layer 12: Read, the way through. -/
namespace Go.Proofs.YtkgobglmkhkbbaaGreatDoor
open Go.RowKit Go.KK Go.Shelf Go.Maps
set_option linter.unusedVariables false
set_option linter.unusedSimpArgs false

set_option maxHeartbeats 4000000 in
set_option maxRecDepth 100000 in
theorem rread_ok (sa : Nat) (xs : List ND) (t : Int) (W : World) (h : ArV W 104 sa xs) (hh : hasB xs t = true) (ho : (nodeF xs t).o = 3) (hl : (nodeF xs t).l.length = 6) (h0 : (nodeF xs ((nodeF xs t).l.getD 0 0)).o = 2) (hg : (nodeF xs ((nodeF xs t).l.getD 0 0)).s = lbGroup) (h2 : (nodeF xs ((nodeF xs t).l.getD 2 0)).o = 2) :
    Calls Tryz.prog 41 #[.pointer (some ⟨sa, 0, none⟩), .int .i64 t] W (RdS W (rdO xs t)) := by
  have HE0 := hid (heap_alloc_new W (.cells #[.int .i64 0, .int .i64 0, .int .i64 0, .int .i64 0, .int .i64 0] 58))
  have HB0 := hid (show Below W.heap.size W (W.alloc (.cells #[.int .i64 0, .int .i64 0, .int .i64 0, .int .i64 0, .int .i64 0] 58)) from (Below.refl _ _).alloc (Nat.le_refl _) _)
  have HA0 := hid (h.ext HB0.out)
  have HN := hid (rnode_any sa xs t _ HA0.out)
  have hE4 : nodeE xs t = 0 := by unfold nodeE; rw [hh]; rfl
  have HP := hid (part_has h.ok hh)
  have HTL := hid (fun i => text_len h.ok i)
  have HLN := hid h.ok.len
  obtain ⟨o, ho'⟩ : ∃ o, o = rdO xs t := ⟨_, rfl⟩
  have HO := hid ho'
  rw [← ho']
  clear ho'
  unfold rdO at HO
  rw [if_pos ⟨hh, ho, hl⟩] at HO
  rw [hE4] at HN
  clear h hE4 hh
  generalize nodeF xs t = x at HN HO HP ho hl h0 hg h2
  obtain ⟨xo, n, s, l⟩ := x
  try dsimp only at HN HO HP ho hl
  subst ho
  obtain ⟨x0, x1, x2, x3, x4, x5, rfl⟩ : ∃ x0 x1 x2 x3 x4 x5, l = [x0, x1, x2, x3, x4, x5] := by
    match l, hl with
    | [a, b, c, d, e, f], _ => exact ⟨a, b, c, d, e, f, rfl⟩
  clear hl
  have HN := hid (show Calls Tryz.prog 81 #[.pointer (some ⟨sa, 0, none⟩), .int .i64 t] (W.alloc (.cells #[.int .i64 0, .int .i64 0, .int .i64 0, .int .i64 0, .int .i64 0] 58)) fun e w' => ∃ A c, e = .returned (.tuple #[.agg #[.int .i64 3, .int .i64 n, .string s, .slice A 6 c], .int .i64 0]) ∧ SlA w' 1 A 6 c ([x0, x1, x2, x3, x4, x5].map (.int .i64)) ∧ Below (W.alloc (.cells #[.int .i64 0, .int .i64 0, .int .i64 0, .int .i64 0, .int .i64 0] 58)).heap.size (W.alloc (.cells #[.int .i64 0, .int .i64 0, .int .i64 0, .int .i64 0, .int .i64 0] 58)) w' from HN.out)
  have HO := hid (show o = if (nodeF xs x0).o = 2 ∧ (nodeF xs x0).s = lbGroup ∧ (nodeF xs x2).o = 2 then (numO (nodeF xs x2).s).map fun k => [x1, k, x3, x4, x5] else none from HO.out)
  have HH0 := hid (HP.out x0 (by simp)); have HH2 := hid (HP.out x2 (by simp))
  have HS2 := hid (HTL.out x2)
  clear HP HTL
  replace h0 : (nodeF xs x0).o = 2 := h0
  replace hg : (nodeF xs x0).s = lbGroup := hg
  replace h2 : (nodeF xs x2).o = 2 := h2
  obtain ⟨n0, hn0⟩ : ∃ n0, n0 = nodeF xs x0 := ⟨_, rfl⟩
  obtain ⟨n2, hn2⟩ : ∃ n2, n2 = nodeF xs x2 := ⟨_, rfl⟩
  have HN0 := hid hn0.symm; have HN2 := hid hn2.symm
  rw [HN0.out, HN2.out] at HO
  rw [HN2.out] at HS2
  rw [HN0.out] at h0
  rw [HN0.out] at hg
  rw [HN2.out] at h2
  clear hn0 hn2
  obtain ⟨q0, p0, n0s, l0⟩ := n0
  obtain ⟨q2, p2, n2s, l2⟩ := n2
  dsimp only at HO HS2 h0 hg h2
  have e0 : (q0 != 2) = false := by rw [h0]; rfl
  have e2 : (q2 != 2) = false := by rw [h2]; rfl
  have HQ0 := hid (show o = (numO n2s).map fun k => [x1, k, x3, x4, x5] by rw [HO.out, if_pos ⟨h0, hg, h2⟩])
  have hg2 : n0s.toList = [103, 114, 111, 117, 112] := by rw [hg, ByteArray.toList_eq]; rfl
  clear h0 HO hg h2
  go_enter Tryz.func41, Tryz.ntmps41
  go_wp2_with fail
  refine HN.out.mono ?_
  rintro e w2 ⟨A, c, rfl, hrow, hb⟩
  obtain ⟨b, o', bA, oA, cA, i0, i2, rfl, hx0, hx2, hl0, hl2, hr3⟩ := rrc_start hrow hb HE0.out HA0.out n s HH0.out HH2.out
  rw [HN0.out, HN2.out] at hr3
  subst hx0; subst hx2
  have HR3 := hid hr3
  clear hrow hb HN HE0 HA0 hr3 HH0 HH2
  have k0 := HR3.out.k0; have sl := HR3.out.sl; have c0 := HR3.out.c0; have c2 := HR3.out.c2; have bx := HR3.out.bx; have p0 := HR3.out.p0; have p2 := HR3.out.p2; have q0 := HR3.out.q0; have q2 := HR3.out.q2
  have hl0' : (i0 : Int) < (xs.length : Int) := by omega
  have hl2' : (i2 : Int) < (xs.length : Int) := by omega
  clear hl0 hl2
  go_wp2_with fail
  generalize w2.alloc (.cells #[.int .i64 3, .int .i64 n, .string s, .slice (some ⟨b, o', none⟩) 6 c] 88) = w3 at *
  generalize w2.heap.size = nb at *
  go_quiet (fail)
  have HR4 := hid (HR3.out.ext (below_drewN (Below.refl _ _) nq))
  clear HR3 k0 sl c0 c2 bx p0 p2 q0 q2
  generalize w3.drewN nq = w4 at *
  have sl := HR4.out.sl; have c2 := HR4.out.c2; have bx := HR4.out.bx; have q2' := HR4.out.q2
  go_wp2_with fail
  go_quiet (fail)
  have HR5 := hid (HR4.out.ext (below_drewN (Below.refl _ _) nq))
  clear HR4 sl c2 bx q2'
  generalize w4.drewN nq = w5 at *
  have HSD := hid (show n2s.data.toList.length = n2s.size from Array.length_toList)
  go_wp2_with fail
  go_loopw [10, 9] (fun i k wr => ∃ (j acc : Nat), i = .int .i64 j ∧ j ≤ n2s.size ∧ k = .int .i64 acc ∧ Hid (Lib.decFrom 0 (n2s.data.toList.take j) = some acc ∧ (0 < j → n2s.size ≤ 9)) ∧ wr = w5) (fun i _ _ => n2s.size - (intOf i).toNat)
  case atStart => exact ⟨0, 0, rfl, Nat.zero_le _, rfl, hid ⟨rfl, fun h => by omega⟩, rfl⟩
  case round =>
    obtain ⟨j, acc, hv, hj, hk, HD, hw⟩ := hrel
    subst hv; subst hk; subst hw
    by_cases hlt : j < n2s.size
    · obtain ⟨y, hy⟩ : ∃ y : UInt8, n2s[j]'hlt = y := ⟨_, rfl⟩
      have hyl : n2s.data.toList[j]? = some y := by rw [← hy]; exact Lib.data_getElem? n2s j hlt
      have HYL := hid hyl
      have HLT := hid hlt
      have hlt' : (j : Int) < (n2s.size : Int) := by omega
      clear hyl
      by_cases h48 : y.toNat < 48
      · have h48' : ((y.toNat : Nat) : Int) < 48 := by omega
        have HQ := hid (show o = none by rw [HQ0.out, numO_bad HYL.out (by omega)]; rfl)
        have r0 : wr.cell? ⟨W.heap.size, 0, none⟩ = some (.int .i64 0) := by rw [cell_of_row wr (W.heap.size) 0 _ _ (0, 0) HR5.out.box]; rfl
        have f0 : wr.frozen? ⟨W.heap.size, 0, none⟩ = false := frozen_of_row wr (W.heap.size) 0 _ _ HR5.out.box
        have r1 : wr.cell? ⟨W.heap.size, 1, none⟩ = some (.int .i64 0) := by rw [cell_of_row wr (W.heap.size) 1 _ _ (0, 0) HR5.out.box]; rfl
        have f1 : wr.frozen? ⟨W.heap.size, 1, none⟩ = false := frozen_of_row wr (W.heap.size) 1 _ _ HR5.out.box
        have r2 : wr.cell? ⟨W.heap.size, 2, none⟩ = some (.int .i64 0) := by rw [cell_of_row wr (W.heap.size) 2 _ _ (0, 0) HR5.out.box]; rfl
        have f2 : wr.frozen? ⟨W.heap.size, 2, none⟩ = false := frozen_of_row wr (W.heap.size) 2 _ _ HR5.out.box
        have r3 : wr.cell? ⟨W.heap.size, 3, none⟩ = some (.int .i64 0) := by rw [cell_of_row wr (W.heap.size) 3 _ _ (0, 0) HR5.out.box]; rfl
        have f3 : wr.frozen? ⟨W.heap.size, 3, none⟩ = false := frozen_of_row wr (W.heap.size) 3 _ _ HR5.out.box
        have r4 : wr.cell? ⟨W.heap.size, 4, none⟩ = some (.int .i64 0) := by rw [cell_of_row wr (W.heap.size) 4 _ _ (0, 0) HR5.out.box]; rfl
        have f4 : wr.frozen? ⟨W.heap.size, 4, none⟩ = false := frozen_of_row wr (W.heap.size) 4 _ _ HR5.out.box
        go_wp2_with fail
        refine bodyPost_ret (v := .tuple #[.agg #[.int .i64 0, .int .i64 0, .int .i64 0, .int .i64 0, .int .i64 0], .int .i64 1]) ?_ rfl (show RdS _ _ _ _ from ⟨by rw [HQ.out]; rfl, ?_⟩)
        · rw [results_cell_tmp rfl]
          go_simp
        · iterate 5 refine Below.setCell (B := W.heap.size) ?_ (p := ⟨W.heap.size, _, none⟩) (Nat.le_refl _) _
          exact HR5.out.low
      have h48' : ¬ ((y.toNat : Nat) : Int) < 48 := by omega
      by_cases h57 : 57 < y.toNat
      · have h57' : (57 : Int) < ((y.toNat : Nat) : Int) := by omega
        have HQ := hid (show o = none by rw [HQ0.out, numO_bad HYL.out (by omega)]; rfl)
        have r0 : wr.cell? ⟨W.heap.size, 0, none⟩ = some (.int .i64 0) := by rw [cell_of_row wr (W.heap.size) 0 _ _ (0, 0) HR5.out.box]; rfl
        have f0 : wr.frozen? ⟨W.heap.size, 0, none⟩ = false := frozen_of_row wr (W.heap.size) 0 _ _ HR5.out.box
        have r1 : wr.cell? ⟨W.heap.size, 1, none⟩ = some (.int .i64 0) := by rw [cell_of_row wr (W.heap.size) 1 _ _ (0, 0) HR5.out.box]; rfl
        have f1 : wr.frozen? ⟨W.heap.size, 1, none⟩ = false := frozen_of_row wr (W.heap.size) 1 _ _ HR5.out.box
        have r2 : wr.cell? ⟨W.heap.size, 2, none⟩ = some (.int .i64 0) := by rw [cell_of_row wr (W.heap.size) 2 _ _ (0, 0) HR5.out.box]; rfl
        have f2 : wr.frozen? ⟨W.heap.size, 2, none⟩ = false := frozen_of_row wr (W.heap.size) 2 _ _ HR5.out.box
        have r3 : wr.cell? ⟨W.heap.size, 3, none⟩ = some (.int .i64 0) := by rw [cell_of_row wr (W.heap.size) 3 _ _ (0, 0) HR5.out.box]; rfl
        have f3 : wr.frozen? ⟨W.heap.size, 3, none⟩ = false := frozen_of_row wr (W.heap.size) 3 _ _ HR5.out.box
        have r4 : wr.cell? ⟨W.heap.size, 4, none⟩ = some (.int .i64 0) := by rw [cell_of_row wr (W.heap.size) 4 _ _ (0, 0) HR5.out.box]; rfl
        have f4 : wr.frozen? ⟨W.heap.size, 4, none⟩ = false := frozen_of_row wr (W.heap.size) 4 _ _ HR5.out.box
        go_wp2_with fail
        refine bodyPost_ret (v := .tuple #[.agg #[.int .i64 0, .int .i64 0, .int .i64 0, .int .i64 0, .int .i64 0], .int .i64 1]) ?_ rfl (show RdS _ _ _ _ from ⟨by rw [HQ.out]; rfl, ?_⟩)
        · rw [results_cell_tmp rfl]
          go_simp
        · iterate 5 refine Below.setCell (B := W.heap.size) ?_ (p := ⟨W.heap.size, _, none⟩) (Nat.le_refl _) _
          exact HR5.out.low
      have h57' : ¬ (57 : Int) < ((y.toNat : Nat) : Int) := by omega
      by_cases h9 : 9 < n2s.size
      · have h9' : (9 : Int) < (n2s.size : Int) := by omega
        have HQ := hid (show o = none by rw [HQ0.out, numO_long (by omega)]; rfl)
        have r0 : wr.cell? ⟨W.heap.size, 0, none⟩ = some (.int .i64 0) := by rw [cell_of_row wr (W.heap.size) 0 _ _ (0, 0) HR5.out.box]; rfl
        have f0 : wr.frozen? ⟨W.heap.size, 0, none⟩ = false := frozen_of_row wr (W.heap.size) 0 _ _ HR5.out.box
        have r1 : wr.cell? ⟨W.heap.size, 1, none⟩ = some (.int .i64 0) := by rw [cell_of_row wr (W.heap.size) 1 _ _ (0, 0) HR5.out.box]; rfl
        have f1 : wr.frozen? ⟨W.heap.size, 1, none⟩ = false := frozen_of_row wr (W.heap.size) 1 _ _ HR5.out.box
        have r2 : wr.cell? ⟨W.heap.size, 2, none⟩ = some (.int .i64 0) := by rw [cell_of_row wr (W.heap.size) 2 _ _ (0, 0) HR5.out.box]; rfl
        have f2 : wr.frozen? ⟨W.heap.size, 2, none⟩ = false := frozen_of_row wr (W.heap.size) 2 _ _ HR5.out.box
        have r3 : wr.cell? ⟨W.heap.size, 3, none⟩ = some (.int .i64 0) := by rw [cell_of_row wr (W.heap.size) 3 _ _ (0, 0) HR5.out.box]; rfl
        have f3 : wr.frozen? ⟨W.heap.size, 3, none⟩ = false := frozen_of_row wr (W.heap.size) 3 _ _ HR5.out.box
        have r4 : wr.cell? ⟨W.heap.size, 4, none⟩ = some (.int .i64 0) := by rw [cell_of_row wr (W.heap.size) 4 _ _ (0, 0) HR5.out.box]; rfl
        have f4 : wr.frozen? ⟨W.heap.size, 4, none⟩ = false := frozen_of_row wr (W.heap.size) 4 _ _ HR5.out.box
        go_wp2_with fail
        refine bodyPost_ret (v := .tuple #[.agg #[.int .i64 0, .int .i64 0, .int .i64 0, .int .i64 0, .int .i64 0], .int .i64 1]) ?_ rfl (show RdS _ _ _ _ from ⟨by rw [HQ.out]; rfl, ?_⟩)
        · rw [results_cell_tmp rfl]
          go_simp
        · iterate 5 refine Below.setCell (B := W.heap.size) ?_ (p := ⟨W.heap.size, _, none⟩) (Nat.le_refl _) _
          exact HR5.out.low
      have h9' : ¬ (9 : Int) < (n2s.size : Int) := by omega
      have hacc := decFrom_ten HD.out.1 (by omega)
      obtain ⟨d, hd⟩ : ∃ d : Nat, d = y.toNat - 48 := ⟨_, rfl⟩
      have HST := hid (show Lib.decFrom 0 (n2s.data.toList.take (j + 1)) = some (acc * 10 + d) by rw [hd]; exact decFrom_step HD.out.1 HYL.out (by omega) (by omega))
      go_wp2_with fail
      go_roundw
      case rel => exact ⟨j + 1, acc * 10 + d, by go_num, by have := HLT.out; omega, by congr 1; omega, hid ⟨HST.out, fun _ => by omega⟩, by first | rfl | trivial⟩
      case measure => have := HLT.out; simp [intOf]; omega
    · obtain rfl : j = n2s.size := by omega
      have HDF := hid (show Lib.decFrom 0 n2s.data.toList = some acc by have := HD.out.1; rw [List.take_of_length_le (by rw [HSD.out]; omega)] at this; exact this)
      have hlt' : ¬ (n2s.size : Int) < (n2s.size : Int) := by omega
      have hs9 : n2s.size ≤ 9 := by
        by_cases h0 : 0 < n2s.size
        · exact HD.out.2 h0
        · omega
      have hacc := decFrom_ten (l := n2s.data.toList) (j := 9) (by rw [List.take_of_length_le (by rw [HSD.out]; exact hs9)]; exact HDF.out) (Nat.le_refl _)
      have HNO := hid (numO_eq HDF.out hs9)
      have HDG := hid (digits_any (acc : Int) wr (by omega) (by omega))
      unfold Dig at HDG
      rw [Int.toNat_natCast] at HDG
      obtain ⟨D, hD⟩ : ∃ D, D = digS acc := ⟨_, rfl⟩
      rw [← hD] at HDG HNO
      clear hs9 HDF HD hj
      by_cases hE : D = n2s
      · subst hE
        have HQ := hid (show o = some [x1, (acc : Int), x3, x4, x5] by rw [HQ0.out, HNO.out, if_pos rfl]; rfl)
        clear hD HNO
        go_wp2_with fail
        refine HDG.out.mono ?_
        rintro e w6 ⟨rfl, q6, rfl⟩
        have HR6 := hid (HR5.out.ext (below_drewN (Below.refl _ _) q6))
        generalize wr.drewN q6 = w6 at *
        have r0 : w6.cell? ⟨W.heap.size, 0, none⟩ = some (.int .i64 0) := by rw [cell_of_row w6 (W.heap.size) 0 _ _ (0, 0) HR6.out.box]; rfl
        have f0 : w6.frozen? ⟨W.heap.size, 0, none⟩ = false := frozen_of_row w6 (W.heap.size) 0 _ _ HR6.out.box
        have r1 : w6.cell? ⟨W.heap.size, 1, none⟩ = some (.int .i64 0) := by rw [cell_of_row w6 (W.heap.size) 1 _ _ (0, 0) HR6.out.box]; rfl
        have f1 : w6.frozen? ⟨W.heap.size, 1, none⟩ = false := frozen_of_row w6 (W.heap.size) 1 _ _ HR6.out.box
        have r2 : w6.cell? ⟨W.heap.size, 2, none⟩ = some (.int .i64 0) := by rw [cell_of_row w6 (W.heap.size) 2 _ _ (0, 0) HR6.out.box]; rfl
        have f2 : w6.frozen? ⟨W.heap.size, 2, none⟩ = false := frozen_of_row w6 (W.heap.size) 2 _ _ HR6.out.box
        have r3 : w6.cell? ⟨W.heap.size, 3, none⟩ = some (.int .i64 0) := by rw [cell_of_row w6 (W.heap.size) 3 _ _ (0, 0) HR6.out.box]; rfl
        have f3 : w6.frozen? ⟨W.heap.size, 3, none⟩ = false := frozen_of_row w6 (W.heap.size) 3 _ _ HR6.out.box
        have r4 : w6.cell? ⟨W.heap.size, 4, none⟩ = some (.int .i64 0) := by rw [cell_of_row w6 (W.heap.size) 4 _ _ (0, 0) HR6.out.box]; rfl
        have f4 : w6.frozen? ⟨W.heap.size, 4, none⟩ = false := frozen_of_row w6 (W.heap.size) 4 _ _ HR6.out.box
        have s7 := HR6.out.sl; have c1 := HR6.out.c1; have c3 := HR6.out.c3; have c4 := HR6.out.c4; have c5 := HR6.out.c5
        go_wp2_with fail
        go_region
        go_wp2_with fail
        refine bodyPost_ret (v := .tuple #[.agg #[.int .i64 x1, .int .i64 (acc : Int), .int .i64 x3, .int .i64 x4, .int .i64 x5], .int .i64 0]) ?_ rfl (show RdS _ _ _ _ from ⟨by rw [HQ.out]; rfl, ?_⟩)
        · rw [results_cell_tmp rfl]
          go_simp
        · refine Below.drew ?_
          iterate 5 refine Below.setCell (B := W.heap.size) ?_ (p := ⟨W.heap.size, _, none⟩) (Nat.le_refl _) _
          exact HR6.out.low
      · have HQ := hid (show o = none by rw [HQ0.out, HNO.out, if_neg hE]; rfl)
        have hne : (D.toList == n2s.toList) = false := ba_ne hE
        have hne2 : ¬ D.toList = n2s.toList := fun e => by rw [e] at hne; simp at hne
        clear hD HNO hE
        go_wp2_with fail
        refine HDG.out.mono ?_
        rintro e w6 ⟨rfl, q6, rfl⟩
        have HR6 := hid (HR5.out.ext (below_drewN (Below.refl _ _) q6))
        generalize wr.drewN q6 = w6 at *
        have r0 : w6.cell? ⟨W.heap.size, 0, none⟩ = some (.int .i64 0) := by rw [cell_of_row w6 (W.heap.size) 0 _ _ (0, 0) HR6.out.box]; rfl
        have f0 : w6.frozen? ⟨W.heap.size, 0, none⟩ = false := frozen_of_row w6 (W.heap.size) 0 _ _ HR6.out.box
        have r1 : w6.cell? ⟨W.heap.size, 1, none⟩ = some (.int .i64 0) := by rw [cell_of_row w6 (W.heap.size) 1 _ _ (0, 0) HR6.out.box]; rfl
        have f1 : w6.frozen? ⟨W.heap.size, 1, none⟩ = false := frozen_of_row w6 (W.heap.size) 1 _ _ HR6.out.box
        have r2 : w6.cell? ⟨W.heap.size, 2, none⟩ = some (.int .i64 0) := by rw [cell_of_row w6 (W.heap.size) 2 _ _ (0, 0) HR6.out.box]; rfl
        have f2 : w6.frozen? ⟨W.heap.size, 2, none⟩ = false := frozen_of_row w6 (W.heap.size) 2 _ _ HR6.out.box
        have r3 : w6.cell? ⟨W.heap.size, 3, none⟩ = some (.int .i64 0) := by rw [cell_of_row w6 (W.heap.size) 3 _ _ (0, 0) HR6.out.box]; rfl
        have f3 : w6.frozen? ⟨W.heap.size, 3, none⟩ = false := frozen_of_row w6 (W.heap.size) 3 _ _ HR6.out.box
        have r4 : w6.cell? ⟨W.heap.size, 4, none⟩ = some (.int .i64 0) := by rw [cell_of_row w6 (W.heap.size) 4 _ _ (0, 0) HR6.out.box]; rfl
        have f4 : w6.frozen? ⟨W.heap.size, 4, none⟩ = false := frozen_of_row w6 (W.heap.size) 4 _ _ HR6.out.box
        go_wp2_with fail
        refine bodyPost_ret (v := .tuple #[.agg #[.int .i64 0, .int .i64 0, .int .i64 0, .int .i64 0, .int .i64 0], .int .i64 1]) ?_ rfl (show RdS _ _ _ _ from ⟨by rw [HQ.out]; rfl, ?_⟩)
        · rw [results_cell_tmp rfl]
          go_simp
        · iterate 5 refine Below.setCell (B := W.heap.size) ?_ (p := ⟨W.heap.size, _, none⟩) (Nat.le_refl _) _
          exact HR6.out.low
/-- The document's Read, of any term. -/
theorem rread_any (sa : Nat) (xs : List ND) (t : Int) (W : World) (h : ArV W 104 sa xs) :
    Calls Tryz.prog 41 #[.pointer (some ⟨sa, 0, none⟩), .int .i64 t] W (RdS W (rdO xs t)) := by
  rcases hh : hasB xs t with _ | _
  · exact rread_none sa xs t W h hh
  by_cases ho : (nodeF xs t).o = 3
  rotate_left
  · exact rread_op sa xs t W h hh ho
  by_cases hl : (nodeF xs t).l.length = 6
  rotate_left
  · exact rread_six sa xs t W h hh ho hl
  by_cases h0 : (nodeF xs ((nodeF xs t).l.getD 0 0)).o = 2
  rotate_left
  · exact rread_b1 sa xs t W h hh ho hl h0
  by_cases hg : (nodeF xs ((nodeF xs t).l.getD 0 0)).s = lbGroup
  rotate_left
  · exact rread_b3 sa xs t W h hh ho hl h0 hg
  by_cases h2 : (nodeF xs ((nodeF xs t).l.getD 2 0)).o = 2
  · exact rread_ok sa xs t W h hh ho hl h0 hg h2
  · exact rread_b2 sa xs t W h hh ho hl h0 hg h2
end Go.Proofs.YtkgobglmkhkbbaaGreatDoor

/- the document's arena beside the law's: calls that take a step. -/
namespace Go.Proofs.YtkgobglmkhkbbaaGreatDoor
open Go.RowKit Go.KK Go.Shelf Go.Maps
set_option linter.unusedVariables false
set_option linter.unusedSimpArgs false

/-- The document's arena, and what the call has left alone. -/
structure LQ (w0 W : World) (Z : Nat → Prop) (sb : Nat) (ys : List ND) : Prop where
  ar : AQ W Z sb ys
  z : ∀ b, Z b → w0.heap.size ≤ b
  bl : Below w0.heap.size w0 W
section
variable {w0 W W' : World} {Z Z' Z2 : Nat → Prop} {sa sb : Nat} {xs xs' ys ys' : List ND}
theorem LQ.mv (h : LQ w0 W Z sb ys) (m : Mv Z W Z' W') (ha : AQ W' Z' sb ys') : LQ w0 W' Z' sb ys' :=
  ⟨ha, fun b hb => (m.n b hb).elim (h.z b) fun h' => Nat.le_trans h.bl.size h', h.bl.trans (m.t.below h.z h.bl.size)⟩
theorem LQ.ext (h : LQ w0 W Z sb ys) (hb : Below W.heap.size W W') : LQ w0 W' Z sb ys := h.mv (.below hb) (h.ar.ext hb)
theorem LQ.alloc (h : LQ w0 W Z sb ys) (o : Obj) : LQ w0 (W.alloc o) Z sb ys := h.ext ((Below.refl _ _).alloc (Nat.le_refl _) o)
theorem LQ.sz (h : LQ w0 W Z sb ys) : w0.heap.size ≤ W.heap.size := h.bl.size
/-- Both arenas, side by side: the law's holds these nodes, the document's those. -/
structure Tx (w0 W : World) (sa sb : Nat) (Z Z' : Nat → Prop) (xs ys : List ND) : Prop where
  a : LA w0 W Z sa xs
  b : LQ w0 W Z' sb ys
  d : ∀ b, Z b → ¬ Z' b
theorem Tx.of {xs : List ND} (h : Tw w0 W sa sb Z Z' xs) : Tx w0 W sa sb Z Z' xs xs := ⟨⟨h.a, h.za, h.bl⟩, ⟨h.b, h.zb, h.bl⟩, h.d⟩
/-- The law's arena took a step. -/
theorem Tx.onA (h : Tx w0 W sa sb Z Z' xs ys) (la : LA w0 W' Z2 sa xs') (m : Mv Z W Z2 W') : Tx w0 W' sa sb Z2 Z' xs' ys :=
  ⟨la, ⟨h.b.ar.turn m.t fun b hb k => h.d b k hb, h.b.z, la.bl⟩, fun b hb hb' => by
    rcases m.n b hb with k | k
    · exact h.d b k hb'
    · have := h.b.ar.zlt b hb'; omega⟩
/-- The document's arena took a step. -/
theorem Tx.onB (h : Tx w0 W sa sb Z Z' xs ys) (lq : LQ w0 W' Z2 sb ys') (m : Mv Z' W Z2 W') : Tx w0 W' sa sb Z Z2 xs ys' :=
  ⟨⟨AR.turn h.a.ar m.t fun b hb k => h.d b hb k, h.a.z, lq.bl⟩, lq, fun b hb hb' => by
    rcases m.n b hb' with k | k
    · exact h.d b hb k
    · have := h.a.ar.zlt b hb; omega⟩
theorem Tx.ext (h : Tx w0 W sa sb Z Z' xs ys) (hb : Below W.heap.size W W') : Tx w0 W' sa sb Z Z' xs ys := ⟨h.a.ext hb, h.b.ext hb, h.d⟩
theorem Tx.alloc (h : Tx w0 W sa sb Z Z' xs ys) (o : Obj) : Tx w0 (W.alloc o) sa sb Z Z' xs ys := h.ext ((Below.refl _ _).alloc (Nat.le_refl _) o)
/-- A call of the document's that takes a step. -/
def LrQ (w0 W : World) (Z : Nat → Prop) (sb : Nat) (r : Rs) (e : Ending) (w' : World) : Prop := ∃ Z', e = .returned (.tuple #[.int .i64 r.2.1, .int .i64 r.2.2]) ∧ LQ w0 w' Z' sb r.1 ∧ Mv Z W Z' w'
theorem q_mke (h : LQ w0 W Z sb ys) {x : ND} {A : Option Addr} {c : Nat} (hl : SlA W 1 A x.l.length c (x.l.map (.int .i64))) (hx : NdI x) :
    Calls Tryz.prog 80 #[.pointer (some ⟨sb, 0, none⟩), .agg #[.int .i64 x.o, .int .i64 x.n, .string x.s, .slice A x.l.length c]] W (LrQ w0 W Z sb (mk ys x)) := by
  refine (rmke_any Z sb ys W x A c h.ar hl hx).mono ?_
  rintro e w' ⟨rfl, Z', h1, h2, h3⟩
  exact ⟨Z', rfl, h.mv ⟨h2, h3⟩ h1, ⟨h2, h3⟩⟩
theorem q_of (h : LQ w0 W Z sb ys) {o : Int} {A : Option Addr} {n c : Nat} {l : List Int} (hl : SlA W 1 A n c (l.map (.int .i64))) (ho : I64 o) (hi : ∀ i ∈ l, I64 i) :
    Calls Tryz.prog 74 #[.pointer (some ⟨sb, 0, none⟩), .int .i64 o, .slice A n c] W (LrQ w0 W Z sb (mk ys (ndN o l))) := by
  have e := hl.lenI
  subst e
  have HM := hid (q_mke h (x := ndN o l) hl (ndI_nd ho hi))
  clear h hl
  go_enter Tryz.func74, Tryz.ntmps74
  go_wp2_with fail
  refine HM.out.mono ?_
  rintro e w' ⟨Z', rfl, h1, h2⟩
  have H1 := hid h1; have H2 := hid h2
  clear h1 h2
  go_wp2_with fail
  go_ret2
  exact ⟨Z', rfl, H1.out, H2.out⟩
theorem q_list (h : LQ w0 W Z sb ys) {A : Option Addr} {n c : Nat} {l : List Int} (hl : SlA W 1 A n c (l.map (.int .i64))) (hi : ∀ i ∈ l, I64 i) :
    Calls Tryz.prog 39 #[.pointer (some ⟨sb, 0, none⟩), .slice A n c] W (LrQ w0 W Z sb (mk ys (ndN 3 l))) := by
  have HM := hid (q_of h (o := 3) hl (i64_lit (by decide) (by decide)) hi)
  clear h hl hi
  generalize mk ys (ndN 3 l) = r at *
  unfold LrQ at HM ⊢
  go_enter Tryz.func39, Tryz.ntmps39
  go_wp2_with fail
  refine HM.out.mono ?_
  rintro e w' ⟨Z', rfl, h1, h2⟩
  have H1 := hid h1; have H2 := hid h2
  clear h1 h2
  go_wp2_with fail
  go_ret2
  exact ⟨Z', rfl, H1.out, H2.out⟩
theorem q_text (h : LQ w0 W Z sb ys) (s : ByteArray) :
    Calls Tryz.prog 37 #[.pointer (some ⟨sb, 0, none⟩), .string s] W (LrQ w0 W Z sb (mk ys (txN s))) := by
  have HM := hid (q_mke h (x := txN s) (SlA.nil _ _) (ndI_tx s))
  clear h
  go_enter Tryz.func37, Tryz.ntmps37
  go_wp2_with fail
  refine HM.out.mono ?_
  rintro e w' ⟨Z', rfl, h1, h2⟩
  have H1 := hid h1; have H2 := hid h2
  clear h1 h2
  go_wp2_with fail
  go_ret2
  exact ⟨Z', rfl, H1.out, H2.out⟩
end
end Go.Proofs.YtkgobglmkhkbbaaGreatDoor

