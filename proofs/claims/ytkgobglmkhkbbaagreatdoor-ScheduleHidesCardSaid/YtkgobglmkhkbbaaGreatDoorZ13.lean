import Derived.Test.YtkgobglmkhkbbaaGreatDoorZ10
import Derived.Test.YtkgobglmkhkbbaaGreatDoorZ12
import Derived.Test.YtkgobglmkhkbbaaGreatDoorZ03
import Derived.Test.YtkgobglmkhkbbaaGreatDoorZ07
import Derived.Maps.Own
import Derived.Maps.Views
import Derived.WideKeyPair
import Derived.Deep.LoopGhost
import Derived.StillTailTactics
/- the document's Inner, Next, Export. -/
namespace Go.Proofs.YtkgobglmkhkbbaaGreatDoor
open Go.RowKit Go.KK Go.Shelf Go.Maps
set_option linter.unusedVariables false
set_option linter.unusedSimpArgs false

set_option maxHeartbeats 2000000 in
set_option maxRecDepth 100000 in
theorem rinner_any (ep : List Int) (W : World) (h11 : ep.length = 11) :
    Calls Tryz.prog 70 #[epV ep] W fun e w' => ∃ b, e = .returned (.slice (some ⟨b, 0, none⟩) 10 10) ∧ W.heap.size ≤ b ∧ b < w'.heap.size ∧ SlA w' 1 (some ⟨b, 0, none⟩) 10 10 ((inL ep).map (.int .i64)) ∧ Below W.heap.size W w' := by
  obtain ⟨e0, e1, e2, e3, e4, e5, e6, e7, e8, e9, e10, rfl⟩ := len11 h11
  clear h11
  show Calls Tryz.prog 70 #[.agg #[.int .i64 e0, .int .i64 e1, .int .i64 e2, .int .i64 e3, .int .i64 e4, .int .i64 e5, .int .i64 e6, .int .i64 e7, .int .i64 e8, .int .i64 e9, .int .i64 e10]] W _
  have HS := hid (show SlA ((W.alloc (.cells #[.int .i64 e0, .int .i64 e1, .int .i64 e2, .int .i64 e3, .int .i64 e4, .int .i64 e5, .int .i64 e6, .int .i64 e7, .int .i64 e8, .int .i64 e9, .int .i64 e10] 30)).alloc (.cells #[.int .i64 e0, .int .i64 e1, .int .i64 e2, .int .i64 e3, .int .i64 e4, .int .i64 e5, .int .i64 e6, .int .i64 e7, .int .i64 e8, .int .i64 e10] 3)) 1 (some ⟨W.heap.size + 1, 0, none⟩) 10 10 ((inL [e0, e1, e2, e3, e4, e5, e6, e7, e8, e9, e10]).map (.int .i64)) from by
    have := sla_row (w := W.alloc (.cells #[.int .i64 e0, .int .i64 e1, .int .i64 e2, .int .i64 e3, .int .i64 e4, .int .i64 e5, .int .i64 e6, .int .i64 e7, .int .i64 e8, .int .i64 e9, .int .i64 e10] 30)) (T := 3) #[.int .i64 e0, .int .i64 e1, .int .i64 e2, .int .i64 e3, .int .i64 e4, .int .i64 e5, .int .i64 e6, .int .i64 e7, .int .i64 e8, .int .i64 e10] (by unfold maxLen; simp)
    rw [show (W.alloc (.cells #[.int .i64 e0, .int .i64 e1, .int .i64 e2, .int .i64 e3, .int .i64 e4, .int .i64 e5, .int .i64 e6, .int .i64 e7, .int .i64 e8, .int .i64 e9, .int .i64 e10] 30)).heap.size = W.heap.size + 1 by simp] at this
    exact this)
  have HB := hid (show Below W.heap.size W ((W.alloc (.cells #[.int .i64 e0, .int .i64 e1, .int .i64 e2, .int .i64 e3, .int .i64 e4, .int .i64 e5, .int .i64 e6, .int .i64 e7, .int .i64 e8, .int .i64 e9, .int .i64 e10] 30)).alloc (.cells #[.int .i64 e0, .int .i64 e1, .int .i64 e2, .int .i64 e3, .int .i64 e4, .int .i64 e5, .int .i64 e6, .int .i64 e7, .int .i64 e8, .int .i64 e10] 3)) from ((Below.refl _ _).alloc (Nat.le_refl _) _).alloc (by simp) _)
  go_enter Tryz.func70, Tryz.ntmps70
  go_wp2_with fail
  go_ret
  exact ⟨W.heap.size + 1, by simp, by omega, by simp, HS.out, HB.out⟩
section
variable {w0 W : World} {Z : Nat → Prop} {sa : Nat} {xs : List ND}
set_option maxHeartbeats 4000000 in
set_option maxRecDepth 100000 in
theorem q_nx (h : LQ w0 W Z sa xs) {i c x : Int} (hi : I64 i) (hc : I64 c) (hx : I64 x) {A : Option Addr} {n cc : Nat} {l : List Int} (hl : SlM W Z A n cc l) (hn : n ≤ 100000) (hli : ∀ i ∈ l, I64 i) :
    Calls Tryz.prog 23 #[.pointer (some ⟨sa, 0, none⟩), .int .i64 i, .int .i64 c, .int .i64 x, .slice A n cc] W (EpQ w0 W Z sa (nxF xs i c x l)) := by
  have HW := hid h.bl.size
  have H0 := hid (h.alloc (.cells #[.int .i64 0, .int .i64 0, .int .i64 0, .int .i64 0, .int .i64 0, .int .i64 0, .int .i64 0, .int .i64 0, .int .i64 0, .int .i64 0, .int .i64 0] 30))
  have HM0 := hid (Mv.alloc Z W (.cells #[.int .i64 0, .int .i64 0, .int .i64 0, .int .i64 0, .int .i64 0, .int .i64 0, .int .i64 0, .int .i64 0, .int .i64 0, .int .i64 0, .int .i64 0] 30))
  have HE0 := hid (heap_alloc_new W (.cells #[.int .i64 0, .int .i64 0, .int .i64 0, .int .i64 0, .int .i64 0, .int .i64 0, .int .i64 0, .int .i64 0, .int .i64 0, .int .i64 0, .int .i64 0] 30))
  have HL0 := hid (hl.mv HM0.out)
  have HJ := hid (q_jn H0.out hi hc hx)
  have HZ0 := hid (show ¬ Z W.heap.size from fun hz => by have := h.ar.zlt _ hz; omega)
  clear h hl
  go_enter Tryz.func23, Tryz.ntmps23
  go_wp2_with fail
  refine HJ.out.mono ?_
  rintro e w1 ⟨Z1, rfl, l1, m1⟩
  have L1 := hid l1; have M1 := hid m1
  have HE1 := hid (Mv.cellE HE0.out m1 HZ0.out)
  have HZ1 := hid (show ¬ Z1 W.heap.size from fun hz => (m1.n _ hz).elim HZ0.out fun h => by simp at h; omega)
  have HL1 := hid (HL0.out.mv m1)
  clear l1 m1 HJ HE0 H0 HL0
  by_cases hj : (jnF xs i c x).2.2 = 0
  rotate_left
  · have hne : ((jnF xs i c x).2.2 != 0) = true := bne_iff_ne.2 hj
    have HQ := hid (show nxF xs i c x l = ((jnF xs i c x).1, epZ, (jnF xs i c x).2.2) by unfold nxF; rw [if_neg hj])
    have HZ := HZ1
    have r0 : w1.cell? ⟨W.heap.size, 0, none⟩ = some (.int .i64 0) := by rw [cell_of_row w1 W.heap.size 0 _ _ (0, 0) HE1.out]; rfl
    have f0 : w1.frozen? ⟨W.heap.size, 0, none⟩ = false := frozen_of_row w1 W.heap.size 0 _ _ HE1.out
    have r1 : w1.cell? ⟨W.heap.size, 1, none⟩ = some (.int .i64 0) := by rw [cell_of_row w1 W.heap.size 1 _ _ (0, 0) HE1.out]; rfl
    have f1 : w1.frozen? ⟨W.heap.size, 1, none⟩ = false := frozen_of_row w1 W.heap.size 1 _ _ HE1.out
    have r2 : w1.cell? ⟨W.heap.size, 2, none⟩ = some (.int .i64 0) := by rw [cell_of_row w1 W.heap.size 2 _ _ (0, 0) HE1.out]; rfl
    have f2 : w1.frozen? ⟨W.heap.size, 2, none⟩ = false := frozen_of_row w1 W.heap.size 2 _ _ HE1.out
    have r3 : w1.cell? ⟨W.heap.size, 3, none⟩ = some (.int .i64 0) := by rw [cell_of_row w1 W.heap.size 3 _ _ (0, 0) HE1.out]; rfl
    have f3 : w1.frozen? ⟨W.heap.size, 3, none⟩ = false := frozen_of_row w1 W.heap.size 3 _ _ HE1.out
    have r4 : w1.cell? ⟨W.heap.size, 4, none⟩ = some (.int .i64 0) := by rw [cell_of_row w1 W.heap.size 4 _ _ (0, 0) HE1.out]; rfl
    have f4 : w1.frozen? ⟨W.heap.size, 4, none⟩ = false := frozen_of_row w1 W.heap.size 4 _ _ HE1.out
    have r5 : w1.cell? ⟨W.heap.size, 5, none⟩ = some (.int .i64 0) := by rw [cell_of_row w1 W.heap.size 5 _ _ (0, 0) HE1.out]; rfl
    have f5 : w1.frozen? ⟨W.heap.size, 5, none⟩ = false := frozen_of_row w1 W.heap.size 5 _ _ HE1.out
    have r6 : w1.cell? ⟨W.heap.size, 6, none⟩ = some (.int .i64 0) := by rw [cell_of_row w1 W.heap.size 6 _ _ (0, 0) HE1.out]; rfl
    have f6 : w1.frozen? ⟨W.heap.size, 6, none⟩ = false := frozen_of_row w1 W.heap.size 6 _ _ HE1.out
    have r7 : w1.cell? ⟨W.heap.size, 7, none⟩ = some (.int .i64 0) := by rw [cell_of_row w1 W.heap.size 7 _ _ (0, 0) HE1.out]; rfl
    have f7 : w1.frozen? ⟨W.heap.size, 7, none⟩ = false := frozen_of_row w1 W.heap.size 7 _ _ HE1.out
    have r8 : w1.cell? ⟨W.heap.size, 8, none⟩ = some (.int .i64 0) := by rw [cell_of_row w1 W.heap.size 8 _ _ (0, 0) HE1.out]; rfl
    have f8 : w1.frozen? ⟨W.heap.size, 8, none⟩ = false := frozen_of_row w1 W.heap.size 8 _ _ HE1.out
    have r9 : w1.cell? ⟨W.heap.size, 9, none⟩ = some (.int .i64 0) := by rw [cell_of_row w1 W.heap.size 9 _ _ (0, 0) HE1.out]; rfl
    have f9 : w1.frozen? ⟨W.heap.size, 9, none⟩ = false := frozen_of_row w1 W.heap.size 9 _ _ HE1.out
    have r10 : w1.cell? ⟨W.heap.size, 10, none⟩ = some (.int .i64 0) := by rw [cell_of_row w1 W.heap.size 10 _ _ (0, 0) HE1.out]; rfl
    have f10 : w1.frozen? ⟨W.heap.size, 10, none⟩ = false := frozen_of_row w1 W.heap.size 10 _ _ HE1.out
    clear hj
    generalize jnF xs i c x = r at *
    obtain ⟨Y, jj, er⟩ := r
    go_wp2_with fail
    refine bodyPost_ret (v := .tuple #[.agg #[.int .i64 0, .int .i64 0, .int .i64 0, .int .i64 0, .int .i64 0, .int .i64 0, .int .i64 0, .int .i64 0, .int .i64 0, .int .i64 0, .int .i64 0], .int .i64 er]) ?_ rfl (show EpQ _ _ _ _ _ _ _ from ⟨Z1, by rw [HQ.out]; rfl, ?_⟩)
    · rw [results_cell_tmp rfl]
      go_simp
    · rw [HQ.out]
      iterate 11 refine lq_set ?_ HZ.out (Nat.le_refl _) HW.out
      exact ⟨L1.out, HM0.out.trans M1.out⟩
  · have hji : I64 (jnF xs i c x).2.1 := by
      have a := has_iff.1 ((sb_jn i c x).has xs hj)
      have b := L1.out.ar.ok.len
      try dsimp only at a b
      exact ⟨by omega, by omega⟩
    have HP := hid (q_psk _ L1.out HL1.out hn hli)
    by_cases hp : (pskF (jnF xs i c x).1 l).2.2 = 0
    rotate_left
    · have hne : ((pskF (jnF xs i c x).1 l).2.2 != 0) = true := bne_iff_ne.2 hp
      have HQ := hid (show nxF xs i c x l = ((pskF (jnF xs i c x).1 l).1, epZ, (pskF (jnF xs i c x).1 l).2.2) by unfold nxF; rw [if_pos hj, if_neg hp])
      rw [hj]
      clear hj hp
      generalize pskF (jnF xs i c x).1 l = r at *
      obtain ⟨Y, pp, er⟩ := r
      go_wp2_with fail
      refine HP.out.mono ?_
      rintro e w2 ⟨Z2, rfl, l2, m2⟩
      have HE2 := hid (Mv.cellE HE1.out m2 HZ1.out)
      have HZ := hid (show ¬ Z2 W.heap.size from fun hz => (m2.n _ hz).elim HZ1.out fun h => by have := (Array.getElem?_eq_some_iff.1 HE1.out).1; omega)
      have HX := hid (And.intro l2 ((HM0.out.trans M1.out).trans m2))
      clear l2 m2 HP
      have r0 : w2.cell? ⟨W.heap.size, 0, none⟩ = some (.int .i64 0) := by rw [cell_of_row w2 W.heap.size 0 _ _ (0, 0) HE2.out]; rfl
      have f0 : w2.frozen? ⟨W.heap.size, 0, none⟩ = false := frozen_of_row w2 W.heap.size 0 _ _ HE2.out
      have r1 : w2.cell? ⟨W.heap.size, 1, none⟩ = some (.int .i64 0) := by rw [cell_of_row w2 W.heap.size 1 _ _ (0, 0) HE2.out]; rfl
      have f1 : w2.frozen? ⟨W.heap.size, 1, none⟩ = false := frozen_of_row w2 W.heap.size 1 _ _ HE2.out
      have r2 : w2.cell? ⟨W.heap.size, 2, none⟩ = some (.int .i64 0) := by rw [cell_of_row w2 W.heap.size 2 _ _ (0, 0) HE2.out]; rfl
      have f2 : w2.frozen? ⟨W.heap.size, 2, none⟩ = false := frozen_of_row w2 W.heap.size 2 _ _ HE2.out
      have r3 : w2.cell? ⟨W.heap.size, 3, none⟩ = some (.int .i64 0) := by rw [cell_of_row w2 W.heap.size 3 _ _ (0, 0) HE2.out]; rfl
      have f3 : w2.frozen? ⟨W.heap.size, 3, none⟩ = false := frozen_of_row w2 W.heap.size 3 _ _ HE2.out
      have r4 : w2.cell? ⟨W.heap.size, 4, none⟩ = some (.int .i64 0) := by rw [cell_of_row w2 W.heap.size 4 _ _ (0, 0) HE2.out]; rfl
      have f4 : w2.frozen? ⟨W.heap.size, 4, none⟩ = false := frozen_of_row w2 W.heap.size 4 _ _ HE2.out
      have r5 : w2.cell? ⟨W.heap.size, 5, none⟩ = some (.int .i64 0) := by rw [cell_of_row w2 W.heap.size 5 _ _ (0, 0) HE2.out]; rfl
      have f5 : w2.frozen? ⟨W.heap.size, 5, none⟩ = false := frozen_of_row w2 W.heap.size 5 _ _ HE2.out
      have r6 : w2.cell? ⟨W.heap.size, 6, none⟩ = some (.int .i64 0) := by rw [cell_of_row w2 W.heap.size 6 _ _ (0, 0) HE2.out]; rfl
      have f6 : w2.frozen? ⟨W.heap.size, 6, none⟩ = false := frozen_of_row w2 W.heap.size 6 _ _ HE2.out
      have r7 : w2.cell? ⟨W.heap.size, 7, none⟩ = some (.int .i64 0) := by rw [cell_of_row w2 W.heap.size 7 _ _ (0, 0) HE2.out]; rfl
      have f7 : w2.frozen? ⟨W.heap.size, 7, none⟩ = false := frozen_of_row w2 W.heap.size 7 _ _ HE2.out
      have r8 : w2.cell? ⟨W.heap.size, 8, none⟩ = some (.int .i64 0) := by rw [cell_of_row w2 W.heap.size 8 _ _ (0, 0) HE2.out]; rfl
      have f8 : w2.frozen? ⟨W.heap.size, 8, none⟩ = false := frozen_of_row w2 W.heap.size 8 _ _ HE2.out
      have r9 : w2.cell? ⟨W.heap.size, 9, none⟩ = some (.int .i64 0) := by rw [cell_of_row w2 W.heap.size 9 _ _ (0, 0) HE2.out]; rfl
      have f9 : w2.frozen? ⟨W.heap.size, 9, none⟩ = false := frozen_of_row w2 W.heap.size 9 _ _ HE2.out
      have r10 : w2.cell? ⟨W.heap.size, 10, none⟩ = some (.int .i64 0) := by rw [cell_of_row w2 W.heap.size 10 _ _ (0, 0) HE2.out]; rfl
      have f10 : w2.frozen? ⟨W.heap.size, 10, none⟩ = false := frozen_of_row w2 W.heap.size 10 _ _ HE2.out
      go_wp2_with fail
      refine bodyPost_ret (v := .tuple #[.agg #[.int .i64 0, .int .i64 0, .int .i64 0, .int .i64 0, .int .i64 0, .int .i64 0, .int .i64 0, .int .i64 0, .int .i64 0, .int .i64 0, .int .i64 0], .int .i64 er]) ?_ rfl (show EpQ _ _ _ _ _ _ _ from ⟨Z2, by rw [HQ.out]; rfl, ?_⟩)
      · rw [results_cell_tmp rfl]
        go_simp
      · rw [HQ.out]
        iterate 11 refine lq_set ?_ HZ.out (Nat.le_refl _) HW.out
        exact HX.out
    · have HQ := hid (show nxF xs i c x l = begF (pskF (jnF xs i c x).1 l).1 (jnF xs i c x).2.1 (pskF (jnF xs i c x).1 l).2.1 x by unfold nxF; rw [if_pos hj, if_pos hp])
      have hpi : (∀ U Zq, LQ w0 U Zq sa (pskF (jnF xs i c x).1 l).1 → I64 (pskF (jnF xs i c x).1 l).2.1) := fun U Zq hla => by
        have a := has_iff.1 ((sb_psk l).has (jnF xs i c x).1 hp)
        have b := hla.ar.ok.len
        try dsimp only at a b
        exact ⟨by omega, by omega⟩
      have HPI := hid hpi
      rw [hj]
      unfold LrQ at HP
      rw [hp] at HP
      clear hj hp hpi
      generalize pskF (jnF xs i c x).1 l = r at *
      obtain ⟨Y, pp, er⟩ := r
      generalize (jnF xs i c x).2.1 = jj at *
      obtain ⟨ep, hep⟩ : ∃ ep, ep = begF Y jj pp x := ⟨_, rfl⟩
      have h11 : ep.2.1.length = 11 := by rw [hep]; exact beg_len _ _ _ _
      have HEP := hid hep
      have HQ2 := hid (show nxF xs i c x l = ep by rw [HQ.out, hep])
      clear hep HQ
      obtain ⟨Ye, el, ee⟩ := ep
      obtain ⟨e0, e1, e2, e3, e4, e5, e6, e7, e8, e9, e10, rfl⟩ := len11 h11
      clear h11
      go_wp2_with fail
      refine HP.out.mono ?_
      rintro e w2 ⟨Z2, rfl, l2, m2⟩
      have HE2 := hid (Mv.cellE HE1.out m2 HZ1.out)
      have HZ2 := hid (show ¬ Z2 W.heap.size from fun hz => (m2.n _ hz).elim HZ1.out fun h => by have := (Array.getElem?_eq_some_iff.1 HE1.out).1; omega)
      have HBG := hid (q_beg l2 hji (HPI.out _ _ l2) hx)
      rw [← HEP.out] at HBG
      have M2 := hid ((HM0.out.trans M1.out).trans m2)
      clear l2 m2 HP
      go_wp2_with fail
      refine HBG.out.mono ?_
      rintro e w3 ⟨Z3, rfl, l3, m3⟩
      have HE3 := hid (Mv.cellE HE2.out m3 HZ2.out)
      have HZ := hid (show ¬ Z3 W.heap.size from fun hz => (m3.n _ hz).elim HZ2.out fun h => by have := (Array.getElem?_eq_some_iff.1 HE2.out).1; omega)
      have HX := hid (And.intro l3 (M2.out.trans m3))
      clear l3 m3 HBG
      have r0 : w3.cell? ⟨W.heap.size, 0, none⟩ = some (.int .i64 0) := by rw [cell_of_row w3 W.heap.size 0 _ _ (0, 0) HE3.out]; rfl
      have f0 : w3.frozen? ⟨W.heap.size, 0, none⟩ = false := frozen_of_row w3 W.heap.size 0 _ _ HE3.out
      have r1 : w3.cell? ⟨W.heap.size, 1, none⟩ = some (.int .i64 0) := by rw [cell_of_row w3 W.heap.size 1 _ _ (0, 0) HE3.out]; rfl
      have f1 : w3.frozen? ⟨W.heap.size, 1, none⟩ = false := frozen_of_row w3 W.heap.size 1 _ _ HE3.out
      have r2 : w3.cell? ⟨W.heap.size, 2, none⟩ = some (.int .i64 0) := by rw [cell_of_row w3 W.heap.size 2 _ _ (0, 0) HE3.out]; rfl
      have f2 : w3.frozen? ⟨W.heap.size, 2, none⟩ = false := frozen_of_row w3 W.heap.size 2 _ _ HE3.out
      have r3 : w3.cell? ⟨W.heap.size, 3, none⟩ = some (.int .i64 0) := by rw [cell_of_row w3 W.heap.size 3 _ _ (0, 0) HE3.out]; rfl
      have f3 : w3.frozen? ⟨W.heap.size, 3, none⟩ = false := frozen_of_row w3 W.heap.size 3 _ _ HE3.out
      have r4 : w3.cell? ⟨W.heap.size, 4, none⟩ = some (.int .i64 0) := by rw [cell_of_row w3 W.heap.size 4 _ _ (0, 0) HE3.out]; rfl
      have f4 : w3.frozen? ⟨W.heap.size, 4, none⟩ = false := frozen_of_row w3 W.heap.size 4 _ _ HE3.out
      have r5 : w3.cell? ⟨W.heap.size, 5, none⟩ = some (.int .i64 0) := by rw [cell_of_row w3 W.heap.size 5 _ _ (0, 0) HE3.out]; rfl
      have f5 : w3.frozen? ⟨W.heap.size, 5, none⟩ = false := frozen_of_row w3 W.heap.size 5 _ _ HE3.out
      have r6 : w3.cell? ⟨W.heap.size, 6, none⟩ = some (.int .i64 0) := by rw [cell_of_row w3 W.heap.size 6 _ _ (0, 0) HE3.out]; rfl
      have f6 : w3.frozen? ⟨W.heap.size, 6, none⟩ = false := frozen_of_row w3 W.heap.size 6 _ _ HE3.out
      have r7 : w3.cell? ⟨W.heap.size, 7, none⟩ = some (.int .i64 0) := by rw [cell_of_row w3 W.heap.size 7 _ _ (0, 0) HE3.out]; rfl
      have f7 : w3.frozen? ⟨W.heap.size, 7, none⟩ = false := frozen_of_row w3 W.heap.size 7 _ _ HE3.out
      have r8 : w3.cell? ⟨W.heap.size, 8, none⟩ = some (.int .i64 0) := by rw [cell_of_row w3 W.heap.size 8 _ _ (0, 0) HE3.out]; rfl
      have f8 : w3.frozen? ⟨W.heap.size, 8, none⟩ = false := frozen_of_row w3 W.heap.size 8 _ _ HE3.out
      have r9 : w3.cell? ⟨W.heap.size, 9, none⟩ = some (.int .i64 0) := by rw [cell_of_row w3 W.heap.size 9 _ _ (0, 0) HE3.out]; rfl
      have f9 : w3.frozen? ⟨W.heap.size, 9, none⟩ = false := frozen_of_row w3 W.heap.size 9 _ _ HE3.out
      have r10 : w3.cell? ⟨W.heap.size, 10, none⟩ = some (.int .i64 0) := by rw [cell_of_row w3 W.heap.size 10 _ _ (0, 0) HE3.out]; rfl
      have f10 : w3.frozen? ⟨W.heap.size, 10, none⟩ = false := frozen_of_row w3 W.heap.size 10 _ _ HE3.out
      unfold epV
      go_wp2_with fail
      refine bodyPost_ret (v := .tuple #[.agg #[.int .i64 e0, .int .i64 e1, .int .i64 e2, .int .i64 e3, .int .i64 e4, .int .i64 e5, .int .i64 e6, .int .i64 e7, .int .i64 e8, .int .i64 e9, .int .i64 e10], .int .i64 ee]) ?_ rfl (show EpQ _ _ _ _ _ _ _ from ⟨Z3, by rw [HQ2.out]; rfl, ?_⟩)
      · rw [results_cell_tmp rfl]
        go_simp
      · rw [HQ2.out]
        iterate 11 refine lq_set ?_ HZ.out (Nat.le_refl _) HW.out
        exact HX.out
set_option maxHeartbeats 2000000 in
set_option maxRecDepth 100000 in
theorem q_xp (h : LQ w0 W Z sa xs) {el : List Int} (h11 : el.length = 11) (h5 : I64 (el.getD 5 0)) {x : Int} (hx : I64 x) (lab : ByteArray) :
    Calls Tryz.prog 25 #[.pointer (some ⟨sa, 0, none⟩), epV el, .string lab, .int .i64 x] W (LrQ w0 W Z sa (xpF xs el lab x)) := by
  obtain ⟨e0, e1, e2, e3, e4, e5, e6, e7, e8, e9, e10, rfl⟩ := len11 h11
  clear h11
  have h5' : I64 e5 := h5
  have HA := hid (h.alloc (.cells #[.int .i64 e0, .int .i64 e1, .int .i64 e2, .int .i64 e3, .int .i64 e4, .int .i64 e5, .int .i64 e6, .int .i64 e7, .int .i64 e8, .int .i64 e9, .int .i64 e10] 30))
  have HM := hid (Mv.alloc Z W (.cells #[.int .i64 e0, .int .i64 e1, .int .i64 e2, .int .i64 e3, .int .i64 e4, .int .i64 e5, .int .i64 e6, .int .i64 e7, .int .i64 e8, .int .i64 e9, .int .i64 e10] 30))
  have hxn := h.ar.ok.len
  clear h5
  unfold epV
  rcases hh : hasB xs x with _ | _
  · have HF := hid (show xpF xs [e0, e1, e2, e3, e4, e5, e6, e7, e8, e9, e10] lab x = (xs, 0, 1) by unfold xpF; rw [if_neg (by rw [hh]; decide)])
    rw [HF.out]
    have hn : x < 0 ∨ (0 ≤ x ∧ (xs.length : Int) ≤ x) := by
      rcases Int.lt_or_le x 0 with h1 | h1
      · exact .inl h1
      · refine .inr ⟨h1, ?_⟩
        rcases Int.lt_or_le x (xs.length : Int) with h2 | h2
        · rw [has_iff.2 ⟨h1, h2⟩] at hh; cases hh
        · exact h2
    clear hh h
    rcases hn with hneg | ⟨hpos, hge⟩
    · go_enter Tryz.func25, Tryz.ntmps25
      go_wp2_with fail
      go_ret2
      exact (show LrQ _ _ _ _ _ _ _ from ⟨Z, rfl, HA.out, HM.out⟩)
    · go_enter Tryz.func25, Tryz.ntmps25
      go_wp2_with fail
      refine (rlen5_any sa xs _ HA.out.ar.vw).mono ?_
      rintro e w2 ⟨rfl, hw⟩
      subst hw
      go_wp2_with fail
      go_ret2
      exact (show LrQ _ _ _ _ _ _ _ from ⟨Z, rfl, HA.out, HM.out⟩)
  · have h2 := has_iff.1 hh
    have hlt : x < (xs.length : Int) := h2.2
    have hge0 : ¬ x < 0 := by omega
    have HD := hid (q_dv HA.out h5' lab)
    have HIX := hid (fun U Zq (hla : LQ w0 U Zq sa (dvF xs e5 lab).1) (h0 : (dvF xs e5 lab).2.2 = 0) => (show I64 (dvF xs e5 lab).2.1 from by
      have a := has_iff.1 ((sb_dv e5 lab).has xs h0)
      have b := hla.ar.ok.len
      try dsimp only at a b
      exact ⟨by omega, by omega⟩))
    by_cases he : (dvF xs e5 lab).2.2 = 0
    · have HF := hid (show xpF xs [e0, e1, e2, e3, e4, e5, e6, e7, e8, e9, e10] lab x = exdF (dvF xs e5 lab).1 (dvF xs e5 lab).2.1 lbExported x by
        unfold xpF; rw [if_pos hh]; unfold bdF; rw [if_pos (show (dvF xs ([e0, e1, e2, e3, e4, e5, e6, e7, e8, e9, e10].getD 5 0) lab).2.2 = 0 from he)]; rfl)
      rw [HF.out]
      unfold LrQ at HD
      rw [he] at HD
      have HI0 := hid (fun U Zq hla => HIX.out U Zq hla he)
      clear he hh h HIX
      generalize dvF xs e5 lab = r at *
      obtain ⟨Y, y, er⟩ := r
      obtain ⟨r, hr⟩ : ∃ r : Rs, r = exdF Y y lbExported x := ⟨_, rfl⟩
      rw [← hr]
      have HR := hid hr
      clear hr HF
      go_enter Tryz.func25, Tryz.ntmps25
      go_wp2_with fail
      refine (rlen5_any sa xs _ HA.out.ar.vw).mono ?_
      rintro e w2 ⟨rfl, hw⟩
      subst hw
      go_wp2_with fail
      refine HD.out.mono ?_
      rintro e w3 ⟨Z3, rfl, l3, m3⟩
      have HO := hid (q_exd l3 (HI0.out _ _ l3) hx lbExported)
      rw [← HR.out] at HO
      unfold lbExported at HO
      have M3 := hid (HM.out.trans m3)
      clear l3 m3 HD
      go_wp2_with fail
      refine HO.out.mono ?_
      rintro e w4 ⟨Z4, rfl, l4, m4⟩
      have L4 := hid l4; have M4 := hid (M3.out.trans m4)
      clear l4 m4 HO
      go_wp2_with fail
      go_ret2
      exact (show LrQ _ _ _ _ _ _ _ from ⟨Z4, rfl, L4.out, M4.out⟩)
    · have HF := hid (show xpF xs [e0, e1, e2, e3, e4, e5, e6, e7, e8, e9, e10] lab x = ((dvF xs e5 lab).1, 0, (dvF xs e5 lab).2.2) by
        unfold xpF; rw [if_pos hh]; unfold bdF; rw [if_neg (show ¬ (dvF xs ([e0, e1, e2, e3, e4, e5, e6, e7, e8, e9, e10].getD 5 0) lab).2.2 = 0 from he)]; rfl)
      rw [HF.out]
      unfold LrQ at HD
      have hne : ((dvF xs e5 lab).2.2 != 0) = true := bne_iff_ne.2 he
      clear he hh h HIX
      generalize dvF xs e5 lab = r at *
      obtain ⟨Y, y, er⟩ := r
      go_enter Tryz.func25, Tryz.ntmps25
      go_wp2_with fail
      refine (rlen5_any sa xs _ HA.out.ar.vw).mono ?_
      rintro e w2 ⟨rfl, hw⟩
      subst hw
      go_wp2_with fail
      refine HD.out.mono ?_
      rintro e w3 ⟨Z3, rfl, l3, m3⟩
      have L3 := hid l3; have M3 := hid (HM.out.trans m3)
      clear l3 m3 HD HF
      go_wp2_with fail
      go_ret2
      exact (show LrQ _ _ _ _ _ _ _ from ⟨Z3, rfl, L3.out, M3.out⟩)
end
end Go.Proofs.YtkgobglmkhkbbaaGreatDoor

/- plain: what a term is made of, and how many terms (TermBelow). -/
namespace Go.KK
open Go.RowKit
set_option linter.unusedVariables false
set_option linter.unusedSimpArgs false

theorem nodup_le : ∀ (N : Nat) (M : List Int), M.Nodup → (∀ x ∈ M, 0 ≤ x ∧ x < N) → M.length ≤ N
  | 0, M, _, h => by
    cases M with
    | nil => simp
    | cons x M => have := h x (by simp); omega
  | N + 1, M, hn, h => by
    by_cases hm : (N : Int) ∈ M
    · have := nodup_le N (M.erase (N : Int)) (hn.erase _) fun x hx => by
        have h1 := h x (List.mem_of_mem_erase hx)
        have h2 : x ≠ (N : Int) := ((hn.mem_erase_iff).1 hx).1
        omega
      rw [List.length_erase_of_mem hm] at this
      omega
    · have := nodup_le N M hn fun x hx => by
        have h1 := h x hx
        have h2 : x ≠ (N : Int) := fun e => hm (e ▸ hx)
        omega
      omega
theorem sub_le {α : Type} [DecidableEq α] : ∀ (M M' : List α), M.Nodup → (∀ x ∈ M, x ∈ M') → M.length ≤ M'.length
  | [], _, _, _ => by simp
  | x :: M, M', hn, h => by
    have hx := h x (by simp)
    have h2 := List.nodup_cons.1 hn
    have := sub_le M (M'.erase x) h2.2 fun y hy => (List.mem_erase_of_ne (fun e => h2.1 (by rw [← e]; exact hy))).2 (h y (by simp [hy]))
    rw [List.length_erase_of_mem hx] at this
    have := List.length_pos_of_mem hx
    rw [List.length_cons]; omega
/-- A term is made of another one. -/
inductive Rch (xs : List ND) : Int → Int → Prop
  | self {t : Int} (h : hasB xs t = true) : Rch xs t t
  | step {t x y : Int} (h : Rch xs t x) (hy : y ∈ (nodeF xs x).l) : Rch xs t y
/-- So many terms is a term made of. -/
def SizeIs (xs : List ND) (t : Int) (n : Nat) : Prop := ∃ M : List Int, M.Nodup ∧ (∀ y, y ∈ M ↔ Rch xs t y) ∧ n = M.length
theorem nodeF_get {xs : List ND} {t : Int} (h : hasB xs t = true) : xs[t.toNat]? = some (nodeF xs t) := by
  have h2 := has_iff.1 h
  unfold nodeF
  rw [h, if_pos rfl, List.getD, List.getElem?_eq_getElem (by omega)]
  rfl
theorem part_lt {xs : List ND} (ok : Okay xs) {t x : Int} (h : hasB xs t = true) (hx : x ∈ (nodeF xs t).l) : 0 ≤ x ∧ x < t ∧ hasB xs x = true := by
  have h2 := has_iff.1 h
  have hm := ok.may _ _ (nodeF_get h)
  unfold mayB at hm
  simp only [Bool.and_eq_true, List.all_eq_true] at hm
  have h3 := has_iff.1 (hm.1.2 x hx)
  rw [List.length_take] at h3
  refine ⟨h3.1, by omega, has_iff.2 ⟨h3.1, by omega⟩⟩
theorem Rch.has {xs : List ND} (ok : Okay xs) {t x : Int} (h : Rch xs t x) : hasB xs t = true ∧ hasB xs x = true ∧ 0 ≤ x ∧ x ≤ t := by
  induction h with
  | self h => exact ⟨h, h, (has_iff.1 h).1, Int.le_refl _⟩
  | step h hy ih =>
    obtain ⟨a, b, c⟩ := part_lt ok ih.2.1 hy
    exact ⟨ih.1, c, a, by omega⟩
theorem Rch.trans {xs : List ND} {t x y : Int} (h : Rch xs t x) (k : Rch xs x y) : Rch xs t y := by
  induction k with
  | self _ => exact h
  | step _ hy ih => exact .step ih hy
theorem size_uniq {xs : List ND} {t : Int} {n m : Nat} (h : SizeIs xs t n) (k : SizeIs xs t m) : n = m := by
  obtain ⟨M, a, b, rfl⟩ := h
  obtain ⟨M', a', b', rfl⟩ := k
  exact Nat.le_antisymm (sub_le _ _ a fun x hx => (b' x).2 ((b x).1 hx)) (sub_le _ _ a' fun x hx => (b x).2 ((b' x).1 hx))
theorem size_le {xs : List ND} (ok : Okay xs) {t : Int} {n : Nat} (h : SizeIs xs t n) (ht : hasB xs t = true) : (n : Int) ≤ t + 1 ∧ 1 ≤ n := by
  obtain ⟨M, a, b, rfl⟩ := h
  have h0 := has_iff.1 ht
  refine ⟨?_, List.length_pos_of_mem ((b t).2 (.self ht))⟩
  have := nodup_le (t.toNat + 1) M a fun x hx => by
    have := ((b x).1 hx).has ok
    omega
  omega
theorem size_lt {xs : List ND} (ok : Okay xs) {t x : Int} {n m : Nat} (h : SizeIs xs t n) (k : SizeIs xs x m) (ht : hasB xs t = true) (hx : x ∈ (nodeF xs t).l) : m < n := by
  obtain ⟨M, a, b, rfl⟩ := h
  obtain ⟨M', a', b', rfl⟩ := k
  have hp := part_lt ok ht hx
  have := sub_le (t :: M') M (List.nodup_cons.2 ⟨fun hm => by have := ((b' t).1 hm).has ok; omega, a'⟩) fun y hy => by
    rcases List.mem_cons.1 hy with rfl | hy
    · exact (b _).2 (.self ht)
    · exact (b y).2 ((Rch.step (.self ht) hx).trans ((b' y).1 hy))
  rw [List.length_cons] at this
  omega
theorem nodeF_app {xs : List ND} (m : List ND) {t : Int} (h : hasB xs t = true) : nodeF (xs ++ m) t = nodeF xs t ∧ hasB (xs ++ m) t = true := by
  have h2 := has_iff.1 h
  have h3 : hasB (xs ++ m) t = true := has_iff.2 ⟨h2.1, by rw [List.length_append]; omega⟩
  refine ⟨?_, h3⟩
  have e1 := nodeF_get h
  have e2 := nodeF_get h3
  rw [List.getElem?_append_left (by omega), e1] at e2
  exact (Option.some.inj e2).symm
theorem rch_app {xs : List ND} (ok : Okay xs) (m : List ND) {t : Int} (h : hasB xs t = true) (y : Int) : Rch (xs ++ m) t y ↔ Rch xs t y := by
  constructor
  · intro k
    induction k with
    | self _ => exact .self h
    | step k hy ih =>
      rw [(nodeF_app m (ih.has ok).2.1).1] at hy
      exact .step ih hy
  · intro k
    induction k with
    | self _ => exact .self (nodeF_app m h).2
    | step k hy ih =>
      rw [← (nodeF_app m ((k.has ok).2.1)).1] at hy
      exact .step ih hy
theorem size_app {xs : List ND} (ok : Okay xs) (m : List ND) {t : Int} {n : Nat} (h : hasB xs t = true) : SizeIs (xs ++ m) t n ↔ SizeIs xs t n := by
  unfold SizeIs
  constructor
  · rintro ⟨M, a, b, e⟩
    exact ⟨M, a, fun y => (b y).trans (rch_app ok m h y), e⟩
  · rintro ⟨M, a, b, e⟩
    exact ⟨M, a, fun y => (b y).trans (rch_app ok m h y).symm, e⟩
/-- On the way: M is met, O is open, and of x (if any is being looked at) so many parts have been looked at. -/
structure Pt (xs : List ND) (t : Int) (M O : List Int) (x : Option Int) (k : Nat) : Prop where
  nd : M.Nodup
  tm : t ∈ M
  r : ∀ y ∈ M, Rch xs t y
  o : ∀ y ∈ O, y ∈ M
  c : ∀ z ∈ M, z ∉ O → x ≠ some z → ∀ y ∈ (nodeF xs z).l, y ∈ M
  x : ∀ z, x = some z → z ∈ M ∧ ∀ y ∈ (nodeF xs z).l.take k, y ∈ M
theorem pt_start {xs : List ND} {t : Int} (h : hasB xs t = true) : Pt xs t [t] [t] none 0 :=
  ⟨by simp, by simp, fun y hy => by rw [List.mem_singleton] at hy; subst hy; exact .self h, fun y hy => hy, fun z hz hn => absurd hz hn, fun z e => by cases e⟩
theorem Pt.pop {xs : List ND} {t x : Int} {M O : List Int} {k : Nat} (h : Pt xs t M (O ++ [x]) none k) : Pt xs t M O (some x) 0 := by
  refine ⟨h.nd, h.tm, h.r, fun y hy => h.o y (by simp [hy]), fun z hz hn hx => h.c z hz ?_ (by simp), fun z e => ?_⟩
  · rw [List.mem_append, List.mem_singleton]
    rintro (h1 | h1)
    · exact hn h1
    · exact hx (by rw [h1])
  · injection e with e
    subst e
    exact ⟨h.o _ (by simp), by simp⟩
theorem Pt.old {xs : List ND} {t x y : Int} {M O : List Int} {k : Nat} (h : Pt xs t M O (some x) k) (hy : (nodeF xs x).l[k]? = some y) (hm : y ∈ M) : Pt xs t M O (some x) (k + 1) := by
  refine ⟨h.nd, h.tm, h.r, h.o, h.c, fun z e => ⟨(h.x z e).1, fun u hu => ?_⟩⟩
  injection e with e
  subst e
  rw [take_one hy, List.mem_append, List.mem_singleton] at hu
  rcases hu with hu | rfl
  · exact (h.x _ rfl).2 u hu
  · exact hm
theorem Pt.new {xs : List ND} {t x y : Int} {M O : List Int} {k : Nat} (h : Pt xs t M O (some x) k) (hy : (nodeF xs x).l[k]? = some y) (hm : y ∉ M) : Pt xs t (M ++ [y]) (O ++ [y]) (some x) (k + 1) := by
  refine ⟨?_, by simp [h.tm], fun u hu => ?_, fun u hu => ?_, fun z hz hn hx u hu => ?_, fun z e => ?_⟩
  · rw [List.nodup_append]
    exact ⟨h.nd, by simp, fun a ha b hb e => by rw [List.mem_singleton] at hb; subst hb; subst e; exact hm ha⟩
  · rw [List.mem_append, List.mem_singleton] at hu
    rcases hu with hu | rfl
    · exact h.r u hu
    · exact .step (h.r x (h.x x rfl).1) (List.mem_of_getElem? hy)
  · rw [List.mem_append, List.mem_singleton] at hu ⊢
    exact hu.imp (h.o u) id
  · rw [List.mem_append, List.mem_singleton] at hn
    rw [List.mem_append, List.mem_singleton] at hz
    rcases hz with hz | rfl
    · exact List.mem_append_left _ (h.c z hz (fun h' => hn (.inl h')) hx u hu)
    · exact absurd (.inr rfl) hn
  · refine ⟨List.mem_append_left _ (h.x z e).1, fun u hu => ?_⟩
    injection e with e
    subst e
    rw [take_one hy, List.mem_append, List.mem_singleton] at hu
    rw [List.mem_append, List.mem_singleton]
    rcases hu with hu | rfl
    · exact .inl ((h.x _ rfl).2 u hu)
    · exact .inr rfl
theorem Pt.done {xs : List ND} {t x : Int} {M O : List Int} {k : Nat} (h : Pt xs t M O (some x) k) (hk : (nodeF xs x).l.length ≤ k) : Pt xs t M O none 0 := by
  refine ⟨h.nd, h.tm, h.r, h.o, fun z hz hn _ u hu => ?_, fun z e => by cases e⟩
  by_cases hx : x = z
  · subst hx
    have := (h.x _ rfl).2
    rw [List.take_of_length_le hk] at this
    exact this u hu
  · exact h.c z hz hn (fun e => hx (by injection e)) u hu
theorem Pt.size {xs : List ND} {t : Int} {M : List Int} {k : Nat} (h : Pt xs t M [] none k) : ∀ y, y ∈ M ↔ Rch xs t y := fun y =>
  ⟨h.r y, fun hr => by
    have ht := h.tm
    induction hr with
    | self _ => exact ht
    | step _ hy ih => exact h.c _ ih (by simp) (by simp) _ hy⟩
theorem Pt.len {xs : List ND} (ok : Okay xs) {t : Int} {M O : List Int} {x : Option Int} {k : Nat} (h : Pt xs t M O x k) : M.length ≤ xs.length :=
  nodup_le _ M h.nd fun y hy => by
    have := (h.r y hy).has ok
    have := has_iff.1 this.2.1
    omega
end Go.KK

/- the document's Bisim: terms of two arenas that are the same. -/
namespace Go.KK
open Go.RowKit
set_option linter.unusedVariables false
set_option linter.unusedSimpArgs false

/-- The term x of the arena Y is the term y of the arena X. -/
inductive Bs (Y X : List ND) : Int → Int → Prop
  | mk {x y : Int} {a b : ND} (hx : At Y x a) (hy : At X y b) (ho : a.o = b.o) (hn : a.n = b.n) (hs : a.s = b.s) (hl : a.l.length = b.l.length) (h : ∀ (i : Nat) p q, a.l[i]? = some p → b.l[i]? = some q → Bs Y X p q) : Bs Y X x y
/-- Parts of a node have lesser numbers. -/
theorem At.part {X : List ND} (ok : Okay X) {i : Int} {x : ND} (h : At X i x) : ∀ p ∈ x.l, 0 ≤ p ∧ p < i := fun p hp => by
  have hm := ok.may _ _ h.2
  unfold mayB at hm
  simp only [Bool.and_eq_true, List.all_eq_true] at hm
  have hx := has_iff.1 (hm.1.2 p hp)
  rw [List.length_take] at hx
  have := h.1
  omega
theorem at_of_has {X : List ND} {i : Int} (h : hasB X i = true) : ∃ x, At X i x := by
  have := has_iff.1 h
  exact ⟨_, this.1, List.getElem?_eq_getElem (by omega)⟩
theorem bs_refl {X : List ND} (ok : Okay X) : ∀ (k : Nat) (x : Int), x.toNat < k → hasB X x = true → Bs X X x x := by
  intro k
  induction k with
  | zero => intro x h; omega
  | succ k ih =>
    intro x hk h
    obtain ⟨a, ha⟩ := at_of_has h
    refine .mk ha ha rfl rfl rfl rfl fun i p q hp hq => ?_
    rw [hp] at hq
    injection hq with hq
    subst hq
    have := ha.part ok p (List.mem_of_getElem? hp)
    exact ih p (by omega) (has_iff.2 ⟨this.1, by have := has_iff.1 ha.has; omega⟩)
theorem bs_same {X : List ND} (ok : Okay X) {x : Int} (h : hasB X x = true) : Bs X X x x := bs_refl ok (x.toNat + 1) x (by omega) h
theorem pairs_le {M : List (Int × Int)} (hd : M.Nodup) (h : ∀ p ∈ M, 0 ≤ p.1 ∧ p.1 < 100000 ∧ 0 ≤ p.2 ∧ p.2 < 100000) : M.length ≤ 10000000000 := by
  have h1 : (M.map fun p => p.1 * 100000 + p.2).Nodup := by
    rw [List.nodup_iff_pairwise_ne] at hd ⊢
    rw [List.pairwise_map]
    refine hd.imp_of_mem fun {a b} ha hb hne e => hne ?_
    have := h a ha; have := h b hb
    have e1 : a.1 = b.1 := by omega
    exact Prod.ext e1 (by omega)
  have := nodup_le 10000000000 _ h1 fun x hx => by
    obtain ⟨p, hp, rfl⟩ := List.mem_map.1 hx
    have := h p hp
    omega
  rwa [List.length_map] at this
end Go.KK
namespace Go.Proofs.YtkgobglmkhkbbaaGreatDoor
open Go.RowKit Go.KK Go.Shelf Go.Maps

theorem wfP {y : Int} (h : I64 y) : (Lit.int .i64 y).wf = true := by
  have h2 := wrap64_wf y
  rwa [show RowKit.wrap64 y = y by unfold RowKit.wrap64; unfold I64 at h; omega] at h2
theorem plainP_inv {e : TypeId} (he : Tryz.prog.underlying e = some .bool) {v : Value} {z : MD × List MemPlace} (h : plainElem Tryz.prog e v = some z) : ∃ x, v = .bool x ∧ z = (.lit (.bool x), []) := by
  unfold plainElem at h
  rw [he] at h
  cases v <;> simp at h
  subst h
  exact ⟨_, rfl, rfl⟩
theorem litP_inj {a b : Bool} (h : (DataW.lit (.bool a) : MD) = .lit (.bool b)) : a = b := by
  injection h with h
  injection h
theorem zeroP (w : World) : (zeroValue 4).run Tryz.prog w = .ok (.bool false) w := by kernel_rfl
theorem arr2 : WideMaps.ArrKey Tryz.prog 101 3 2 := ⟨Tryz.underlying101, by kernel_rfl, by kernel_rfl, by kernel_rfl⟩
theorem law2 : Keyed Tryz.prog 101 := Keyed.of_law arr2.law
/-- A pair's key. -/
def kp (a b : Int) : Lit := .string (keyBytes [.int .i64 a, .int .i64 b])
theorem key_pair {a b : Int} (ha : I64 a) (hb : I64 b) : keyOf Tryz.prog 101 (.agg #[.int .i64 a, .int .i64 b]) = some (kp a b) :=
  WideMaps.keyOf_pair arr2 Tryz.underlying3 ⟨Tryz.prog.types.size - 1, by kernel_rfl⟩ (wfP ha) (wfP hb)
theorem kp_inj {a b a' b' : Int} (ha : I64 a) (hb : I64 b) (ha' : I64 a') (hb' : I64 b') (h : kp a b = kp a' b') : a = a' ∧ b = b' := by
  have := law2.inj (key_pair ha hb) (h ▸ key_pair ha' hb')
  simp at this
  exact this
/-- A map of pairs that were found to be the same. -/
def MtP (W : World) (mb : Nat) (M : List (Int × Int)) : Prop := ∃ (D : MD) (n : Nat), W.ownsMap Tryz.prog 101 (plainElem Tryz.prog 4) mb n D ∧ n ≤ M.length ∧ Tidy D ∧
  (∀ a b, I64 a → I64 b → D.atKey (kp a b) (.lit (.bool false)) = .lit (.bool (decide ((a, b) ∈ M)))) ∧ M.Nodup ∧ ∀ p ∈ M, 0 ≤ p.1 ∧ p.1 < 100000 ∧ 0 ≤ p.2 ∧ p.2 < 100000
theorem MtP.new (w : World) : MtP (w.alloc (.map #[] 0)) w.heap.size [] :=
  ⟨_, 0, World.ownsMap_made (H := Unit) w Tryz.prog 101 (plainElem Tryz.prog 4), Nat.le_refl _, tidy_empty, fun a b _ _ => rfl, List.nodup_nil, fun p h => by simp at h⟩
section
variable {w w' : World} {mb : Nat} {M : List (Int × Int)}
theorem MtP.look (h : MtP w mb M) {a b : Int} (ha : I64 a) (hb : I64 b) : (Instr.lookup 49 (.map (some mb)) (.agg #[.int .i64 a, .int .i64 b]) false).run Tryz.prog w = .ok (.bool (decide ((a, b) ∈ M))) w := by
  obtain ⟨D, n, h1, -, -, h4, -⟩ := h
  obtain ⟨v, ps, hrun, hv⟩ := h1.lookup law2 Tryz.underlying49 (zeroP w) (plainElem_bool Tryz.underlying4 false) (key_pair ha hb)
  obtain ⟨x, rfl, e⟩ := plainP_inv Tryz.underlying4 hv
  have e1 := (Prod.mk.inj e).1
  rw [h4 a b ha hb] at e1
  have e2 : decide ((a, b) ∈ M) = x := litP_inj e1
  rw [hrun, e2]
theorem MtP.block (h : MtP w mb M) (hb : w'.heap[mb]? = w.heap[mb]?) : MtP w' mb M := by
  obtain ⟨D, n, h1, r⟩ := h
  exact ⟨D, n, map_block h1 hb, r⟩
theorem MtP.lt (h : MtP w mb M) : mb < w.heap.size := by
  obtain ⟨D, n, ⟨es, clock, h1, _⟩, -⟩ := h
  exact (Array.getElem?_eq_some_iff.1 h1).1
/-- Where a cell is, the map is not. -/
theorem MtP.ne (h : MtP w mb M) {b o : Nat} {u : Value} (hc : w.cell? ⟨b, o, none⟩ = some u) : b ≠ mb := by
  rintro rfl
  obtain ⟨D, n, ⟨es, clock, h1, _⟩, -⟩ := h
  unfold World.cell? at hc
  simp only [h1] at hc
  simp at hc
theorem MtP.keep (h : MtP w mb M) (ht : Turn (fun b => b = mb) w w') {b o : Nat} {u : Value} (hc : w.cell? ⟨b, o, none⟩ = some u) : w'.cell? ⟨b, o, none⟩ = some u := by
  rw [World.cell?_of_block (a := ⟨b, o, none⟩) (show w'.heap[b]? = w.heap[b]? from ht.block b (block_lt_of_cell hc) (h.ne hc))]
  exact hc
theorem MtP.put (h : MtP w mb M) {a b : Int} (ha : 0 ≤ a ∧ a < 100000) (hb : 0 ≤ b ∧ b < 100000) (hn : (a, b) ∉ M) {D : MD} {n : Nat} (hD : w.ownsMap Tryz.prog 101 (plainElem Tryz.prog 4) mb n D) (hnl : n ≤ M.length) (ht : Tidy D)
    (hat : ∀ a b, I64 a → I64 b → D.atKey (kp a b) (.lit (.bool false)) = .lit (.bool (decide ((a, b) ∈ M)))) (hw : w'.ownsMap Tryz.prog 101 (plainElem Tryz.prog 4) mb (n + 1) (D.put (kp a b) (.lit (.bool true)))) : MtP w' mb (M ++ [(a, b)]) := by
  obtain ⟨-, -, -, -, -, -, nd, rg⟩ := h
  refine ⟨_, _, hw, by simp; omega, ht.put (by trivial) _, fun p q hp hq => ?_, ?_, fun p hp => ?_⟩
  · by_cases e : p = a ∧ q = b
    · obtain ⟨rfl, rfl⟩ := e
      rw [Maps.atKey_put_same ht.isMap (by trivial)]; simp
    · have hne : kp p q ≠ kp a b := fun k => e (kp_inj hp hq ⟨by omega, by omega⟩ ⟨by omega, by omega⟩ k)
      rw [Maps.atKey_put_other hne, hat p q hp hq]
      have : (p, q) ≠ (a, b) := fun k => e (by injection k with k1 k2; exact ⟨k1, k2⟩)
      simp [this]
  · rw [List.nodup_append]
    exact ⟨nd, by simp, fun p hp q hq e => by rw [List.mem_singleton] at hq; subst hq; subst e; exact hn hp⟩
  · rcases List.mem_append.1 hp with hp | hp
    · exact rg p hp
    · rw [List.mem_singleton] at hp
      subst hp
      exact ⟨ha.1, ha.2, hb.1, hb.2⟩
end
theorem ArV.keep {w w' : World} {T : TypeId} {st : Nat} {xs : List ND} (h : ArV w T st xs) (hb : w'.heap[st]? = w.heap[st]?) (hk : ∀ b o u, w.cell? ⟨b, o, none⟩ = some u → w'.cell? ⟨b, o, none⟩ = some u) : ArV w' T st xs := by
  obtain ⟨⟨A, c, m, h1, h2⟩, h3⟩ := h
  exact ⟨⟨A, c, m, hb.trans h1, h2.keep hk⟩, h3⟩
theorem rlenO_any (st : Nat) (xs : List ND) (w : World) (h : ArV w 104 st xs) :
    Calls Tryz.prog 40 #[.pointer (some ⟨st, 0, none⟩)] w fun e w' => e = .returned (.int .i64 xs.length) ∧ w' = w := by
  obtain ⟨A, c, m, h0, h1, hn⟩ := h.parts
  clear hn h
  go_enter Tryz.func40, Tryz.ntmps40
  go_wp2
  go_ret
  exact ⟨rfl, rfl⟩
/-- What Bisim leaves of terms that are the same. -/
def BiS (w : World) (mb : Nat) (M : List (Int × Int)) (x : Int) (e : Ending) (w' : World) : Prop := e = .returned (.bool true) ∧ (∃ M', MtP w' mb M' ∧ ∀ p ∈ M', p ∈ M ∨ p.1 ≤ x) ∧ Turn (fun b => b = mb) w w'
set_option maxHeartbeats 8000000 in
set_option maxRecDepth 100000 in
theorem bisim_ind (sb : Nat) (Y X : List ND) (A : Option Addr) (n c mb : Nat) (hn : n ≤ 100000) (okY : Okay Y) : ∀ (k : Nat) (x y : Int) (w : World) (M : List (Int × Int)), x.toNat < k → Bs Y X x y → ArV w 104 sb Y → NdA w A n c X → MtP w mb M →
    Calls Tryz.prog 26 #[.pointer (some ⟨sb, 0, none⟩), .slice A n c, .int .i64 x, .int .i64 y, .map (some mb)] w (BiS w mb M x) := by
  intro k
  induction k with
  | zero => intro x y w M h; omega
  | succ k ih =>
    intro x y w M hk hbs hY hX hM
    cases hbs with
    | @mk _ _ a b hx hy ho hnn hs hl hp =>
    have lx := (List.getElem?_eq_some_iff.1 hx.2).1
    have ly := (List.getElem?_eq_some_iff.1 hy.2).1
    have hXl := hX.len
    have hYl := okY.len
    obtain ⟨i, rfl⟩ := Int.eq_ofNat_of_zero_le hx.1
    obtain ⟨j, rfl⟩ := Int.eq_ofNat_of_zero_le hy.1
    rw [Int.toNat_natCast] at lx ly
    have hxI : I64 (i : Int) := ⟨by omega, by omega⟩
    have hyI : I64 (j : Int) := ⟨by omega, by omega⟩
    have hlk := hM.look hxI hyI
    by_cases hm : ((i : Int), (j : Int)) ∈ M
    · rw [decide_eq_true hm] at hlk
      have HM := hid hM
      clear hM hX hY ih hp
      go_enter Tryz.func26, Tryz.ntmps26
      go_wp2_with fail
      go_ret
      exact (show BiS _ _ _ _ _ _ from ⟨rfl, ⟨M, HM.out, fun p hp => .inl hp⟩, Turn.refl _ _⟩)
    · rw [decide_eq_false hm] at hlk
      have HMM := hid hm; have HM := hid hM; have HIH := hid ih; have HP := hid hp; have HYY := hid hY
      have HPT := hid (hx.part okY)
      obtain ⟨AY, cY, mY, y0, -, hN⟩ := hY.parts
      obtain ⟨b1, o1, a', A1, c1, rfl, ha', ka0, ka1, ka2, ka3, hla⟩ := hN.at lx
      obtain ⟨b2, o2, b', A2, c2, rfl, hb', kb0, kb1, kb2, kb3, hlb⟩ := hX.at (show j < n by omega)
      have hxa := hx.2; have hyb := hy.2
      rw [Int.toNat_natCast] at hxa hyb
      obtain rfl : a' = a := by rw [hxa] at ha'; injection ha' with e; exact e.symm
      obtain rfl : b' = b := by rw [hyb] at hb'; injection hb' with e; exact e.symm
      obtain ⟨ao, an, az, la⟩ := a'
      obtain ⟨bo, bn, bs, lb⟩ := b'
      dsimp only at ho hnn hs hl ka0 ka1 ka2 ka3 kb0 kb1 kb2 kb3 hla hlb
      subst ho; subst hnn; subst hs
      have HLA := hid hla; have HLB := hid hlb; have HXX := hid hX
      have HLN := hid hl
      obtain ⟨N, hN'⟩ : ∃ N, N = la.length := ⟨_, rfl⟩
      rw [← hl, ← hN'] at kb3 HLB
      rw [← hN'] at ka3 HLA
      have HNN := hid hN'
      have HLIM := hid (show N ≤ 64 by
        rw [hN']
        have := okY.may _ _ hxa
        unfold mayB shB at this
        simp only [Bool.and_eq_true, decide_eq_true_eq] at this
        exact this.1.1.1.1.1.1.2)
      have q1 : ¬ (i : Int) < 0 := by omega
      have q2 : ¬ ((Y.length : Nat) : Int) ≤ (i : Int) := by omega
      have q3 : ¬ (j : Int) < 0 := by omega
      have q4 : ¬ (n : Int) ≤ (j : Int) := by omega
      have q3d : decide ((j : Int) < 0) = false := decide_eq_false q3
      have q2d : decide (Y.length ≤ i) = false := decide_eq_false (by omega)
      have q4d : decide (n ≤ j) = false := decide_eq_false (by omega)
      have q1d : decide ((i : Int) < 0) = false := decide_eq_false q1
      have q5 : (i : Int) < (Y.length : Int) := by omega
      have q6 : (j : Int) < (n : Int) := by omega
      have up : ∀ {b o : Nat} {u : Value}, w.cell? ⟨b, o, none⟩ = some u → (w.alloc (.cells #[.int .i64 ao, .int .i64 an, .string az, .slice A1 N c1] 88)).cell? ⟨b, o, none⟩ = some u := fun hc => (((Below.refl w.heap.size w).alloc (Nat.le_refl _) _).cell (p := ⟨_, _, none⟩) (block_lt_of_cell hc)).trans hc
      have eb0 := up kb0; have eb1 := up kb1; have eb2 := up kb2; have eb3 := up kb3
      clear ih hp hm hM hN ha' hb' hxa hyb hX hY hx hy hla hlb hl hN' up
      go_enter Tryz.func26, Tryz.ntmps26
      go_wp2_with fail
      refine (rlenO_any sb Y w HYY.out).mono ?_
      rintro e wL ⟨rfl, hw0⟩
      have hw := hw0.symm
      clear hw0
      subst hw
      go_wp2_with fail
      have HB2 := hid (show Below w.heap.size w ((w.alloc (.cells #[.int .i64 ao, .int .i64 an, .string az, .slice A1 N c1] 88)).alloc (.cells #[.int .i64 ao, .int .i64 an, .string az, .slice A2 N c2] 88)) from ((Below.refl _ _).alloc (Nat.le_refl _) _).alloc (by simp) _)
      have HNB := hid (show ((w.alloc (.cells #[.int .i64 ao, .int .i64 an, .string az, .slice A1 N c1] 88)).alloc (.cells #[.int .i64 ao, .int .i64 an, .string az, .slice A2 N c2] 88)).heap[w.heap.size + 1]? = some (.cells #[.int .i64 ao, .int .i64 an, .string az, .slice A2 N c2] 88 (0, 0)) by
        have := heap_alloc_new (w.alloc (.cells #[.int .i64 ao, .int .i64 an, .string az, .slice A1 N c1] 88)) (.cells #[.int .i64 ao, .int .i64 an, .string az, .slice A2 N c2] 88)
        rwa [show (w.alloc (.cells #[.int .i64 ao, .int .i64 an, .string az, .slice A1 N c1] 88)).heap.size = w.heap.size + 1 by simp] at this)
      have HNA := hid (show ((w.alloc (.cells #[.int .i64 ao, .int .i64 an, .string az, .slice A1 N c1] 88)).alloc (.cells #[.int .i64 ao, .int .i64 an, .string az, .slice A2 N c2] 88)).heap[w.heap.size]? = some (.cells #[.int .i64 ao, .int .i64 an, .string az, .slice A1 N c1] 88 (0, 0)) from
        (((Below.refl (w.alloc (.cells #[.int .i64 ao, .int .i64 an, .string az, .slice A1 N c1] 88)).heap.size (w.alloc (.cells #[.int .i64 ao, .int .i64 an, .string az, .slice A1 N c1] 88))).alloc (Nat.le_refl _) (.cells #[.int .i64 ao, .int .i64 an, .string az, .slice A2 N c2] 88)).block _ (by simp)).trans (heap_alloc_new w _))
      have HSB := hid HM.out.lt
      generalize (w.alloc (.cells #[.int .i64 ao, .int .i64 an, .string az, .slice A1 N c1] 88)).alloc (.cells #[.int .i64 ao, .int .i64 an, .string az, .slice A2 N c2] 88) = w2 at *
      have HM2 := hid (HM.out.block (HB2.out.block mb HSB.out))
      clear y0 ka0 ka1 ka2 ka3 kb0 kb1 kb2 kb3 eb0 eb1 eb2 eb3
      go_loopw [79] (fun v wr => ∃ (j2 : Nat) (M' : List (Int × Int)), v = .int .i64 j2 ∧ j2 ≤ N ∧ Hid (MtP wr mb M' ∧ (∀ p ∈ M', p ∈ M ∨ p.1 < (i : Int)) ∧ Turn (fun b => b = mb) w2 wr)) (fun v _ => N - (intOf v).toNat)
      case atStart => exact ⟨0, M, rfl, Nat.zero_le _, hid ⟨HM2.out, fun p h => .inl h, Turn.refl _ _⟩⟩
      case round =>
        obtain ⟨j2, M', hv, hj2, HQ⟩ := hrel
        subst hv
        have HU := hid (fun (b o : Nat) (u : Value) (hc : w.cell? ⟨b, o, none⟩ = some u) => HM2.out.keep HQ.out.2.2 ((HB2.out.cell (p := ⟨b, o, none⟩) (block_lt_of_cell hc)).trans hc))
        have HSBK := hid (show wr.heap[sb]? = w.heap[sb]? from (HQ.out.2.2.block sb (Nat.lt_of_lt_of_le HYY.out.lt HB2.out.size) (by obtain ⟨_, _, _, y0, -⟩ := HYY.out.parts; exact HM.out.ne y0)).trans (HB2.out.block sb HYY.out.lt))
        by_cases hlt : j2 < N
        · have hlt' : (j2 : Int) < (N : Int) := by omega
          have HLT := hid hlt
          have hN64 : N ≤ 64 := HLIM.out
          obtain ⟨b5, o5, p, rfl, hp, hc5⟩ := HLA.out.elemI hlt
          obtain ⟨b6, o6, q, rfl, hq, hc6⟩ := HLB.out.elemI hlt
          have d5 := HU.out _ _ _ hc5; have d6 := HU.out _ _ _ hc6
          have na3 : wr.cell? ⟨w.heap.size, 3, none⟩ = some (.slice (some ⟨b5, o5, none⟩) N c1) := HM2.out.keep HQ.out.2.2 (by rw [cell_of_row w2 w.heap.size 3 _ _ (0, 0) HNA.out]; rfl)
          have nb3 : wr.cell? ⟨w.heap.size + 1, 3, none⟩ = some (.slice (some ⟨b6, o6, none⟩) N c2) := HM2.out.keep HQ.out.2.2 (by rw [cell_of_row w2 (w.heap.size + 1) 3 _ _ (0, 0) HNB.out]; rfl)
          have hpl := HPT.out p (List.mem_of_getElem? hp)
          have HCA := hid (HIH.out p q wr.drew M' (by omega) (HP.out j2 p q hp hq) (HYY.out.keep HSBK.out fun b o u hc => HU.out b o u hc) (HXX.out.keep fun b o u hc => HU.out b o u hc) (HQ.out.1.block rfl))
          clear hp hq hc5 hc6 hlt
          go_wp2_with fail
          go_still_tail 13, (by kernel_rfl)
          go_wp2_with fail
          refine HCA.out.mono ?_
          rintro e w4 ⟨rfl, ⟨M2, m2, hm2⟩, t2⟩
          have HQ2 := hid (show MtP w4 mb M2 ∧ (∀ p ∈ M2, p ∈ M ∨ p.1 < (i : Int)) ∧ Turn (fun b => b = mb) w2 w4 from ⟨m2, fun r hr => (hm2 r hr).elim (HQ.out.2.1 r) fun h => .inr (by omega), HQ.out.2.2.trans ((show Turn (fun b => b = mb) wr wr.drew from ⟨rfl, rfl, rfl, Nat.le_refl _, fun _ _ _ => rfl⟩).trans t2 fun _ h => .inl h) fun _ h => .inl h⟩)
          clear m2 hm2 t2 HCA
          go_wp2_with fail
          go_roundw
          case rel => exact ⟨j2 + 1, M2, by go_num, by have := HLT.out; omega, HQ2⟩
          case measure => have := HLT.out; simp [intOf]; omega
        · obtain rfl : j2 = N := by omega
          have hlt' : ¬ (j2 : Int) < (j2 : Int) := by omega
          have hk0 := key_pair hxI hyI
          have HNM := hid (show ((i : Int), (j : Int)) ∉ M' from fun h => (HQ.out.2.1 _ h).elim HMM.out fun h => by simp at h)
          obtain ⟨D, nD, hD, hnl, htd, hat, hnd, hrg⟩ := HQ.out.1
          have hML := pairs_le hnd hrg
          have HDD := hid hD; have HNL := hid hnl; have HTD := hid htd; have HAT := hid hat
          have na3 : wr.cell? ⟨w.heap.size, 3, none⟩ = some (.slice A1 j2 c1) := HM2.out.keep HQ.out.2.2 (by rw [cell_of_row w2 w.heap.size 3 _ _ (0, 0) HNA.out]; rfl)
          clear hnd hrg hat htd hD hnl hlt
          go_wp2_with (first
            | (at_mapUpdate; refine wpList_mapUpdate_own _ rfl _ _ _ 49 rfl 101 4 law2 Tryz.underlying49 _ mb nD D rfl HDD.out (by have := HNL.out; unfold maxLen; omega) _ _ (kp (i : Int) (j : Int)) rfl rfl hk0 (.lit (.bool true)) [] (plainElem_bool Tryz.underlying4 true) ?_; intro w5 ho5 hg5; have HO5 := hid ho5; have HG5 := hid hg5; clear ho5 hg5)
            | fail)
          go_ret
          exact (show BiS _ _ _ _ _ _ from ⟨rfl, ⟨M' ++ [((i : Int), (j : Int))], HQ.out.1.put ⟨by omega, by omega⟩ ⟨by omega, by omega⟩ HNM.out HDD.out HNL.out HTD.out HAT.out HO5.out, fun p hp => by
            rcases List.mem_append.1 hp with hp | hp
            · exact (HQ.out.2.1 p hp).imp id fun h => by omega
            · rw [List.mem_singleton] at hp; subst hp; exact .inr (Int.le_refl _)⟩, (Turn.of_below HB2.out).trans (HQ.out.2.2.trans (.grown (F := fun b => b = mb) HG5.out fun b e => .inl (by injection e with e; exact e.symm)) fun _ h => .inl h) fun _ h => .inl h⟩)
/-- Bisim, of terms that are the same. -/
theorem bisim_any {sb n c mb : Nat} {Y X : List ND} {A : Option Addr} {x y : Int} {w : World} {M : List (Int × Int)} (hn : n ≤ 100000) (okY : Okay Y) (hb : Bs Y X x y) (hY : ArV w 104 sb Y) (hX : NdA w A n c X) (hM : MtP w mb M) :
    Calls Tryz.prog 26 #[.pointer (some ⟨sb, 0, none⟩), .slice A n c, .int .i64 x, .int .i64 y, .map (some mb)] w (BiS w mb M x) :=
  bisim_ind sb Y X A n c mb hn okY (x.toNat + 1) x y w M (by omega) hb hY hX hM
end Go.Proofs.YtkgobglmkhkbbaaGreatDoor

