/- schedule: Inner, Next. -/
import Derived.Test.YtkgobglmkhkbbaaGreatDoorUD
namespace Go.Proofs.YtkgobglmkhkbbaaGreatDoor
open Go.RowKit Go.KK Go.Shelf Go.Maps
set_option linter.unusedVariables false
set_option linter.unusedSimpArgs false

theorem beg_len (xs : List ND) (j p x : Int) : (begF xs j p x).2.1.length = 11 := by
  unfold begF
  split <;> rfl
theorem nx_elen (xs : List ND) (i c x : Int) (l : List Int) : (nxF xs i c x l).2.1.length = 11 := by
  unfold nxF
  split
  · split
    · exact beg_len _ _ _ _
    · rfl
  · rfl
set_option maxHeartbeats 2000000 in
set_option maxRecDepth 100000 in
theorem inner_any (ep : List Int) (W : World) (h11 : ep.length = 11) :
    Calls Tryz.prog 21 #[epV ep] W fun e w' => ∃ b, e = .returned (.slice (some ⟨b, 0, none⟩) 10 10) ∧ W.heap.size ≤ b ∧ b < w'.heap.size ∧ SlA w' 1 (some ⟨b, 0, none⟩) 10 10 ((inL ep).map (.int .i64)) ∧ Below W.heap.size W w' := by
  obtain ⟨e0, e1, e2, e3, e4, e5, e6, e7, e8, e9, e10, rfl⟩ := len11 h11
  clear h11
  show Calls Tryz.prog 21 #[.agg #[.int .i64 e0, .int .i64 e1, .int .i64 e2, .int .i64 e3, .int .i64 e4, .int .i64 e5, .int .i64 e6, .int .i64 e7, .int .i64 e8, .int .i64 e9, .int .i64 e10]] W _
  have HS := hid (show SlA ((W.alloc (.cells #[.int .i64 e0, .int .i64 e1, .int .i64 e2, .int .i64 e3, .int .i64 e4, .int .i64 e5, .int .i64 e6, .int .i64 e7, .int .i64 e8, .int .i64 e9, .int .i64 e10] 30)).alloc (.cells #[.int .i64 e0, .int .i64 e1, .int .i64 e2, .int .i64 e3, .int .i64 e4, .int .i64 e5, .int .i64 e6, .int .i64 e7, .int .i64 e8, .int .i64 e10] 3)) 1 (some ⟨W.heap.size + 1, 0, none⟩) 10 10 ((inL [e0, e1, e2, e3, e4, e5, e6, e7, e8, e9, e10]).map (.int .i64)) from by
    have := sla_row (w := W.alloc (.cells #[.int .i64 e0, .int .i64 e1, .int .i64 e2, .int .i64 e3, .int .i64 e4, .int .i64 e5, .int .i64 e6, .int .i64 e7, .int .i64 e8, .int .i64 e9, .int .i64 e10] 30)) (T := 3) #[.int .i64 e0, .int .i64 e1, .int .i64 e2, .int .i64 e3, .int .i64 e4, .int .i64 e5, .int .i64 e6, .int .i64 e7, .int .i64 e8, .int .i64 e10] (by unfold maxLen; simp)
    rw [show (W.alloc (.cells #[.int .i64 e0, .int .i64 e1, .int .i64 e2, .int .i64 e3, .int .i64 e4, .int .i64 e5, .int .i64 e6, .int .i64 e7, .int .i64 e8, .int .i64 e9, .int .i64 e10] 30)).heap.size = W.heap.size + 1 by simp] at this
    exact this)
  have HB := hid (show Below W.heap.size W ((W.alloc (.cells #[.int .i64 e0, .int .i64 e1, .int .i64 e2, .int .i64 e3, .int .i64 e4, .int .i64 e5, .int .i64 e6, .int .i64 e7, .int .i64 e8, .int .i64 e9, .int .i64 e10] 30)).alloc (.cells #[.int .i64 e0, .int .i64 e1, .int .i64 e2, .int .i64 e3, .int .i64 e4, .int .i64 e5, .int .i64 e6, .int .i64 e7, .int .i64 e8, .int .i64 e10] 3)) from ((Below.refl _ _).alloc (Nat.le_refl _) _).alloc (by simp) _)
  go_enter Tryz.func21, Tryz.ntmps21
  go_wp2_with fail
  go_ret
  exact ⟨W.heap.size + 1, by simp, by omega, by simp, HS.out, HB.out⟩
section
variable {w0 W : World} {Z : Nat → Prop} {sa : Nat} {xs : List ND}
theorem Mv.cellE {Z Z1 : Nat → Prop} {V W1 : World} {b : Nat} {cs : Array Value} {T : TypeId} (hb : V.heap[b]? = some (.cells cs T (0, 0))) (m : Mv Z V Z1 W1) (hz : ¬ Z b) : W1.heap[b]? = some (.cells cs T (0, 0)) :=
  (m.t.block b (Array.getElem?_eq_some_iff.1 hb).1 hz).trans hb
set_option maxHeartbeats 4000000 in
set_option maxRecDepth 100000 in
theorem nx_any (h : LA w0 W Z sa xs) (hT : Tb w0.heap.size w0) {i c x : Int} (hi : I64 i) (hc : I64 c) (hx : I64 x) {A : Option Addr} {n cc : Nat} {l : List Int} (hl : SlM W Z A n cc l) (hn : n ≤ 100000) (hli : ∀ i ∈ l, I64 i) :
    Calls Tryz.prog 17 #[.pointer (some ⟨sa, 0, none⟩), .int .i64 i, .int .i64 c, .int .i64 x, .slice A n cc] W (EpS w0 W Z sa (nxF xs i c x l)) := by
  have HT := hid hT
  have HW := hid h.bl.size
  have H0 := hid (h.alloc (.cells #[.int .i64 0, .int .i64 0, .int .i64 0, .int .i64 0, .int .i64 0, .int .i64 0, .int .i64 0, .int .i64 0, .int .i64 0, .int .i64 0, .int .i64 0] 30))
  have HM0 := hid (Mv.alloc Z W (.cells #[.int .i64 0, .int .i64 0, .int .i64 0, .int .i64 0, .int .i64 0, .int .i64 0, .int .i64 0, .int .i64 0, .int .i64 0, .int .i64 0, .int .i64 0] 30))
  have HE0 := hid (heap_alloc_new W (.cells #[.int .i64 0, .int .i64 0, .int .i64 0, .int .i64 0, .int .i64 0, .int .i64 0, .int .i64 0, .int .i64 0, .int .i64 0, .int .i64 0, .int .i64 0] 30))
  have HL0 := hid (hl.mv HM0.out)
  have HJ := hid (l_jn H0.out hT hi hc hx)
  have HZ0 := hid (show ¬ Z W.heap.size from fun hz => by have := h.ar.zlt _ hz; omega)
  clear h hT hl
  go_enter Tryz.func17, Tryz.ntmps17
  go_wp2_with fail
  refine HJ.out.mono ?_
  rintro e w1 ⟨Z1, rfl, l1, m1⟩
  have L1 := hid l1; have M1 := hid m1
  have HE1 := hid (Mv.cellE HE0.out m1 HZ0.out)
  have HZ1 := hid (show ¬ Z1 W.heap.size from fun hz => (m1.n _ hz).elim HZ0.out fun h => by simp at h; omega)
  have HL1 := hid (HL0.out.mv m1)
  clear l1 m1 HJ HE0 H0 HL0
  by_cases hj : (jnF xs i c x).2.2 = 0
  rotate_left
  · have hne : ((jnF xs i c x).2.2 != 0) = true := bne_iff_ne.2 hj
    have HQ := hid (show nxF xs i c x l = ((jnF xs i c x).1, epZ, (jnF xs i c x).2.2) by unfold nxF; rw [if_neg hj])
    have HZ := HZ1
    have r0 : w1.cell? ⟨W.heap.size, 0, none⟩ = some (.int .i64 0) := by rw [cell_of_row w1 W.heap.size 0 _ _ (0, 0) HE1.out]; rfl
    have f0 : w1.frozen? ⟨W.heap.size, 0, none⟩ = false := frozen_of_row w1 W.heap.size 0 _ _ HE1.out
    have r1 : w1.cell? ⟨W.heap.size, 1, none⟩ = some (.int .i64 0) := by rw [cell_of_row w1 W.heap.size 1 _ _ (0, 0) HE1.out]; rfl
    have f1 : w1.frozen? ⟨W.heap.size, 1, none⟩ = false := frozen_of_row w1 W.heap.size 1 _ _ HE1.out
    have r2 : w1.cell? ⟨W.heap.size, 2, none⟩ = some (.int .i64 0) := by rw [cell_of_row w1 W.heap.size 2 _ _ (0, 0) HE1.out]; rfl
    have f2 : w1.frozen? ⟨W.heap.size, 2, none⟩ = false := frozen_of_row w1 W.heap.size 2 _ _ HE1.out
    have r3 : w1.cell? ⟨W.heap.size, 3, none⟩ = some (.int .i64 0) := by rw [cell_of_row w1 W.heap.size 3 _ _ (0, 0) HE1.out]; rfl
    have f3 : w1.frozen? ⟨W.heap.size, 3, none⟩ = false := frozen_of_row w1 W.heap.size 3 _ _ HE1.out
    have r4 : w1.cell? ⟨W.heap.size, 4, none⟩ = some (.int .i64 0) := by rw [cell_of_row w1 W.heap.size 4 _ _ (0, 0) HE1.out]; rfl
    have f4 : w1.frozen? ⟨W.heap.size, 4, none⟩ = false := frozen_of_row w1 W.heap.size 4 _ _ HE1.out
    have r5 : w1.cell? ⟨W.heap.size, 5, none⟩ = some (.int .i64 0) := by rw [cell_of_row w1 W.heap.size 5 _ _ (0, 0) HE1.out]; rfl
    have f5 : w1.frozen? ⟨W.heap.size, 5, none⟩ = false := frozen_of_row w1 W.heap.size 5 _ _ HE1.out
    have r6 : w1.cell? ⟨W.heap.size, 6, none⟩ = some (.int .i64 0) := by rw [cell_of_row w1 W.heap.size 6 _ _ (0, 0) HE1.out]; rfl
    have f6 : w1.frozen? ⟨W.heap.size, 6, none⟩ = false := frozen_of_row w1 W.heap.size 6 _ _ HE1.out
    have r7 : w1.cell? ⟨W.heap.size, 7, none⟩ = some (.int .i64 0) := by rw [cell_of_row w1 W.heap.size 7 _ _ (0, 0) HE1.out]; rfl
    have f7 : w1.frozen? ⟨W.heap.size, 7, none⟩ = false := frozen_of_row w1 W.heap.size 7 _ _ HE1.out
    have r8 : w1.cell? ⟨W.heap.size, 8, none⟩ = some (.int .i64 0) := by rw [cell_of_row w1 W.heap.size 8 _ _ (0, 0) HE1.out]; rfl
    have f8 : w1.frozen? ⟨W.heap.size, 8, none⟩ = false := frozen_of_row w1 W.heap.size 8 _ _ HE1.out
    have r9 : w1.cell? ⟨W.heap.size, 9, none⟩ = some (.int .i64 0) := by rw [cell_of_row w1 W.heap.size 9 _ _ (0, 0) HE1.out]; rfl
    have f9 : w1.frozen? ⟨W.heap.size, 9, none⟩ = false := frozen_of_row w1 W.heap.size 9 _ _ HE1.out
    have r10 : w1.cell? ⟨W.heap.size, 10, none⟩ = some (.int .i64 0) := by rw [cell_of_row w1 W.heap.size 10 _ _ (0, 0) HE1.out]; rfl
    have f10 : w1.frozen? ⟨W.heap.size, 10, none⟩ = false := frozen_of_row w1 W.heap.size 10 _ _ HE1.out
    clear hj
    generalize jnF xs i c x = r at *
    obtain ⟨Y, jj, er⟩ := r
    go_wp2_with fail
    refine bodyPost_ret (v := .tuple #[.agg #[.int .i64 0, .int .i64 0, .int .i64 0, .int .i64 0, .int .i64 0, .int .i64 0, .int .i64 0, .int .i64 0, .int .i64 0, .int .i64 0, .int .i64 0], .int .i64 er]) ?_ rfl (show EpS _ _ _ _ _ _ _ from ⟨Z1, by rw [HQ.out]; rfl, ?_⟩)
    · rw [results_cell_tmp rfl]
      go_simp
    · rw [HQ.out]
      iterate 11 refine lm_set ?_ HZ.out (Nat.le_refl _) HW.out
      exact ⟨L1.out, HM0.out.trans M1.out⟩
  · have hji : I64 (jnF xs i c x).2.1 := by
      have a := has_iff.1 ((sb_jn i c x).has xs hj)
      have b := L1.out.ar.ok.len
      try dsimp only at a b
      exact ⟨by omega, by omega⟩
    have HP := hid (l_psk L1.out HT.out HL1.out hn hli)
    by_cases hp : (pskF (jnF xs i c x).1 l).2.2 = 0
    rotate_left
    · have hne : ((pskF (jnF xs i c x).1 l).2.2 != 0) = true := bne_iff_ne.2 hp
      have HQ := hid (show nxF xs i c x l = ((pskF (jnF xs i c x).1 l).1, epZ, (pskF (jnF xs i c x).1 l).2.2) by unfold nxF; rw [if_pos hj, if_neg hp])
      rw [hj]
      clear hj hp
      generalize pskF (jnF xs i c x).1 l = r at *
      obtain ⟨Y, pp, er⟩ := r
      go_wp2_with fail
      refine HP.out.mono ?_
      rintro e w2 ⟨Z2, rfl, l2, m2⟩
      have HE2 := hid (Mv.cellE HE1.out m2 HZ1.out)
      have HZ := hid (show ¬ Z2 W.heap.size from fun hz => (m2.n _ hz).elim HZ1.out fun h => by have := (Array.getElem?_eq_some_iff.1 HE1.out).1; omega)
      have HX := hid (And.intro l2 ((HM0.out.trans M1.out).trans m2))
      clear l2 m2 HP
      have r0 : w2.cell? ⟨W.heap.size, 0, none⟩ = some (.int .i64 0) := by rw [cell_of_row w2 W.heap.size 0 _ _ (0, 0) HE2.out]; rfl
      have f0 : w2.frozen? ⟨W.heap.size, 0, none⟩ = false := frozen_of_row w2 W.heap.size 0 _ _ HE2.out
      have r1 : w2.cell? ⟨W.heap.size, 1, none⟩ = some (.int .i64 0) := by rw [cell_of_row w2 W.heap.size 1 _ _ (0, 0) HE2.out]; rfl
      have f1 : w2.frozen? ⟨W.heap.size, 1, none⟩ = false := frozen_of_row w2 W.heap.size 1 _ _ HE2.out
      have r2 : w2.cell? ⟨W.heap.size, 2, none⟩ = some (.int .i64 0) := by rw [cell_of_row w2 W.heap.size 2 _ _ (0, 0) HE2.out]; rfl
      have f2 : w2.frozen? ⟨W.heap.size, 2, none⟩ = false := frozen_of_row w2 W.heap.size 2 _ _ HE2.out
      have r3 : w2.cell? ⟨W.heap.size, 3, none⟩ = some (.int .i64 0) := by rw [cell_of_row w2 W.heap.size 3 _ _ (0, 0) HE2.out]; rfl
      have f3 : w2.frozen? ⟨W.heap.size, 3, none⟩ = false := frozen_of_row w2 W.heap.size 3 _ _ HE2.out
      have r4 : w2.cell? ⟨W.heap.size, 4, none⟩ = some (.int .i64 0) := by rw [cell_of_row w2 W.heap.size 4 _ _ (0, 0) HE2.out]; rfl
      have f4 : w2.frozen? ⟨W.heap.size, 4, none⟩ = false := frozen_of_row w2 W.heap.size 4 _ _ HE2.out
      have r5 : w2.cell? ⟨W.heap.size, 5, none⟩ = some (.int .i64 0) := by rw [cell_of_row w2 W.heap.size 5 _ _ (0, 0) HE2.out]; rfl
      have f5 : w2.frozen? ⟨W.heap.size, 5, none⟩ = false := frozen_of_row w2 W.heap.size 5 _ _ HE2.out
      have r6 : w2.cell? ⟨W.heap.size, 6, none⟩ = some (.int .i64 0) := by rw [cell_of_row w2 W.heap.size 6 _ _ (0, 0) HE2.out]; rfl
      have f6 : w2.frozen? ⟨W.heap.size, 6, none⟩ = false := frozen_of_row w2 W.heap.size 6 _ _ HE2.out
      have r7 : w2.cell? ⟨W.heap.size, 7, none⟩ = some (.int .i64 0) := by rw [cell_of_row w2 W.heap.size 7 _ _ (0, 0) HE2.out]; rfl
      have f7 : w2.frozen? ⟨W.heap.size, 7, none⟩ = false := frozen_of_row w2 W.heap.size 7 _ _ HE2.out
      have r8 : w2.cell? ⟨W.heap.size, 8, none⟩ = some (.int .i64 0) := by rw [cell_of_row w2 W.heap.size 8 _ _ (0, 0) HE2.out]; rfl
      have f8 : w2.frozen? ⟨W.heap.size, 8, none⟩ = false := frozen_of_row w2 W.heap.size 8 _ _ HE2.out
      have r9 : w2.cell? ⟨W.heap.size, 9, none⟩ = some (.int .i64 0) := by rw [cell_of_row w2 W.heap.size 9 _ _ (0, 0) HE2.out]; rfl
      have f9 : w2.frozen? ⟨W.heap.size, 9, none⟩ = false := frozen_of_row w2 W.heap.size 9 _ _ HE2.out
      have r10 : w2.cell? ⟨W.heap.size, 10, none⟩ = some (.int .i64 0) := by rw [cell_of_row w2 W.heap.size 10 _ _ (0, 0) HE2.out]; rfl
      have f10 : w2.frozen? ⟨W.heap.size, 10, none⟩ = false := frozen_of_row w2 W.heap.size 10 _ _ HE2.out
      go_wp2_with fail
      refine bodyPost_ret (v := .tuple #[.agg #[.int .i64 0, .int .i64 0, .int .i64 0, .int .i64 0, .int .i64 0, .int .i64 0, .int .i64 0, .int .i64 0, .int .i64 0, .int .i64 0, .int .i64 0], .int .i64 er]) ?_ rfl (show EpS _ _ _ _ _ _ _ from ⟨Z2, by rw [HQ.out]; rfl, ?_⟩)
      · rw [results_cell_tmp rfl]
        go_simp
      · rw [HQ.out]
        iterate 11 refine lm_set ?_ HZ.out (Nat.le_refl _) HW.out
        exact HX.out
    · have HQ := hid (show nxF xs i c x l = begF (pskF (jnF xs i c x).1 l).1 (jnF xs i c x).2.1 (pskF (jnF xs i c x).1 l).2.1 x by unfold nxF; rw [if_pos hj, if_pos hp])
      have hpi : (∀ U Zq, LA w0 U Zq sa (pskF (jnF xs i c x).1 l).1 → I64 (pskF (jnF xs i c x).1 l).2.1) := fun U Zq hla => by
        have a := has_iff.1 ((sb_psk l).has (jnF xs i c x).1 hp)
        have b := hla.ar.ok.len
        try dsimp only at a b
        exact ⟨by omega, by omega⟩
      have HPI := hid hpi
      rw [hj]
      unfold LrS at HP
      rw [hp] at HP
      clear hj hp hpi
      generalize pskF (jnF xs i c x).1 l = r at *
      obtain ⟨Y, pp, er⟩ := r
      generalize (jnF xs i c x).2.1 = jj at *
      obtain ⟨ep, hep⟩ : ∃ ep, ep = begF Y jj pp x := ⟨_, rfl⟩
      have h11 : ep.2.1.length = 11 := by rw [hep]; exact beg_len _ _ _ _
      have HEP := hid hep
      have HQ2 := hid (show nxF xs i c x l = ep by rw [HQ.out, hep])
      clear hep HQ
      obtain ⟨Ye, el, ee⟩ := ep
      obtain ⟨e0, e1, e2, e3, e4, e5, e6, e7, e8, e9, e10, rfl⟩ := len11 h11
      clear h11
      go_wp2_with fail
      refine HP.out.mono ?_
      rintro e w2 ⟨Z2, rfl, l2, m2⟩
      have HE2 := hid (Mv.cellE HE1.out m2 HZ1.out)
      have HZ2 := hid (show ¬ Z2 W.heap.size from fun hz => (m2.n _ hz).elim HZ1.out fun h => by have := (Array.getElem?_eq_some_iff.1 HE1.out).1; omega)
      have HBG := hid (beg_any l2 HT.out hji (HPI.out _ _ l2) hx)
      rw [← HEP.out] at HBG
      have M2 := hid ((HM0.out.trans M1.out).trans m2)
      clear l2 m2 HP
      go_wp2_with fail
      refine HBG.out.mono ?_
      rintro e w3 ⟨Z3, rfl, l3, m3⟩
      have HE3 := hid (Mv.cellE HE2.out m3 HZ2.out)
      have HZ := hid (show ¬ Z3 W.heap.size from fun hz => (m3.n _ hz).elim HZ2.out fun h => by have := (Array.getElem?_eq_some_iff.1 HE2.out).1; omega)
      have HX := hid (And.intro l3 (M2.out.trans m3))
      clear l3 m3 HBG
      have r0 : w3.cell? ⟨W.heap.size, 0, none⟩ = some (.int .i64 0) := by rw [cell_of_row w3 W.heap.size 0 _ _ (0, 0) HE3.out]; rfl
      have f0 : w3.frozen? ⟨W.heap.size, 0, none⟩ = false := frozen_of_row w3 W.heap.size 0 _ _ HE3.out
      have r1 : w3.cell? ⟨W.heap.size, 1, none⟩ = some (.int .i64 0) := by rw [cell_of_row w3 W.heap.size 1 _ _ (0, 0) HE3.out]; rfl
      have f1 : w3.frozen? ⟨W.heap.size, 1, none⟩ = false := frozen_of_row w3 W.heap.size 1 _ _ HE3.out
      have r2 : w3.cell? ⟨W.heap.size, 2, none⟩ = some (.int .i64 0) := by rw [cell_of_row w3 W.heap.size 2 _ _ (0, 0) HE3.out]; rfl
      have f2 : w3.frozen? ⟨W.heap.size, 2, none⟩ = false := frozen_of_row w3 W.heap.size 2 _ _ HE3.out
      have r3 : w3.cell? ⟨W.heap.size, 3, none⟩ = some (.int .i64 0) := by rw [cell_of_row w3 W.heap.size 3 _ _ (0, 0) HE3.out]; rfl
      have f3 : w3.frozen? ⟨W.heap.size, 3, none⟩ = false := frozen_of_row w3 W.heap.size 3 _ _ HE3.out
      have r4 : w3.cell? ⟨W.heap.size, 4, none⟩ = some (.int .i64 0) := by rw [cell_of_row w3 W.heap.size 4 _ _ (0, 0) HE3.out]; rfl
      have f4 : w3.frozen? ⟨W.heap.size, 4, none⟩ = false := frozen_of_row w3 W.heap.size 4 _ _ HE3.out
      have r5 : w3.cell? ⟨W.heap.size, 5, none⟩ = some (.int .i64 0) := by rw [cell_of_row w3 W.heap.size 5 _ _ (0, 0) HE3.out]; rfl
      have f5 : w3.frozen? ⟨W.heap.size, 5, none⟩ = false := frozen_of_row w3 W.heap.size 5 _ _ HE3.out
      have r6 : w3.cell? ⟨W.heap.size, 6, none⟩ = some (.int .i64 0) := by rw [cell_of_row w3 W.heap.size 6 _ _ (0, 0) HE3.out]; rfl
      have f6 : w3.frozen? ⟨W.heap.size, 6, none⟩ = false := frozen_of_row w3 W.heap.size 6 _ _ HE3.out
      have r7 : w3.cell? ⟨W.heap.size, 7, none⟩ = some (.int .i64 0) := by rw [cell_of_row w3 W.heap.size 7 _ _ (0, 0) HE3.out]; rfl
      have f7 : w3.frozen? ⟨W.heap.size, 7, none⟩ = false := frozen_of_row w3 W.heap.size 7 _ _ HE3.out
      have r8 : w3.cell? ⟨W.heap.size, 8, none⟩ = some (.int .i64 0) := by rw [cell_of_row w3 W.heap.size 8 _ _ (0, 0) HE3.out]; rfl
      have f8 : w3.frozen? ⟨W.heap.size, 8, none⟩ = false := frozen_of_row w3 W.heap.size 8 _ _ HE3.out
      have r9 : w3.cell? ⟨W.heap.size, 9, none⟩ = some (.int .i64 0) := by rw [cell_of_row w3 W.heap.size 9 _ _ (0, 0) HE3.out]; rfl
      have f9 : w3.frozen? ⟨W.heap.size, 9, none⟩ = false := frozen_of_row w3 W.heap.size 9 _ _ HE3.out
      have r10 : w3.cell? ⟨W.heap.size, 10, none⟩ = some (.int .i64 0) := by rw [cell_of_row w3 W.heap.size 10 _ _ (0, 0) HE3.out]; rfl
      have f10 : w3.frozen? ⟨W.heap.size, 10, none⟩ = false := frozen_of_row w3 W.heap.size 10 _ _ HE3.out
      unfold epV
      go_wp2_with fail
      refine bodyPost_ret (v := .tuple #[.agg #[.int .i64 e0, .int .i64 e1, .int .i64 e2, .int .i64 e3, .int .i64 e4, .int .i64 e5, .int .i64 e6, .int .i64 e7, .int .i64 e8, .int .i64 e9, .int .i64 e10], .int .i64 ee]) ?_ rfl (show EpS _ _ _ _ _ _ _ from ⟨Z3, by rw [HQ2.out]; rfl, ?_⟩)
      · rw [results_cell_tmp rfl]
        go_simp
      · rw [HQ2.out]
        iterate 11 refine lm_set ?_ HZ.out (Nat.le_refl _) HW.out
        exact HX.out
end
end Go.Proofs.YtkgobglmkhkbbaaGreatDoor
