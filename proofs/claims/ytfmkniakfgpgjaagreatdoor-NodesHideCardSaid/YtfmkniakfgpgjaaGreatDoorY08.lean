import Derived.Test.YtfmkniakfgpgjaaGreatDoorY07
import Derived.Test.YtfmkniakfgpgjaaGreatDoorY04
import Derived.Test.YtfmkniakfgpgjaaGreatDoorY03
import Derived.Deep.RegionLaw
import Derived.BigQuiet
import Derived.Deep.RegionHeld3
import Derived.Deep.DeepCutAuto
import Derived.Deep.RegionHeldLaw
/- schedule: Inner, Next. -/
namespace Go.Proofs.YtfmkniakfgpgjaaGreatDoor
open Go.RowKit Go.KK Go.Shelf Go.Maps
set_option linter.unusedVariables false
set_option linter.unusedSimpArgs false

theorem beg_len (xs : List ND) (j p x : Int) : (begF xs j p x).2.1.length = 11 := by
  unfold begF
  split <;> rfl
theorem nx_elen (xs : List ND) (i c x : Int) (l : List Int) : (nxF xs i c x l).2.1.length = 11 := by
  unfold nxF
  split
  · split
    · exact beg_len _ _ _ _
    · rfl
  · rfl
section
variable {w0 W : World} {Z : Nat → Prop} {sa : Nat} {xs : List ND}
theorem Mv.cellE {Z Z1 : Nat → Prop} {V W1 : World} {b : Nat} {cs : Array Value} {T : TypeId} (hb : V.heap[b]? = some (.cells cs T (0, 0))) (m : Mv Z V Z1 W1) (hz : ¬ Z b) : W1.heap[b]? = some (.cells cs T (0, 0)) :=
  (m.t.block b (Array.getElem?_eq_some_iff.1 hb).1 hz).trans hb
set_option maxHeartbeats 4000000 in
set_option maxRecDepth 100000 in
theorem nx_any (h : LA w0 W Z sa xs) (hT : Tb w0.heap.size w0) {i c x : Int} (hi : I64 i) (hc : I64 c) (hx : I64 x) {A : Option Addr} {n cc : Nat} {l : List Int} (hl : SlM W Z A n cc l) (hn : n ≤ 100000) (hli : ∀ i ∈ l, I64 i) :
    Calls Tryz.prog 22 #[.pointer (some ⟨sa, 0, none⟩), .int .i64 i, .int .i64 c, .int .i64 x, .slice A n cc] W (EpS w0 W Z sa (nxF xs i c x l)) := by
  have HT := hid hT
  have HW := hid h.bl.size
  have H0 := hid (h.alloc (.cells #[.int .i64 0, .int .i64 0, .int .i64 0, .int .i64 0, .int .i64 0, .int .i64 0, .int .i64 0, .int .i64 0, .int .i64 0, .int .i64 0, .int .i64 0] 29))
  have HM0 := hid (Mv.alloc Z W (.cells #[.int .i64 0, .int .i64 0, .int .i64 0, .int .i64 0, .int .i64 0, .int .i64 0, .int .i64 0, .int .i64 0, .int .i64 0, .int .i64 0, .int .i64 0] 29))
  have HE0 := hid (heap_alloc_new W (.cells #[.int .i64 0, .int .i64 0, .int .i64 0, .int .i64 0, .int .i64 0, .int .i64 0, .int .i64 0, .int .i64 0, .int .i64 0, .int .i64 0, .int .i64 0] 29))
  have HL0 := hid (hl.mv HM0.out)
  have HJ := hid (l_jn H0.out hT hi hc hx)
  have HZ0 := hid (show ¬ Z W.heap.size from fun hz => by have := h.ar.zlt _ hz; omega)
  clear h hT hl
  go_enter Tryz.func22, Tryz.ntmps22
  go_wp2_with fail
  refine HJ.out.mono ?_
  rintro e w1 ⟨Z1, rfl, l1, m1⟩
  have L1 := hid l1; have M1 := hid m1
  have HE1 := hid (Mv.cellE HE0.out m1 HZ0.out)
  have HZ1 := hid (show ¬ Z1 W.heap.size from fun hz => (m1.n _ hz).elim HZ0.out fun h => by simp at h; omega)
  have HL1 := hid (HL0.out.mv m1)
  clear l1 m1 HJ HE0 H0 HL0
  by_cases hj : (jnF xs i c x).2.2 = 0
  rotate_left
  · have hne : ((jnF xs i c x).2.2 != 0) = true := bne_iff_ne.2 hj
    have HQ := hid (show nxF xs i c x l = ((jnF xs i c x).1, epZ, (jnF xs i c x).2.2) by unfold nxF; rw [if_neg hj])
    have HZ := HZ1
    have r0 : w1.cell? ⟨W.heap.size, 0, none⟩ = some (.int .i64 0) := by rw [cell_of_row w1 W.heap.size 0 _ _ (0, 0) HE1.out]; rfl
    have f0 : w1.frozen? ⟨W.heap.size, 0, none⟩ = false := frozen_of_row w1 W.heap.size 0 _ _ HE1.out
    have r1 : w1.cell? ⟨W.heap.size, 1, none⟩ = some (.int .i64 0) := by rw [cell_of_row w1 W.heap.size 1 _ _ (0, 0) HE1.out]; rfl
    have f1 : w1.frozen? ⟨W.heap.size, 1, none⟩ = false := frozen_of_row w1 W.heap.size 1 _ _ HE1.out
    have r2 : w1.cell? ⟨W.heap.size, 2, none⟩ = some (.int .i64 0) := by rw [cell_of_row w1 W.heap.size 2 _ _ (0, 0) HE1.out]; rfl
    have f2 : w1.frozen? ⟨W.heap.size, 2, none⟩ = false := frozen_of_row w1 W.heap.size 2 _ _ HE1.out
    have r3 : w1.cell? ⟨W.heap.size, 3, none⟩ = some (.int .i64 0) := by rw [cell_of_row w1 W.heap.size 3 _ _ (0, 0) HE1.out]; rfl
    have f3 : w1.frozen? ⟨W.heap.size, 3, none⟩ = false := frozen_of_row w1 W.heap.size 3 _ _ HE1.out
    have r4 : w1.cell? ⟨W.heap.size, 4, none⟩ = some (.int .i64 0) := by rw [cell_of_row w1 W.heap.size 4 _ _ (0, 0) HE1.out]; rfl
    have f4 : w1.frozen? ⟨W.heap.size, 4, none⟩ = false := frozen_of_row w1 W.heap.size 4 _ _ HE1.out
    have r5 : w1.cell? ⟨W.heap.size, 5, none⟩ = some (.int .i64 0) := by rw [cell_of_row w1 W.heap.size 5 _ _ (0, 0) HE1.out]; rfl
    have f5 : w1.frozen? ⟨W.heap.size, 5, none⟩ = false := frozen_of_row w1 W.heap.size 5 _ _ HE1.out
    have r6 : w1.cell? ⟨W.heap.size, 6, none⟩ = some (.int .i64 0) := by rw [cell_of_row w1 W.heap.size 6 _ _ (0, 0) HE1.out]; rfl
    have f6 : w1.frozen? ⟨W.heap.size, 6, none⟩ = false := frozen_of_row w1 W.heap.size 6 _ _ HE1.out
    have r7 : w1.cell? ⟨W.heap.size, 7, none⟩ = some (.int .i64 0) := by rw [cell_of_row w1 W.heap.size 7 _ _ (0, 0) HE1.out]; rfl
    have f7 : w1.frozen? ⟨W.heap.size, 7, none⟩ = false := frozen_of_row w1 W.heap.size 7 _ _ HE1.out
    have r8 : w1.cell? ⟨W.heap.size, 8, none⟩ = some (.int .i64 0) := by rw [cell_of_row w1 W.heap.size 8 _ _ (0, 0) HE1.out]; rfl
    have f8 : w1.frozen? ⟨W.heap.size, 8, none⟩ = false := frozen_of_row w1 W.heap.size 8 _ _ HE1.out
    have r9 : w1.cell? ⟨W.heap.size, 9, none⟩ = some (.int .i64 0) := by rw [cell_of_row w1 W.heap.size 9 _ _ (0, 0) HE1.out]; rfl
    have f9 : w1.frozen? ⟨W.heap.size, 9, none⟩ = false := frozen_of_row w1 W.heap.size 9 _ _ HE1.out
    have r10 : w1.cell? ⟨W.heap.size, 10, none⟩ = some (.int .i64 0) := by rw [cell_of_row w1 W.heap.size 10 _ _ (0, 0) HE1.out]; rfl
    have f10 : w1.frozen? ⟨W.heap.size, 10, none⟩ = false := frozen_of_row w1 W.heap.size 10 _ _ HE1.out
    clear hj
    generalize jnF xs i c x = r at *
    obtain ⟨Y, jj, er⟩ := r
    go_wp2_with fail
    refine bodyPost_ret (v := .tuple #[.agg #[.int .i64 0, .int .i64 0, .int .i64 0, .int .i64 0, .int .i64 0, .int .i64 0, .int .i64 0, .int .i64 0, .int .i64 0, .int .i64 0, .int .i64 0], .int .i64 er]) ?_ rfl (show EpS _ _ _ _ _ _ _ from ⟨Z1, by rw [HQ.out]; rfl, ?_⟩)
    · rw [results_cell_tmp rfl]
      go_simp
    · rw [HQ.out]
      iterate 11 refine lm_set ?_ HZ.out (Nat.le_refl _) HW.out
      exact ⟨L1.out, HM0.out.trans M1.out⟩
  · have hji : I64 (jnF xs i c x).2.1 := by
      have a := has_iff.1 ((sb_jn i c x).has xs hj)
      have b := L1.out.ar.ok.len
      try dsimp only at a b
      exact ⟨by omega, by omega⟩
    have HP := hid (l_psk L1.out HT.out HL1.out hn hli)
    by_cases hp : (pskF (jnF xs i c x).1 l).2.2 = 0
    rotate_left
    · have hne : ((pskF (jnF xs i c x).1 l).2.2 != 0) = true := bne_iff_ne.2 hp
      have HQ := hid (show nxF xs i c x l = ((pskF (jnF xs i c x).1 l).1, epZ, (pskF (jnF xs i c x).1 l).2.2) by unfold nxF; rw [if_pos hj, if_neg hp])
      rw [hj]
      clear hj hp
      generalize pskF (jnF xs i c x).1 l = r at *
      obtain ⟨Y, pp, er⟩ := r
      go_wp2_with fail
      refine HP.out.mono ?_
      rintro e w2 ⟨Z2, rfl, l2, m2⟩
      have HE2 := hid (Mv.cellE HE1.out m2 HZ1.out)
      have HZ := hid (show ¬ Z2 W.heap.size from fun hz => (m2.n _ hz).elim HZ1.out fun h => by have := (Array.getElem?_eq_some_iff.1 HE1.out).1; omega)
      have HX := hid (And.intro l2 ((HM0.out.trans M1.out).trans m2))
      clear l2 m2 HP
      have r0 : w2.cell? ⟨W.heap.size, 0, none⟩ = some (.int .i64 0) := by rw [cell_of_row w2 W.heap.size 0 _ _ (0, 0) HE2.out]; rfl
      have f0 : w2.frozen? ⟨W.heap.size, 0, none⟩ = false := frozen_of_row w2 W.heap.size 0 _ _ HE2.out
      have r1 : w2.cell? ⟨W.heap.size, 1, none⟩ = some (.int .i64 0) := by rw [cell_of_row w2 W.heap.size 1 _ _ (0, 0) HE2.out]; rfl
      have f1 : w2.frozen? ⟨W.heap.size, 1, none⟩ = false := frozen_of_row w2 W.heap.size 1 _ _ HE2.out
      have r2 : w2.cell? ⟨W.heap.size, 2, none⟩ = some (.int .i64 0) := by rw [cell_of_row w2 W.heap.size 2 _ _ (0, 0) HE2.out]; rfl
      have f2 : w2.frozen? ⟨W.heap.size, 2, none⟩ = false := frozen_of_row w2 W.heap.size 2 _ _ HE2.out
      have r3 : w2.cell? ⟨W.heap.size, 3, none⟩ = some (.int .i64 0) := by rw [cell_of_row w2 W.heap.size 3 _ _ (0, 0) HE2.out]; rfl
      have f3 : w2.frozen? ⟨W.heap.size, 3, none⟩ = false := frozen_of_row w2 W.heap.size 3 _ _ HE2.out
      have r4 : w2.cell? ⟨W.heap.size, 4, none⟩ = some (.int .i64 0) := by rw [cell_of_row w2 W.heap.size 4 _ _ (0, 0) HE2.out]; rfl
      have f4 : w2.frozen? ⟨W.heap.size, 4, none⟩ = false := frozen_of_row w2 W.heap.size 4 _ _ HE2.out
      have r5 : w2.cell? ⟨W.heap.size, 5, none⟩ = some (.int .i64 0) := by rw [cell_of_row w2 W.heap.size 5 _ _ (0, 0) HE2.out]; rfl
      have f5 : w2.frozen? ⟨W.heap.size, 5, none⟩ = false := frozen_of_row w2 W.heap.size 5 _ _ HE2.out
      have r6 : w2.cell? ⟨W.heap.size, 6, none⟩ = some (.int .i64 0) := by rw [cell_of_row w2 W.heap.size 6 _ _ (0, 0) HE2.out]; rfl
      have f6 : w2.frozen? ⟨W.heap.size, 6, none⟩ = false := frozen_of_row w2 W.heap.size 6 _ _ HE2.out
      have r7 : w2.cell? ⟨W.heap.size, 7, none⟩ = some (.int .i64 0) := by rw [cell_of_row w2 W.heap.size 7 _ _ (0, 0) HE2.out]; rfl
      have f7 : w2.frozen? ⟨W.heap.size, 7, none⟩ = false := frozen_of_row w2 W.heap.size 7 _ _ HE2.out
      have r8 : w2.cell? ⟨W.heap.size, 8, none⟩ = some (.int .i64 0) := by rw [cell_of_row w2 W.heap.size 8 _ _ (0, 0) HE2.out]; rfl
      have f8 : w2.frozen? ⟨W.heap.size, 8, none⟩ = false := frozen_of_row w2 W.heap.size 8 _ _ HE2.out
      have r9 : w2.cell? ⟨W.heap.size, 9, none⟩ = some (.int .i64 0) := by rw [cell_of_row w2 W.heap.size 9 _ _ (0, 0) HE2.out]; rfl
      have f9 : w2.frozen? ⟨W.heap.size, 9, none⟩ = false := frozen_of_row w2 W.heap.size 9 _ _ HE2.out
      have r10 : w2.cell? ⟨W.heap.size, 10, none⟩ = some (.int .i64 0) := by rw [cell_of_row w2 W.heap.size 10 _ _ (0, 0) HE2.out]; rfl
      have f10 : w2.frozen? ⟨W.heap.size, 10, none⟩ = false := frozen_of_row w2 W.heap.size 10 _ _ HE2.out
      go_wp2_with fail
      refine bodyPost_ret (v := .tuple #[.agg #[.int .i64 0, .int .i64 0, .int .i64 0, .int .i64 0, .int .i64 0, .int .i64 0, .int .i64 0, .int .i64 0, .int .i64 0, .int .i64 0, .int .i64 0], .int .i64 er]) ?_ rfl (show EpS _ _ _ _ _ _ _ from ⟨Z2, by rw [HQ.out]; rfl, ?_⟩)
      · rw [results_cell_tmp rfl]
        go_simp
      · rw [HQ.out]
        iterate 11 refine lm_set ?_ HZ.out (Nat.le_refl _) HW.out
        exact HX.out
    · have HQ := hid (show nxF xs i c x l = begF (pskF (jnF xs i c x).1 l).1 (jnF xs i c x).2.1 (pskF (jnF xs i c x).1 l).2.1 x by unfold nxF; rw [if_pos hj, if_pos hp])
      have hpi : (∀ U Zq, LA w0 U Zq sa (pskF (jnF xs i c x).1 l).1 → I64 (pskF (jnF xs i c x).1 l).2.1) := fun U Zq hla => by
        have a := has_iff.1 ((sb_psk l).has (jnF xs i c x).1 hp)
        have b := hla.ar.ok.len
        try dsimp only at a b
        exact ⟨by omega, by omega⟩
      have HPI := hid hpi
      rw [hj]
      unfold LrS at HP
      rw [hp] at HP
      clear hj hp hpi
      generalize pskF (jnF xs i c x).1 l = r at *
      obtain ⟨Y, pp, er⟩ := r
      generalize (jnF xs i c x).2.1 = jj at *
      obtain ⟨ep, hep⟩ : ∃ ep, ep = begF Y jj pp x := ⟨_, rfl⟩
      have h11 : ep.2.1.length = 11 := by rw [hep]; exact beg_len _ _ _ _
      have HEP := hid hep
      have HQ2 := hid (show nxF xs i c x l = ep by rw [HQ.out, hep])
      clear hep HQ
      obtain ⟨Ye, el, ee⟩ := ep
      obtain ⟨e0, e1, e2, e3, e4, e5, e6, e7, e8, e9, e10, rfl⟩ := len11 h11
      clear h11
      go_wp2_with fail
      refine HP.out.mono ?_
      rintro e w2 ⟨Z2, rfl, l2, m2⟩
      have HE2 := hid (Mv.cellE HE1.out m2 HZ1.out)
      have HZ2 := hid (show ¬ Z2 W.heap.size from fun hz => (m2.n _ hz).elim HZ1.out fun h => by have := (Array.getElem?_eq_some_iff.1 HE1.out).1; omega)
      have HBG := hid (beg_any l2 HT.out hji (HPI.out _ _ l2) hx)
      rw [← HEP.out] at HBG
      have M2 := hid ((HM0.out.trans M1.out).trans m2)
      clear l2 m2 HP
      go_wp2_with fail
      refine HBG.out.mono ?_
      rintro e w3 ⟨Z3, rfl, l3, m3⟩
      have HE3 := hid (Mv.cellE HE2.out m3 HZ2.out)
      have HZ := hid (show ¬ Z3 W.heap.size from fun hz => (m3.n _ hz).elim HZ2.out fun h => by have := (Array.getElem?_eq_some_iff.1 HE2.out).1; omega)
      have HX := hid (And.intro l3 (M2.out.trans m3))
      clear l3 m3 HBG
      have r0 : w3.cell? ⟨W.heap.size, 0, none⟩ = some (.int .i64 0) := by rw [cell_of_row w3 W.heap.size 0 _ _ (0, 0) HE3.out]; rfl
      have f0 : w3.frozen? ⟨W.heap.size, 0, none⟩ = false := frozen_of_row w3 W.heap.size 0 _ _ HE3.out
      have r1 : w3.cell? ⟨W.heap.size, 1, none⟩ = some (.int .i64 0) := by rw [cell_of_row w3 W.heap.size 1 _ _ (0, 0) HE3.out]; rfl
      have f1 : w3.frozen? ⟨W.heap.size, 1, none⟩ = false := frozen_of_row w3 W.heap.size 1 _ _ HE3.out
      have r2 : w3.cell? ⟨W.heap.size, 2, none⟩ = some (.int .i64 0) := by rw [cell_of_row w3 W.heap.size 2 _ _ (0, 0) HE3.out]; rfl
      have f2 : w3.frozen? ⟨W.heap.size, 2, none⟩ = false := frozen_of_row w3 W.heap.size 2 _ _ HE3.out
      have r3 : w3.cell? ⟨W.heap.size, 3, none⟩ = some (.int .i64 0) := by rw [cell_of_row w3 W.heap.size 3 _ _ (0, 0) HE3.out]; rfl
      have f3 : w3.frozen? ⟨W.heap.size, 3, none⟩ = false := frozen_of_row w3 W.heap.size 3 _ _ HE3.out
      have r4 : w3.cell? ⟨W.heap.size, 4, none⟩ = some (.int .i64 0) := by rw [cell_of_row w3 W.heap.size 4 _ _ (0, 0) HE3.out]; rfl
      have f4 : w3.frozen? ⟨W.heap.size, 4, none⟩ = false := frozen_of_row w3 W.heap.size 4 _ _ HE3.out
      have r5 : w3.cell? ⟨W.heap.size, 5, none⟩ = some (.int .i64 0) := by rw [cell_of_row w3 W.heap.size 5 _ _ (0, 0) HE3.out]; rfl
      have f5 : w3.frozen? ⟨W.heap.size, 5, none⟩ = false := frozen_of_row w3 W.heap.size 5 _ _ HE3.out
      have r6 : w3.cell? ⟨W.heap.size, 6, none⟩ = some (.int .i64 0) := by rw [cell_of_row w3 W.heap.size 6 _ _ (0, 0) HE3.out]; rfl
      have f6 : w3.frozen? ⟨W.heap.size, 6, none⟩ = false := frozen_of_row w3 W.heap.size 6 _ _ HE3.out
      have r7 : w3.cell? ⟨W.heap.size, 7, none⟩ = some (.int .i64 0) := by rw [cell_of_row w3 W.heap.size 7 _ _ (0, 0) HE3.out]; rfl
      have f7 : w3.frozen? ⟨W.heap.size, 7, none⟩ = false := frozen_of_row w3 W.heap.size 7 _ _ HE3.out
      have r8 : w3.cell? ⟨W.heap.size, 8, none⟩ = some (.int .i64 0) := by rw [cell_of_row w3 W.heap.size 8 _ _ (0, 0) HE3.out]; rfl
      have f8 : w3.frozen? ⟨W.heap.size, 8, none⟩ = false := frozen_of_row w3 W.heap.size 8 _ _ HE3.out
      have r9 : w3.cell? ⟨W.heap.size, 9, none⟩ = some (.int .i64 0) := by rw [cell_of_row w3 W.heap.size 9 _ _ (0, 0) HE3.out]; rfl
      have f9 : w3.frozen? ⟨W.heap.size, 9, none⟩ = false := frozen_of_row w3 W.heap.size 9 _ _ HE3.out
      have r10 : w3.cell? ⟨W.heap.size, 10, none⟩ = some (.int .i64 0) := by rw [cell_of_row w3 W.heap.size 10 _ _ (0, 0) HE3.out]; rfl
      have f10 : w3.frozen? ⟨W.heap.size, 10, none⟩ = false := frozen_of_row w3 W.heap.size 10 _ _ HE3.out
      unfold epV
      go_wp2_with fail
      refine bodyPost_ret (v := .tuple #[.agg #[.int .i64 e0, .int .i64 e1, .int .i64 e2, .int .i64 e3, .int .i64 e4, .int .i64 e5, .int .i64 e6, .int .i64 e7, .int .i64 e8, .int .i64 e9, .int .i64 e10], .int .i64 ee]) ?_ rfl (show EpS _ _ _ _ _ _ _ from ⟨Z3, by rw [HQ2.out]; rfl, ?_⟩)
      · rw [results_cell_tmp rfl]
        go_simp
      · rw [HQ2.out]
        iterate 11 refine lm_set ?_ HZ.out (Nat.le_refl _) HW.out
        exact HX.out
end
end Go.Proofs.YtfmkniakfgpgjaaGreatDoor

/- the document's layer 3: SameInts (without Rising). -/
namespace Go.Proofs.YtfmkniakfgpgjaaGreatDoor
open Go.RowKit Go.KK Go.Shelf Go.Maps
set_option linter.unusedVariables false
set_option linter.unusedSimpArgs false

theorem take_get {α : Type} {l : List α} {k : Nat} {x : α} (h : l[k]? = some x) : l.take (k + 1) = l.take k ++ [x] := by
  obtain ⟨hk, rfl⟩ := List.getElem?_eq_some_iff.1 h
  exact List.take_succ_eq_append_getElem hk
theorem run_cut_to6 {P : Program} {A : Option Addr} {n c sz : Nat} {t e : TypeId} (ht : P.underlying t = some (.slice e)) (hs : ∀ W : World, (sizeOf e).run P W = .ok sz W) {p : Nat} (hp : p ≤ c) :
    ∀ W : World, (Instr.slice t (.slice A n c) none (some (.int .i64 (p : Int))) none).run P W = .ok (.slice A p c) W := by
  intro W
  have he : P.elem t = e := by simp [Program.elem, ht]
  rw [run_slice_h W t A n c (by rw [he]; exact ht) .i64 p (by omega) (by omega), he, hs W]
  have hz : ∀ a : Addr, a.add 0 = a := fun a => by simp [Addr.add]
  simp [Result.andThen, sliced, hz]
theorem take_eq_step {l m : List Int} {j : Nat} {x : Int} (h : l.take j = m.take j) (h1 : l[j]? = some x) (h2 : m[j]? = some x) : l.take (j + 1) = m.take (j + 1) := by
  rw [take_get h1, take_get h2, h]
theorem ne_of_at {l m : List Int} {j : Nat} {x y : Int} (h1 : l[j]? = some x) (h2 : m[j]? = some y) (h : x ≠ y) : (l == m) = false := by
  refine beq_eq_false_iff_ne.2 fun e => h ?_
  rw [e, h2] at h1
  injection h1 with h1
  exact h1.symm
theorem same_ints (A : Option Addr) (n c : Nat) (l : List Int) (B : Option Addr) (m d : Nat) (l' : List Int) (w : World) (h : SlA w 1 A n c (l.map (.int .i64))) (h' : SlA w 1 B m d (l'.map (.int .i64))) (hn : n ≤ 2147483648) (hm : m ≤ 2147483648) :
    Calls Tryz.prog 19 #[.slice A n c, .slice B m d] w fun e w' => e = .returned (.bool (l == l')) ∧ ∃ q, w' = w.drewN q := by
  have HL := hid h.lenI; have HS := hid h; have HL' := hid h'.lenI; have HS' := hid h'
  clear h h'
  by_cases hnm : n = m
  · subst hnm
    go_enter Tryz.func19, Tryz.ntmps19
    go_wp2
    go_loopw [13, 4] (fun i _ wr => ∃ j q : Nat, i = .int .i64 j ∧ j ≤ n ∧ Hid (l.take j = l'.take j) ∧ wr = w.drewN q) (fun i _ _ => n - (intOf i).toNat)
    case atStart => exact ⟨0, 0, rfl, by omega, hid rfl, rfl⟩
    case round =>
      obtain ⟨j, q, hi, hj, HJ, hw⟩ := hrel
      subst hi; subst hw
      by_cases hlt : j < n
      · obtain ⟨b, o, z, rfl, hz, hc⟩ := HS.out.elemI hlt
        obtain ⟨b', o', z', rfl, hz', hc'⟩ := HS'.out.elemI hlt
        have hj0 : (0 : Int) ≤ (j : Int) := by omega
        have hj1 : (j : Int) < (n : Int) := by omega
        have HZ := hid hz; have HZ' := hid hz'
        clear hz hz'
        by_cases hzx : z = z'
        · have HF := hid (take_eq_step HJ.out HZ.out (hzx ▸ HZ'.out))
          have hzx' : (z != z') = false := by rw [hzx]; simp
          clear hzx
          go_wp2
          go_quiet (fail)
          go_wp2
          go_roundw
          case rel => exact ⟨j + 1, _, by go_num, by omega, HF, rfl⟩
          case measure => simp [intOf]; omega
        · have HF := hid (ne_of_at HZ.out HZ'.out hzx)
          have hzx' : (z != z') = true := bne_iff_ne.2 hzx
          clear hzx
          go_wp2
          go_quiet (fail)
          go_wp2
          go_ret
          exact ⟨by rw [HF.out]; rfl, _, World.drewN_drewN _ _ _⟩
      · have HF := hid (show (l == l') = true from beq_iff_eq.2 (by
          have := HJ.out
          rwa [List.take_of_length_le (by have := HL.out; omega), List.take_of_length_le (by have := HL'.out; omega)] at this))
        go_wp2
        go_ret
        exact ⟨by rw [HF.out]; rfl, q, rfl⟩
  · have HF := hid (show (l == l') = false from beq_eq_false_iff_ne.2 fun e => hnm (by rw [← HL.out, ← HL'.out, e]))
    have hnm' : ((n : Int) != (m : Int)) = true := bne_iff_ne.2 (by omega)
    clear hnm
    go_enter Tryz.func19, Tryz.ntmps19
    go_wp2
    go_ret
    exact ⟨by rw [HF.out]; rfl, 0, rfl⟩
end Go.Proofs.YtfmkniakfgpgjaaGreatDoor

/- schedule's law: live; numbers beyond; what its laws share. -/
namespace Go.Proofs.YtfmkniakfgpgjaaGreatDoor
open Go.RowKit Go.KK Go.Shelf Go.Maps
set_option linter.unusedVariables false
set_option linter.unusedSimpArgs false

theorem SlM.new {w0 W : World} {Z : Nat → Prop} {sa : Nat} {xs : List ND} (la : LA w0 W Z sa xs) (vs : Array Value) (l : List Int) (T : TypeId) (hv : vs.toList = l.map (.int .i64)) (hm : vs.size ≤ maxLen) : SlM (W.alloc (.cells vs T)) Z (some ⟨W.heap.size, 0, none⟩) vs.size vs.size l := by
  refine ⟨by rw [← hv]; exact sla_row vs hm, fun b o e _ => ?_⟩
  injection e with e
  injection e with e1 e2
  subst e1
  exact ⟨by simp, fun hz => by have := la.ar.zlt _ hz; omega⟩
end Go.Proofs.YtfmkniakfgpgjaaGreatDoor

/- schedule: Export. -/
namespace Go.Proofs.YtfmkniakfgpgjaaGreatDoor
open Go.RowKit Go.KK Go.Shelf Go.Maps
set_option linter.unusedVariables false
set_option linter.unusedSimpArgs false

section
variable {w0 W : World} {Z : Nat → Prop} {sa : Nat} {xs : List ND}
set_option maxHeartbeats 2000000 in
set_option maxRecDepth 100000 in
theorem l_xp (h : LA w0 W Z sa xs) (hT : Tb w0.heap.size w0) {el : List Int} (h11 : el.length = 11) (h5 : I64 (el.getD 5 0)) {x : Int} (hx : I64 x) (lab : ByteArray) :
    Calls Tryz.prog 80 #[.pointer (some ⟨sa, 0, none⟩), epV el, .string lab, .int .i64 x] W (LrS w0 W Z sa (xpF xs el lab x)) := by
  obtain ⟨e0, e1, e2, e3, e4, e5, e6, e7, e8, e9, e10, rfl⟩ := len11 h11
  clear h11
  have h5' : I64 e5 := h5
  have HT := hid hT
  have HA := hid (h.alloc (.cells #[.int .i64 e0, .int .i64 e1, .int .i64 e2, .int .i64 e3, .int .i64 e4, .int .i64 e5, .int .i64 e6, .int .i64 e7, .int .i64 e8, .int .i64 e9, .int .i64 e10] 29))
  have HM := hid (Mv.alloc Z W (.cells #[.int .i64 e0, .int .i64 e1, .int .i64 e2, .int .i64 e3, .int .i64 e4, .int .i64 e5, .int .i64 e6, .int .i64 e7, .int .i64 e8, .int .i64 e9, .int .i64 e10] 29))
  have hxn := h.ar.ok.len
  clear hT h5
  unfold epV
  rcases hh : hasB xs x with _ | _
  · have HF := hid (show xpF xs [e0, e1, e2, e3, e4, e5, e6, e7, e8, e9, e10] lab x = (xs, 0, 1) by unfold xpF; rw [if_neg (by rw [hh]; decide)])
    rw [HF.out]
    have hn : x < 0 ∨ (0 ≤ x ∧ (xs.length : Int) ≤ x) := by
      rcases Int.lt_or_le x 0 with h1 | h1
      · exact .inl h1
      · refine .inr ⟨h1, ?_⟩
        rcases Int.lt_or_le x (xs.length : Int) with h2 | h2
        · rw [has_iff.2 ⟨h1, h2⟩] at hh; cases hh
        · exact h2
    clear hh h
    rcases hn with hneg | ⟨hpos, hge⟩
    · go_enter Tryz.func80, Tryz.ntmps80
      go_wp2_with fail
      go_ret2
      exact (show LrS _ _ _ _ _ _ _ from ⟨Z, rfl, HA.out, HM.out⟩)
    · go_enter Tryz.func80, Tryz.ntmps80
      go_wp2_with fail
      refine (len_any sa xs _ HA.out.ar.vw).mono ?_
      rintro e w2 ⟨rfl, hw⟩
      subst hw
      go_wp2_with fail
      go_ret2
      exact (show LrS _ _ _ _ _ _ _ from ⟨Z, rfl, HA.out, HM.out⟩)
  · have h2 := has_iff.1 hh
    have hlt : x < (xs.length : Int) := h2.2
    have hge0 : ¬ x < 0 := by omega
    have HD := hid (l_dv HA.out HT.out h5' lab)
    have HIX := hid (fun U Zq (hla : LA w0 U Zq sa (dvF xs e5 lab).1) (h0 : (dvF xs e5 lab).2.2 = 0) => (show I64 (dvF xs e5 lab).2.1 from by
      have a := has_iff.1 ((sb_dv e5 lab).has xs h0)
      have b := hla.ar.ok.len
      try dsimp only at a b
      exact ⟨by omega, by omega⟩))
    by_cases he : (dvF xs e5 lab).2.2 = 0
    · have HF := hid (show xpF xs [e0, e1, e2, e3, e4, e5, e6, e7, e8, e9, e10] lab x = exdF (dvF xs e5 lab).1 (dvF xs e5 lab).2.1 lbExported x by
        unfold xpF; rw [if_pos hh]; unfold bdF; rw [if_pos (show (dvF xs ([e0, e1, e2, e3, e4, e5, e6, e7, e8, e9, e10].getD 5 0) lab).2.2 = 0 from he)]; rfl)
      rw [HF.out]
      unfold LrS at HD
      rw [he] at HD
      have HI0 := hid (fun U Zq hla => HIX.out U Zq hla he)
      clear he hh h HIX
      generalize dvF xs e5 lab = r at *
      obtain ⟨Y, y, er⟩ := r
      obtain ⟨r, hr⟩ : ∃ r : Rs, r = exdF Y y lbExported x := ⟨_, rfl⟩
      rw [← hr]
      have HR := hid hr
      clear hr HF
      go_enter Tryz.func80, Tryz.ntmps80
      go_wp2_with fail
      refine (len_any sa xs _ HA.out.ar.vw).mono ?_
      rintro e w2 ⟨rfl, hw⟩
      subst hw
      go_wp2_with fail
      refine HD.out.mono ?_
      rintro e w3 ⟨Z3, rfl, l3, m3⟩
      have HO := hid (l_exd l3 HT.out (HI0.out _ _ l3) hx lbExported)
      rw [← HR.out] at HO
      unfold lbExported at HO
      have M3 := hid (HM.out.trans m3)
      clear l3 m3 HD
      go_wp2_with fail
      refine HO.out.mono ?_
      rintro e w4 ⟨Z4, rfl, l4, m4⟩
      have L4 := hid l4; have M4 := hid (M3.out.trans m4)
      clear l4 m4 HO
      go_wp2_with fail
      go_ret2
      exact (show LrS _ _ _ _ _ _ _ from ⟨Z4, rfl, L4.out, M4.out⟩)
    · have HF := hid (show xpF xs [e0, e1, e2, e3, e4, e5, e6, e7, e8, e9, e10] lab x = ((dvF xs e5 lab).1, 0, (dvF xs e5 lab).2.2) by
        unfold xpF; rw [if_pos hh]; unfold bdF; rw [if_neg (show ¬ (dvF xs ([e0, e1, e2, e3, e4, e5, e6, e7, e8, e9, e10].getD 5 0) lab).2.2 = 0 from he)]; rfl)
      rw [HF.out]
      unfold LrS at HD
      have hne : ((dvF xs e5 lab).2.2 != 0) = true := bne_iff_ne.2 he
      clear he hh h HIX
      generalize dvF xs e5 lab = r at *
      obtain ⟨Y, y, er⟩ := r
      go_enter Tryz.func80, Tryz.ntmps80
      go_wp2_with fail
      refine (len_any sa xs _ HA.out.ar.vw).mono ?_
      rintro e w2 ⟨rfl, hw⟩
      subst hw
      go_wp2_with fail
      refine HD.out.mono ?_
      rintro e w3 ⟨Z3, rfl, l3, m3⟩
      have L3 := hid l3; have M3 := hid (HM.out.trans m3)
      clear l3 m3 HD HF
      go_wp2_with fail
      go_ret2
      exact (show LrS _ _ _ _ _ _ _ from ⟨Z3, rfl, L3.out, M3.out⟩)
end
end Go.Proofs.YtfmkniakfgpgjaaGreatDoor

/- nodes: the locker in memory, and what it does. -/
namespace Go.Proofs.YtfmkniakfgpgjaaGreatDoor
open Go.RowKit Go.KK Go.Shelf Go.Maps
set_option linter.unusedVariables false
set_option linter.unusedSimpArgs false

def Zk (Z : Nat → Prop) (bk : Nat) (b : Nat) : Prop := Z b ∨ b = bk
/-- The locker, and its arena. -/
structure LK (w0 W : World) (Z : Nat → Prop) (sa bk : Nat) (S : KS) (ex cx : Int) : Prop where
  la : LA w0 W Z sa S.x
  k : W.heap[bk]? = some (.cells #[.pointer (some ⟨sa, 0, none⟩), .int .i64 S.e, .int .i64 ex, .int .i64 cx] 89 (0, 0))
  nz : ¬ Z bk
  lo : w0.heap.size ≤ bk
section
variable {w0 W W' : World} {Z Z' : Nat → Prop} {sa bk : Nat} {S : KS} {ex cx : Int} {X' : List ND}
theorem LK.lt (h : LK w0 W Z sa bk S ex cx) : bk < W.heap.size := (Array.getElem?_eq_some_iff.1 h.k).1
theorem LK.c0 (h : LK w0 W Z sa bk S ex cx) : W.cell? ⟨bk, 0, none⟩ = some (.pointer (some ⟨sa, 0, none⟩)) := by rw [cell_of_row W bk 0 _ _ (0, 0) h.k]; rfl
theorem LK.c1 (h : LK w0 W Z sa bk S ex cx) : W.cell? ⟨bk, 1, none⟩ = some (.int .i64 S.e) := by rw [cell_of_row W bk 1 _ _ (0, 0) h.k]; rfl
theorem LK.c2 (h : LK w0 W Z sa bk S ex cx) : W.cell? ⟨bk, 2, none⟩ = some (.int .i64 ex) := by rw [cell_of_row W bk 2 _ _ (0, 0) h.k]; rfl
theorem LK.c3 (h : LK w0 W Z sa bk S ex cx) : W.cell? ⟨bk, 3, none⟩ = some (.int .i64 cx) := by rw [cell_of_row W bk 3 _ _ (0, 0) h.k]; rfl
theorem LK.fz (h : LK w0 W Z sa bk S ex cx) (i : Nat) : W.frozen? ⟨bk, i, none⟩ = false := frozen_of_row W bk i _ _ h.k
theorem LK.ext (h : LK w0 W Z sa bk S ex cx) (hb : Below W.heap.size W W') : LK w0 W' Z sa bk S ex cx :=
  ⟨h.la.ext hb, (hb.block bk h.lt).trans h.k, h.nz, h.lo⟩
theorem LK.mv (h : LK w0 W Z sa bk S ex cx) (l : LA w0 W' Z' sa X') (m : Mv Z W Z' W') : LK w0 W' Z' sa bk ⟨X', S.e⟩ ex cx :=
  ⟨l, (m.t.block bk h.lt h.nz).trans h.k, fun hz => (m.n bk hz).elim h.nz fun h' => by have := h.lt; omega, h.lo⟩
theorem LK.put (h : LK w0 W Z sa bk S ex cx) (e : Int) : LK w0 (W.setCell ⟨bk, 1, none⟩ (.int .i64 e)) Z sa bk ⟨S.x, e⟩ ex cx := by
  refine ⟨h.la.put1 _ h.nz h.lo, ?_, h.nz, h.lo⟩
  rw [heap_setCell_same W bk 1 _ _ _ h.k]; rfl
theorem Mv.zk (m : Mv Z W Z' W') (bk : Nat) : Mv (Zk Z bk) W (Zk Z' bk) W' :=
  ⟨m.t.mono fun b h => .inl h, fun b h => h.elim (fun h => (m.n b h).elim (fun h => .inl (.inl h)) .inr) fun h => .inl (.inr h)⟩
theorem Mv.set (Z : Nat → Prop) (W : World) (bk o : Nat) (v : Value) : Mv (Zk Z bk) W (Zk Z bk) (W.setCell ⟨bk, o, none⟩ v) :=
  ⟨Turn.setCell v (.inl (.inr rfl)), fun b h => .inl h⟩
theorem Mv.cell1 (m : Mv Z W Z' W') {b o : Nat} {v : Value} (hc : W.cell? ⟨b, o, none⟩ = some v) (hz : ¬ Z b) : W'.cell? ⟨b, o, none⟩ = some v := by
  rw [World.cell?_of_block (a := ⟨b, o, none⟩) (m.t.block b (block_lt_of_cell hc) hz)]; exact hc
theorem LK.i64 (h : LK w0 W Z sa bk S ex cx) {i : Int} (hi : hasB S.x i = true) : I64 i := by
  have a := has_iff.1 hi
  have b := h.la.ar.ok.len
  exact ⟨by omega, by omega⟩
end
/-- What a method leaves that makes a term. -/
def KkS (w0 W : World) (Z : Nat → Prop) (sa bk : Nat) (r : KS × Int) (ex cx : Int) (e : Ending) (w' : World) : Prop := ∃ Z', e = .returned (.int .i64 r.2) ∧ LK w0 w' Z' sa bk r.1 ex cx ∧ Mv (Zk Z bk) W (Zk Z' bk) w'
section
variable {w0 W : World} {Z : Nat → Prop} {sa bk : Nat} {S : KS} {ex cx : Int}
set_option maxHeartbeats 1000000 in
theorem do_text (h : LK w0 W Z sa bk S ex cx) (f : List ND → Rs) {p0 p1 : Value} (hmk : S.e = 0 → Calls Tryz.prog 126 #[p0, p1] W (LrS w0 W Z sa (f S.x))) :
    Calls Tryz.prog 47 #[.pointer (some ⟨bk, 0, none⟩), .func (.func 126) #[] #[p0, p1]] W (KkS w0 W Z sa bk (doF S f) ex cx) := by
  have HL := hid h
  have hc := h.c1
  by_cases he : S.e = 0
  · have HM := hid (hmk he)
    have HD := hid (show doF S f = (⟨(f S.x).1, (f S.x).2.2⟩, (f S.x).2.1) from if_pos he)
    rw [he] at hc
    rw [HD.out]
    clear h hmk he HD
    generalize f S.x = r at *
    go_enter Tryz.func47, Tryz.ntmps47
    go_wp2_with fail
    refine HM.out.mono ?_
    clear hc
    rintro e w2 ⟨Z2, rfl, l2, m2⟩
    have L2 := hid (HL.out.mv l2 m2)
    have M2 := hid ((m2.zk bk).trans (Mv.set Z2 w2 bk 1 (.int .i64 r.2.2)))
    have hc := L2.out.c1
    have hf := L2.out.fz 1
    clear l2 m2 HM HL
    go_wp2_with fail
    go_ret
    exact ⟨Z2, rfl, L2.out.put _, M2.out⟩
  · have HD := hid (show doF S f = (S, 0) from if_neg he)
    have hne : (S.e == 0) = false := beq_eq_false_iff_ne.2 he
    have HN := hid he
    rw [HD.out]
    clear h hmk he HD
    go_enter Tryz.func47, Tryz.ntmps47
    go_wp2_with fail
    go_ret
    exact ⟨Z, rfl, HL.out, Mv.below (Below.refl _ _)⟩
set_option maxHeartbeats 1000000 in
theorem do_list (h : LK w0 W Z sa bk S ex cx) (f : List ND → Rs) {p0 p1 : Value} (hmk : S.e = 0 → Calls Tryz.prog 128 #[p0, p1] W (LrS w0 W Z sa (f S.x))) :
    Calls Tryz.prog 47 #[.pointer (some ⟨bk, 0, none⟩), .func (.func 128) #[] #[p0, p1]] W (KkS w0 W Z sa bk (doF S f) ex cx) := by
  have HL := hid h
  have hc := h.c1
  by_cases he : S.e = 0
  · have HM := hid (hmk he)
    have HD := hid (show doF S f = (⟨(f S.x).1, (f S.x).2.2⟩, (f S.x).2.1) from if_pos he)
    rw [he] at hc
    rw [HD.out]
    clear h hmk he HD
    generalize f S.x = r at *
    go_enter Tryz.func47, Tryz.ntmps47
    go_wp2_with fail
    refine HM.out.mono ?_
    clear hc
    rintro e w2 ⟨Z2, rfl, l2, m2⟩
    have L2 := hid (HL.out.mv l2 m2)
    have M2 := hid ((m2.zk bk).trans (Mv.set Z2 w2 bk 1 (.int .i64 r.2.2)))
    have hc := L2.out.c1
    have hf := L2.out.fz 1
    clear l2 m2 HM HL
    go_wp2_with fail
    go_ret
    exact ⟨Z2, rfl, L2.out.put _, M2.out⟩
  · have HD := hid (show doF S f = (S, 0) from if_neg he)
    have hne : (S.e == 0) = false := beq_eq_false_iff_ne.2 he
    have HN := hid he
    rw [HD.out]
    clear h hmk he HD
    go_enter Tryz.func47, Tryz.ntmps47
    go_wp2_with fail
    go_ret
    exact ⟨Z, rfl, HL.out, Mv.below (Below.refl _ _)⟩
set_option maxHeartbeats 1000000 in
theorem do_k1 (h : LK w0 W Z sa bk S ex cx) (f : List ND → Rs) {p0 p1 : Value} (hmk : S.e = 0 → Calls Tryz.prog 84 #[p0, p1] W (LrS w0 W Z sa (f S.x))) :
    Calls Tryz.prog 47 #[.pointer (some ⟨bk, 0, none⟩), .func (.func 84) #[] #[p0, p1]] W (KkS w0 W Z sa bk (doF S f) ex cx) := by
  have HL := hid h
  have hc := h.c1
  by_cases he : S.e = 0
  · have HM := hid (hmk he)
    have HD := hid (show doF S f = (⟨(f S.x).1, (f S.x).2.2⟩, (f S.x).2.1) from if_pos he)
    rw [he] at hc
    rw [HD.out]
    clear h hmk he HD
    generalize f S.x = r at *
    go_enter Tryz.func47, Tryz.ntmps47
    go_wp2_with fail
    refine HM.out.mono ?_
    clear hc
    rintro e w2 ⟨Z2, rfl, l2, m2⟩
    have L2 := hid (HL.out.mv l2 m2)
    have M2 := hid ((m2.zk bk).trans (Mv.set Z2 w2 bk 1 (.int .i64 r.2.2)))
    have hc := L2.out.c1
    have hf := L2.out.fz 1
    clear l2 m2 HM HL
    go_wp2_with fail
    go_ret
    exact ⟨Z2, rfl, L2.out.put _, M2.out⟩
  · have HD := hid (show doF S f = (S, 0) from if_neg he)
    have hne : (S.e == 0) = false := beq_eq_false_iff_ne.2 he
    have HN := hid he
    rw [HD.out]
    clear h hmk he HD
    go_enter Tryz.func47, Tryz.ntmps47
    go_wp2_with fail
    go_ret
    exact ⟨Z, rfl, HL.out, Mv.below (Below.refl _ _)⟩
set_option maxHeartbeats 1000000 in
theorem do_k2 (h : LK w0 W Z sa bk S ex cx) (f : List ND → Rs) {p0 p1 : Value} (hmk : S.e = 0 → Calls Tryz.prog 86 #[p0, p1] W (LrS w0 W Z sa (f S.x))) :
    Calls Tryz.prog 47 #[.pointer (some ⟨bk, 0, none⟩), .func (.func 86) #[] #[p0, p1]] W (KkS w0 W Z sa bk (doF S f) ex cx) := by
  have HL := hid h
  have hc := h.c1
  by_cases he : S.e = 0
  · have HM := hid (hmk he)
    have HD := hid (show doF S f = (⟨(f S.x).1, (f S.x).2.2⟩, (f S.x).2.1) from if_pos he)
    rw [he] at hc
    rw [HD.out]
    clear h hmk he HD
    generalize f S.x = r at *
    go_enter Tryz.func47, Tryz.ntmps47
    go_wp2_with fail
    refine HM.out.mono ?_
    clear hc
    rintro e w2 ⟨Z2, rfl, l2, m2⟩
    have L2 := hid (HL.out.mv l2 m2)
    have M2 := hid ((m2.zk bk).trans (Mv.set Z2 w2 bk 1 (.int .i64 r.2.2)))
    have hc := L2.out.c1
    have hf := L2.out.fz 1
    clear l2 m2 HM HL
    go_wp2_with fail
    go_ret
    exact ⟨Z2, rfl, L2.out.put _, M2.out⟩
  · have HD := hid (show doF S f = (S, 0) from if_neg he)
    have hne : (S.e == 0) = false := beq_eq_false_iff_ne.2 he
    have HN := hid he
    rw [HD.out]
    clear h hmk he HD
    go_enter Tryz.func47, Tryz.ntmps47
    go_wp2_with fail
    go_ret
    exact ⟨Z, rfl, HL.out, Mv.below (Below.refl _ _)⟩
set_option maxHeartbeats 1000000 in
theorem do_lock (h : LK w0 W Z sa bk S ex cx) (f : List ND → Rs) {p0 p1 p2 p3 p4 : Value} (hmk : S.e = 0 → Calls Tryz.prog 48 #[p0, p1, p2, p3, p4] W (LrS w0 W Z sa (f S.x))) :
    Calls Tryz.prog 47 #[.pointer (some ⟨bk, 0, none⟩), .func (.func 48) #[] #[p0, p1, p2, p3, p4]] W (KkS w0 W Z sa bk (doF S f) ex cx) := by
  have HL := hid h
  have hc := h.c1
  by_cases he : S.e = 0
  · have HM := hid (hmk he)
    have HD := hid (show doF S f = (⟨(f S.x).1, (f S.x).2.2⟩, (f S.x).2.1) from if_pos he)
    rw [he] at hc
    rw [HD.out]
    clear h hmk he HD
    generalize f S.x = r at *
    go_enter Tryz.func47, Tryz.ntmps47
    go_wp2_with fail
    refine HM.out.mono ?_
    clear hc
    rintro e w2 ⟨Z2, rfl, l2, m2⟩
    have L2 := hid (HL.out.mv l2 m2)
    have M2 := hid ((m2.zk bk).trans (Mv.set Z2 w2 bk 1 (.int .i64 r.2.2)))
    have hc := L2.out.c1
    have hf := L2.out.fz 1
    clear l2 m2 HM HL
    go_wp2_with fail
    go_ret
    exact ⟨Z2, rfl, L2.out.put _, M2.out⟩
  · have HD := hid (show doF S f = (S, 0) from if_neg he)
    have hne : (S.e == 0) = false := beq_eq_false_iff_ne.2 he
    have HN := hid he
    rw [HD.out]
    clear h hmk he HD
    go_enter Tryz.func47, Tryz.ntmps47
    go_wp2_with fail
    go_ret
    exact ⟨Z, rfl, HL.out, Mv.below (Below.refl _ _)⟩
set_option maxHeartbeats 1000000 in
theorem text1 (h : LK w0 W Z sa bk S ex cx) (hT : Tb w0.heap.size w0) (s : ByteArray) {b1 b2 : Nat} (h1 : W.cell? ⟨b1, 0, none⟩ = some (.pointer (some ⟨bk, 0, none⟩))) (h2 : W.cell? ⟨b2, 0, none⟩ = some (.string s)) (hz1 : ¬ Z b1) (hz2 : ¬ Z b2) :
    Calls Tryz.prog 126 #[.pointer (some ⟨b1, 0, none⟩), .pointer (some ⟨b2, 0, none⟩)] W (LrS w0 W Z sa (txF s S.x)) := by
  have hc := h.c0
  have hz := h.nz
  have HM := hid (l_text (h.la.ext (below_drew (Below.refl _ _))) hT s)
  have HV := hid (Mv.below (Z := Z) (below_drew (Below.refl W.heap.size W)))
  clear h hT
  unfold txF
  generalize mk S.x (txN s) = r at *
  go_enter Tryz.func126, Tryz.ntmps126
  go_upto_region 1 with fail
  go_region_held3 (fun V => V.cell? ⟨bk, 0, none⟩ = some (.pointer (some ⟨sa, 0, none⟩)) ∧ V.cell? ⟨b1, 0, none⟩ = some (.pointer (some ⟨bk, 0, none⟩)) ∧ V.cell? ⟨b2, 0, none⟩ = some (.string s)) (first | exact ⟨hc, h1, h2⟩ | exact ⟨M2.out.cell1 hc hz, M2.out.cell1 h1 hz1, M2.out.cell1 h2 hz2⟩ | go_keep) (first
    | (go_at_call 107; refine HM.out.mono ?_; rintro e w2 ⟨Z2, rfl, l2, m2⟩; have L2 := hid l2; have M2 := hid (HV.out.trans m2); clear l2 m2)
    | fail)
  all_goals
    go_wp2_with fail
    first | go_ret2 | go_ret
    exact ⟨Z2, rfl, L2.out, M2.out⟩
set_option maxHeartbeats 1000000 in
theorem k_text (h : LK w0 W Z sa bk S ex cx) (hT : Tb w0.heap.size w0) (s : ByteArray) :
    Calls Tryz.prog 81 #[.pointer (some ⟨bk, 0, none⟩), (.string s)] W (KkS w0 W Z sa bk (doF S (txF s)) ex cx) := by
  have HT := hid hT
  have e1 : (W.alloc (.cells #[.pointer (some ⟨bk, 0, none⟩)] 80)).heap.size = W.heap.size + 1 := by simp
  have b1 : Below W.heap.size W (W.alloc (.cells #[.pointer (some ⟨bk, 0, none⟩)] 80)) := (Below.refl _ _).alloc (Nat.le_refl _) _
  have b2 : Below W.heap.size W ((W.alloc (.cells #[.pointer (some ⟨bk, 0, none⟩)] 80)).alloc (.cells #[(.string s)] 9)) := b1.alloc (by simp) _
  have HP := hid (show LK w0 ((W.alloc (.cells #[.pointer (some ⟨bk, 0, none⟩)] 80)).alloc (.cells #[(.string s)] 9)) Z sa bk S ex cx ∧ ((W.alloc (.cells #[.pointer (some ⟨bk, 0, none⟩)] 80)).alloc (.cells #[(.string s)] 9)).cell? ⟨W.heap.size, 0, none⟩ = some (.pointer (some ⟨bk, 0, none⟩)) ∧ ((W.alloc (.cells #[.pointer (some ⟨bk, 0, none⟩)] 80)).alloc (.cells #[(.string s)] 9)).cell? ⟨W.heap.size + 1, 0, none⟩ = some (.string s) ∧ Below W.heap.size W ((W.alloc (.cells #[.pointer (some ⟨bk, 0, none⟩)] 80)).alloc (.cells #[(.string s)] 9)) from ⟨h.ext b2, by
      rw [cell_of_row _ W.heap.size 0 _ _ (0, 0) ((((Below.refl _ _).alloc (Nat.le_refl _) _).block W.heap.size (by simp)).trans (heap_alloc_new W _))]; rfl, by
      rw [← e1, cell_of_row _ _ 0 _ _ (0, 0) (heap_alloc_new _ _)]; rfl, b2⟩)
  have hn1 : ¬ Z W.heap.size := fun hz => by have := h.la.ar.zlt _ hz; omega
  have hn2 : ¬ Z (W.heap.size + 1) := fun hz => by have := h.la.ar.zlt _ hz; omega
  clear h hT b1 b2 e1
  go_enter Tryz.func81, Tryz.ntmps81
  go_upto_region 1 with fail
  try simp only [Nat.add_assoc, Nat.reduceAdd]
  generalize W.heap.size + 1 = b2 at *
  generalize hb1 : W.heap.size = b1 at *
  refine forget (R := fun V => LK w0 V Z sa bk S ex cx ∧ V.cell? ⟨b1, 0, none⟩ = some (.pointer (some ⟨bk, 0, none⟩)) ∧ V.cell? ⟨b2, 0, none⟩ = some (.string s) ∧ Below b1 W V) ?_ HP.out
  clear HP
  rintro V ⟨h, h1, h2, hb⟩
  have HD := hid (do_text h (txF s) (p0 := .pointer (some ⟨b1, 0, none⟩)) (p1 := .pointer (some ⟨b2, 0, none⟩)) fun _ => text1 h HT.out s h1 h2 hn1 hn2)
  rw [← hb1] at hb
  have HB := hid (Mv.below (Z := Zk Z bk) hb)
  have h1' := h1
  clear h h2 hb
  go_wp2_with fail
  refine HD.out.mono ?_
  rintro e w2 ⟨Z2, rfl, l2, m2⟩
  have L2 := hid l2; have M2 := hid (HB.out.trans m2)
  clear l2 m2
  go_wp2_with fail
  go_ret
  exact ⟨Z2, rfl, L2.out, M2.out⟩
set_option maxHeartbeats 1000000 in
theorem list1 (h : LK w0 W Z sa bk S ex cx) (hT : Tb w0.heap.size w0) {A : Option Addr} {n c : Nat} {l : List Int} (hl : SlA W 1 A n c (l.map (.int .i64))) (hi : ∀ i ∈ l, I64 i) {b1 b2 : Nat} (h1 : W.cell? ⟨b1, 0, none⟩ = some (.pointer (some ⟨bk, 0, none⟩))) (h2 : W.cell? ⟨b2, 0, none⟩ = some (.slice A n c)) (hz1 : ¬ Z b1) (hz2 : ¬ Z b2) :
    Calls Tryz.prog 128 #[.pointer (some ⟨b1, 0, none⟩), .pointer (some ⟨b2, 0, none⟩)] W (LrS w0 W Z sa (liF l S.x)) := by
  have hc := h.c0
  have hz := h.nz
  have HM := hid (l_list (h.la.ext (below_drew (Below.refl _ _))) hT hl.drew hi)
  have HV := hid (Mv.below (Z := Z) (below_drew (Below.refl W.heap.size W)))
  clear h hT hl hi
  unfold liF
  generalize mk S.x (ndN 3 l) = r at *
  go_enter Tryz.func128, Tryz.ntmps128
  go_upto_region 1 with fail
  go_region_held3 (fun V => V.cell? ⟨bk, 0, none⟩ = some (.pointer (some ⟨sa, 0, none⟩)) ∧ V.cell? ⟨b1, 0, none⟩ = some (.pointer (some ⟨bk, 0, none⟩)) ∧ V.cell? ⟨b2, 0, none⟩ = some (.slice A n c)) (first | exact ⟨hc, h1, h2⟩ | exact ⟨M2.out.cell1 hc hz, M2.out.cell1 h1 hz1, M2.out.cell1 h2 hz2⟩ | go_keep) (first
    | (go_at_call 129; refine HM.out.mono ?_; rintro e w2 ⟨Z2, rfl, l2, m2⟩; have L2 := hid l2; have M2 := hid (HV.out.trans m2); clear l2 m2)
    | fail)
  all_goals
    go_wp2_with fail
    first | go_ret2 | go_ret
    exact ⟨Z2, rfl, L2.out, M2.out⟩
set_option maxHeartbeats 1000000 in
theorem k_list (h : LK w0 W Z sa bk S ex cx) (hT : Tb w0.heap.size w0) {A : Option Addr} {n c : Nat} {l : List Int} (hl : SlA W 1 A n c (l.map (.int .i64))) (hi : ∀ i ∈ l, I64 i) :
    Calls Tryz.prog 83 #[.pointer (some ⟨bk, 0, none⟩), (.slice A n c)] W (KkS w0 W Z sa bk (doF S (liF l)) ex cx) := by
  have HT := hid hT; have HI := hid hi
  have e1 : (W.alloc (.cells #[.pointer (some ⟨bk, 0, none⟩)] 80)).heap.size = W.heap.size + 1 := by simp
  have b1 : Below W.heap.size W (W.alloc (.cells #[.pointer (some ⟨bk, 0, none⟩)] 80)) := (Below.refl _ _).alloc (Nat.le_refl _) _
  have b2 : Below W.heap.size W ((W.alloc (.cells #[.pointer (some ⟨bk, 0, none⟩)] 80)).alloc (.cells #[(.slice A n c)] 33)) := b1.alloc (by simp) _
  have HP := hid (show LK w0 ((W.alloc (.cells #[.pointer (some ⟨bk, 0, none⟩)] 80)).alloc (.cells #[(.slice A n c)] 33)) Z sa bk S ex cx ∧ ((W.alloc (.cells #[.pointer (some ⟨bk, 0, none⟩)] 80)).alloc (.cells #[(.slice A n c)] 33)).cell? ⟨W.heap.size, 0, none⟩ = some (.pointer (some ⟨bk, 0, none⟩)) ∧ ((W.alloc (.cells #[.pointer (some ⟨bk, 0, none⟩)] 80)).alloc (.cells #[(.slice A n c)] 33)).cell? ⟨W.heap.size + 1, 0, none⟩ = some (.slice A n c) ∧ Below W.heap.size W ((W.alloc (.cells #[.pointer (some ⟨bk, 0, none⟩)] 80)).alloc (.cells #[(.slice A n c)] 33)) ∧ SlA ((W.alloc (.cells #[.pointer (some ⟨bk, 0, none⟩)] 80)).alloc (.cells #[(.slice A n c)] 33)) 1 A n c (l.map (.int .i64)) from ⟨h.ext b2, by
      rw [cell_of_row _ W.heap.size 0 _ _ (0, 0) ((((Below.refl _ _).alloc (Nat.le_refl _) _).block W.heap.size (by simp)).trans (heap_alloc_new W _))]; rfl, by
      rw [← e1, cell_of_row _ _ 0 _ _ (0, 0) (heap_alloc_new _ _)]; rfl, b2, hl.ext b2⟩)
  have hn1 : ¬ Z W.heap.size := fun hz => by have := h.la.ar.zlt _ hz; omega
  have hn2 : ¬ Z (W.heap.size + 1) := fun hz => by have := h.la.ar.zlt _ hz; omega
  clear h hT b1 b2 e1 hl hi
  go_enter Tryz.func83, Tryz.ntmps83
  go_upto_region 1 with fail
  try simp only [Nat.add_assoc, Nat.reduceAdd]
  generalize W.heap.size + 1 = b2 at *
  generalize hb1 : W.heap.size = b1 at *
  refine forget (R := fun V => LK w0 V Z sa bk S ex cx ∧ V.cell? ⟨b1, 0, none⟩ = some (.pointer (some ⟨bk, 0, none⟩)) ∧ V.cell? ⟨b2, 0, none⟩ = some (.slice A n c) ∧ Below b1 W V ∧ SlA V 1 A n c (l.map (.int .i64))) ?_ HP.out
  clear HP
  rintro V ⟨h, h1, h2, hb, hl⟩
  have HD := hid (do_list h (liF l) (p0 := .pointer (some ⟨b1, 0, none⟩)) (p1 := .pointer (some ⟨b2, 0, none⟩)) fun _ => list1 h HT.out hl HI.out h1 h2 hn1 hn2)
  rw [← hb1] at hb
  have HB := hid (Mv.below (Z := Zk Z bk) hb)
  have h1' := h1
  clear h h2 hb
  go_wp2_with fail
  refine HD.out.mono ?_
  rintro e w2 ⟨Z2, rfl, l2, m2⟩
  have L2 := hid l2; have M2 := hid (HB.out.trans m2)
  clear l2 m2
  go_wp2_with fail
  go_ret
  exact ⟨Z2, rfl, L2.out, M2.out⟩
end
end Go.Proofs.YtfmkniakfgpgjaaGreatDoor

/- appends in a region that draws its order, whichever order: words of memory, of no program. -/
namespace Go.KK
open Go.RowKit
set_option linter.unusedVariables false
set_option linter.unusedSimpArgs false

/-- What stands in a block. -/
def HasO (o : Obj) (b : Nat) (W : World) : Prop := W.heap[b]? = some o
section
variable {o o' : Obj} {b g B : Nat} {W V a : World}
theorem HasO.new (o : Obj) (W : World) : HasO o W.heap.size (W.alloc o) := heap_alloc_new W o
theorem HasO.new' (h : b = W.heap.size) : HasO o b (W.alloc o) := by subst h; exact heap_alloc_new W o
theorem HasO.lt (h : HasO o b W) : b < W.heap.size := (Array.getElem?_eq_some_iff.1 h).1
theorem HasO.bel (h : HasO o b W) (hb : Below W.heap.size W V) : HasO o b V := (hb.block b h.lt).trans h
theorem HasO.alloc (h : HasO o b W) : HasO o b (W.alloc o') := h.bel ((Below.refl _ _).alloc (Nat.le_refl _) o')
theorem HasO.drew (h : HasO o b W) : HasO o b W.drew := h
theorem HasO.grown (h : HasO o b W) (hg : W.grownBy V (some g)) (hn : b ≠ g) : HasO o b V := (hg.block b h.lt fun e => hn (Option.some.inj e)).trans h
theorem below_al (h : Below a.heap.size a W) : Below a.heap.size a (W.alloc o) := h.alloc h.size o
theorem size_al : (W.alloc o).heap.size = W.heap.size + 1 := by simp
theorem size_dr : W.drew.heap.size = W.heap.size := rfl
/-- A literal row, read and owned. -/
theorem HasO.own1 {T : TypeId} {v : Value} (h : HasO (.cells #[v] T (0, 0)) b W) (hB : B ≤ b) : W.ownsRow B T 1 (.slice (some ⟨b, 0, none⟩) 1 1) 1 [v] :=
  ⟨by simp, .inr ⟨b, 1, _, rfl, hB, h, Nat.le_refl _, by decide, rfl, by simp⟩⟩
theorem HasO.sla {T : TypeId} {n : Nat} {vs : Array Value} (h : HasO (.cells vs T (0, 0)) b W) (hn : vs.size = n) (hm : vs.size ≤ maxLen) : SlA W 1 (some ⟨b, 0, none⟩) n n vs.toList := by
  subst hn
  refine ⟨Nat.le_refl _, hm, by simp, fun j u hj => ⟨b, 0, rfl, ?_⟩⟩
  rw [cell_of_row W b (0 + j) _ _ (0, 0) h, Nat.zero_add]
  simpa using hj
/-- A row that is not empty, in its block. -/
theorem own_block1 {T : TypeId} {n : Nat} {v : Value} {xs : List Value} (h : W.ownsRow B T 1 v n xs) (hn : 0 < n) : ∃ g c, v = .slice (some ⟨g, 0, none⟩) n c ∧ B ≤ g ∧ g < W.heap.size := by
  rcases h.2 with ⟨_, rfl⟩ | ⟨g, cap, cur, rfl, h1, h2, _⟩
  · omega
  · exact ⟨g, cap, rfl, h1, (Array.getElem?_eq_some_iff.1 h2).1⟩
end
section
variable {P : Program} (w : World)
end
section
variable {P : Program} (w : World)
end
end Go.KK

