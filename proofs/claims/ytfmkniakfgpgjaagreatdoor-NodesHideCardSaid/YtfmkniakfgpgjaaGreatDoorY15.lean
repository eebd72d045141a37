import Derived.Test.YtfmkniakfgpgjaaGreatDoorY14
import Derived.Test.YtfmkniakfgpgjaaGreatDoorY08
import Derived.Test.YtfmkniakfgpgjaaGreatDoorY12
import Derived.Laws.ResultCell
import Derived.Laws.Rows
import Derived.Test.YtfmkniakfgpgjaaGreatDoorY13
/- the document's Inner, Next, Export. -/
namespace Go.Proofs.YtfmkniakfgpgjaaGreatDoor
open Go.RowKit Go.KK Go.Shelf Go.Maps
set_option linter.unusedVariables false
set_option linter.unusedSimpArgs false

section
variable {w0 W : World} {Z : Nat → Prop} {sa : Nat} {xs : List ND}
set_option maxHeartbeats 4000000 in
set_option maxRecDepth 100000 in
theorem q_nx (h : LQ w0 W Z sa xs) {i c x : Int} (hi : I64 i) (hc : I64 c) (hx : I64 x) {A : Option Addr} {n cc : Nat} {l : List Int} (hl : SlM W Z A n cc l) (hn : n ≤ 100000) (hli : ∀ i ∈ l, I64 i) :
    Calls Tryz.prog 36 #[.pointer (some ⟨sa, 0, none⟩), .int .i64 i, .int .i64 c, .int .i64 x, .slice A n cc] W (EpQ w0 W Z sa (nxF xs i c x l)) := by
  have HW := hid h.bl.size
  have H0 := hid (h.alloc (.cells #[.int .i64 0, .int .i64 0, .int .i64 0, .int .i64 0, .int .i64 0, .int .i64 0, .int .i64 0, .int .i64 0, .int .i64 0, .int .i64 0, .int .i64 0] 29))
  have HM0 := hid (Mv.alloc Z W (.cells #[.int .i64 0, .int .i64 0, .int .i64 0, .int .i64 0, .int .i64 0, .int .i64 0, .int .i64 0, .int .i64 0, .int .i64 0, .int .i64 0, .int .i64 0] 29))
  have HE0 := hid (heap_alloc_new W (.cells #[.int .i64 0, .int .i64 0, .int .i64 0, .int .i64 0, .int .i64 0, .int .i64 0, .int .i64 0, .int .i64 0, .int .i64 0, .int .i64 0, .int .i64 0] 29))
  have HL0 := hid (hl.mv HM0.out)
  have HJ := hid (q_jn H0.out hi hc hx)
  have HZ0 := hid (show ¬ Z W.heap.size from fun hz => by have := h.ar.zlt _ hz; omega)
  clear h hl
  go_enter Tryz.func36, Tryz.ntmps36
  go_wp2_with fail
  refine HJ.out.mono ?_
  rintro e w1 ⟨Z1, rfl, l1, m1⟩
  have L1 := hid l1; have M1 := hid m1
  have HE1 := hid (Mv.cellE HE0.out m1 HZ0.out)
  have HZ1 := hid (show ¬ Z1 W.heap.size from fun hz => (m1.n _ hz).elim HZ0.out fun h => by simp at h; omega)
  have HL1 := hid (HL0.out.mv m1)
  clear l1 m1 HJ HE0 H0 HL0
  by_cases hj : (jnF xs i c x).2.2 = 0
  rotate_left
  · have hne : ((jnF xs i c x).2.2 != 0) = true := bne_iff_ne.2 hj
    have HQ := hid (show nxF xs i c x l = ((jnF xs i c x).1, epZ, (jnF xs i c x).2.2) by unfold nxF; rw [if_neg hj])
    have HZ := HZ1
    have r0 : w1.cell? ⟨W.heap.size, 0, none⟩ = some (.int .i64 0) := by rw [cell_of_row w1 W.heap.size 0 _ _ (0, 0) HE1.out]; rfl
    have f0 : w1.frozen? ⟨W.heap.size, 0, none⟩ = false := frozen_of_row w1 W.heap.size 0 _ _ HE1.out
    have r1 : w1.cell? ⟨W.heap.size, 1, none⟩ = some (.int .i64 0) := by rw [cell_of_row w1 W.heap.size 1 _ _ (0, 0) HE1.out]; rfl
    have f1 : w1.frozen? ⟨W.heap.size, 1, none⟩ = false := frozen_of_row w1 W.heap.size 1 _ _ HE1.out
    have r2 : w1.cell? ⟨W.heap.size, 2, none⟩ = some (.int .i64 0) := by rw [cell_of_row w1 W.heap.size 2 _ _ (0, 0) HE1.out]; rfl
    have f2 : w1.frozen? ⟨W.heap.size, 2, none⟩ = false := frozen_of_row w1 W.heap.size 2 _ _ HE1.out
    have r3 : w1.cell? ⟨W.heap.size, 3, none⟩ = some (.int .i64 0) := by rw [cell_of_row w1 W.heap.size 3 _ _ (0, 0) HE1.out]; rfl
    have f3 : w1.frozen? ⟨W.heap.size, 3, none⟩ = false := frozen_of_row w1 W.heap.size 3 _ _ HE1.out
    have r4 : w1.cell? ⟨W.heap.size, 4, none⟩ = some (.int .i64 0) := by rw [cell_of_row w1 W.heap.size 4 _ _ (0, 0) HE1.out]; rfl
    have f4 : w1.frozen? ⟨W.heap.size, 4, none⟩ = false := frozen_of_row w1 W.heap.size 4 _ _ HE1.out
    have r5 : w1.cell? ⟨W.heap.size, 5, none⟩ = some (.int .i64 0) := by rw [cell_of_row w1 W.heap.size 5 _ _ (0, 0) HE1.out]; rfl
    have f5 : w1.frozen? ⟨W.heap.size, 5, none⟩ = false := frozen_of_row w1 W.heap.size 5 _ _ HE1.out
    have r6 : w1.cell? ⟨W.heap.size, 6, none⟩ = some (.int .i64 0) := by rw [cell_of_row w1 W.heap.size 6 _ _ (0, 0) HE1.out]; rfl
    have f6 : w1.frozen? ⟨W.heap.size, 6, none⟩ = false := frozen_of_row w1 W.heap.size 6 _ _ HE1.out
    have r7 : w1.cell? ⟨W.heap.size, 7, none⟩ = some (.int .i64 0) := by rw [cell_of_row w1 W.heap.size 7 _ _ (0, 0) HE1.out]; rfl
    have f7 : w1.frozen? ⟨W.heap.size, 7, none⟩ = false := frozen_of_row w1 W.heap.size 7 _ _ HE1.out
    have r8 : w1.cell? ⟨W.heap.size, 8, none⟩ = some (.int .i64 0) := by rw [cell_of_row w1 W.heap.size 8 _ _ (0, 0) HE1.out]; rfl
    have f8 : w1.frozen? ⟨W.heap.size, 8, none⟩ = false := frozen_of_row w1 W.heap.size 8 _ _ HE1.out
    have r9 : w1.cell? ⟨W.heap.size, 9, none⟩ = some (.int .i64 0) := by rw [cell_of_row w1 W.heap.size 9 _ _ (0, 0) HE1.out]; rfl
    have f9 : w1.frozen? ⟨W.heap.size, 9, none⟩ = false := frozen_of_row w1 W.heap.size 9 _ _ HE1.out
    have r10 : w1.cell? ⟨W.heap.size, 10, none⟩ = some (.int .i64 0) := by rw [cell_of_row w1 W.heap.size 10 _ _ (0, 0) HE1.out]; rfl
    have f10 : w1.frozen? ⟨W.heap.size, 10, none⟩ = false := frozen_of_row w1 W.heap.size 10 _ _ HE1.out
    clear hj
    generalize jnF xs i c x = r at *
    obtain ⟨Y, jj, er⟩ := r
    go_wp2_with fail
    refine bodyPost_ret (v := .tuple #[.agg #[.int .i64 0, .int .i64 0, .int .i64 0, .int .i64 0, .int .i64 0, .int .i64 0, .int .i64 0, .int .i64 0, .int .i64 0, .int .i64 0, .int .i64 0], .int .i64 er]) ?_ rfl (show EpQ _ _ _ _ _ _ _ from ⟨Z1, by rw [HQ.out]; rfl, ?_⟩)
    · rw [results_cell_tmp rfl]
      go_simp
    · rw [HQ.out]
      iterate 11 refine lq_set ?_ HZ.out (Nat.le_refl _) HW.out
      exact ⟨L1.out, HM0.out.trans M1.out⟩
  · have hji : I64 (jnF xs i c x).2.1 := by
      have a := has_iff.1 ((sb_jn i c x).has xs hj)
      have b := L1.out.ar.ok.len
      try dsimp only at a b
      exact ⟨by omega, by omega⟩
    have HP := hid (q_psk _ L1.out HL1.out hn hli)
    by_cases hp : (pskF (jnF xs i c x).1 l).2.2 = 0
    rotate_left
    · have hne : ((pskF (jnF xs i c x).1 l).2.2 != 0) = true := bne_iff_ne.2 hp
      have HQ := hid (show nxF xs i c x l = ((pskF (jnF xs i c x).1 l).1, epZ, (pskF (jnF xs i c x).1 l).2.2) by unfold nxF; rw [if_pos hj, if_neg hp])
      rw [hj]
      clear hj hp
      generalize pskF (jnF xs i c x).1 l = r at *
      obtain ⟨Y, pp, er⟩ := r
      go_wp2_with fail
      refine HP.out.mono ?_
      rintro e w2 ⟨Z2, rfl, l2, m2⟩
      have HE2 := hid (Mv.cellE HE1.out m2 HZ1.out)
      have HZ := hid (show ¬ Z2 W.heap.size from fun hz => (m2.n _ hz).elim HZ1.out fun h => by have := (Array.getElem?_eq_some_iff.1 HE1.out).1; omega)
      have HX := hid (And.intro l2 ((HM0.out.trans M1.out).trans m2))
      clear l2 m2 HP
      have r0 : w2.cell? ⟨W.heap.size, 0, none⟩ = some (.int .i64 0) := by rw [cell_of_row w2 W.heap.size 0 _ _ (0, 0) HE2.out]; rfl
      have f0 : w2.frozen? ⟨W.heap.size, 0, none⟩ = false := frozen_of_row w2 W.heap.size 0 _ _ HE2.out
      have r1 : w2.cell? ⟨W.heap.size, 1, none⟩ = some (.int .i64 0) := by rw [cell_of_row w2 W.heap.size 1 _ _ (0, 0) HE2.out]; rfl
      have f1 : w2.frozen? ⟨W.heap.size, 1, none⟩ = false := frozen_of_row w2 W.heap.size 1 _ _ HE2.out
      have r2 : w2.cell? ⟨W.heap.size, 2, none⟩ = some (.int .i64 0) := by rw [cell_of_row w2 W.heap.size 2 _ _ (0, 0) HE2.out]; rfl
      have f2 : w2.frozen? ⟨W.heap.size, 2, none⟩ = false := frozen_of_row w2 W.heap.size 2 _ _ HE2.out
      have r3 : w2.cell? ⟨W.heap.size, 3, none⟩ = some (.int .i64 0) := by rw [cell_of_row w2 W.heap.size 3 _ _ (0, 0) HE2.out]; rfl
      have f3 : w2.frozen? ⟨W.heap.size, 3, none⟩ = false := frozen_of_row w2 W.heap.size 3 _ _ HE2.out
      have r4 : w2.cell? ⟨W.heap.size, 4, none⟩ = some (.int .i64 0) := by rw [cell_of_row w2 W.heap.size 4 _ _ (0, 0) HE2.out]; rfl
      have f4 : w2.frozen? ⟨W.heap.size, 4, none⟩ = false := frozen_of_row w2 W.heap.size 4 _ _ HE2.out
      have r5 : w2.cell? ⟨W.heap.size, 5, none⟩ = some (.int .i64 0) := by rw [cell_of_row w2 W.heap.size 5 _ _ (0, 0) HE2.out]; rfl
      have f5 : w2.frozen? ⟨W.heap.size, 5, none⟩ = false := frozen_of_row w2 W.heap.size 5 _ _ HE2.out
      have r6 : w2.cell? ⟨W.heap.size, 6, none⟩ = some (.int .i64 0) := by rw [cell_of_row w2 W.heap.size 6 _ _ (0, 0) HE2.out]; rfl
      have f6 : w2.frozen? ⟨W.heap.size, 6, none⟩ = false := frozen_of_row w2 W.heap.size 6 _ _ HE2.out
      have r7 : w2.cell? ⟨W.heap.size, 7, none⟩ = some (.int .i64 0) := by rw [cell_of_row w2 W.heap.size 7 _ _ (0, 0) HE2.out]; rfl
      have f7 : w2.frozen? ⟨W.heap.size, 7, none⟩ = false := frozen_of_row w2 W.heap.size 7 _ _ HE2.out
      have r8 : w2.cell? ⟨W.heap.size, 8, none⟩ = some (.int .i64 0) := by rw [cell_of_row w2 W.heap.size 8 _ _ (0, 0) HE2.out]; rfl
      have f8 : w2.frozen? ⟨W.heap.size, 8, none⟩ = false := frozen_of_row w2 W.heap.size 8 _ _ HE2.out
      have r9 : w2.cell? ⟨W.heap.size, 9, none⟩ = some (.int .i64 0) := by rw [cell_of_row w2 W.heap.size 9 _ _ (0, 0) HE2.out]; rfl
      have f9 : w2.frozen? ⟨W.heap.size, 9, none⟩ = false := frozen_of_row w2 W.heap.size 9 _ _ HE2.out
      have r10 : w2.cell? ⟨W.heap.size, 10, none⟩ = some (.int .i64 0) := by rw [cell_of_row w2 W.heap.size 10 _ _ (0, 0) HE2.out]; rfl
      have f10 : w2.frozen? ⟨W.heap.size, 10, none⟩ = false := frozen_of_row w2 W.heap.size 10 _ _ HE2.out
      go_wp2_with fail
      refine bodyPost_ret (v := .tuple #[.agg #[.int .i64 0, .int .i64 0, .int .i64 0, .int .i64 0, .int .i64 0, .int .i64 0, .int .i64 0, .int .i64 0, .int .i64 0, .int .i64 0, .int .i64 0], .int .i64 er]) ?_ rfl (show EpQ _ _ _ _ _ _ _ from ⟨Z2, by rw [HQ.out]; rfl, ?_⟩)
      · rw [results_cell_tmp rfl]
        go_simp
      · rw [HQ.out]
        iterate 11 refine lq_set ?_ HZ.out (Nat.le_refl _) HW.out
        exact HX.out
    · have HQ := hid (show nxF xs i c x l = begF (pskF (jnF xs i c x).1 l).1 (jnF xs i c x).2.1 (pskF (jnF xs i c x).1 l).2.1 x by unfold nxF; rw [if_pos hj, if_pos hp])
      have hpi : (∀ U Zq, LQ w0 U Zq sa (pskF (jnF xs i c x).1 l).1 → I64 (pskF (jnF xs i c x).1 l).2.1) := fun U Zq hla => by
        have a := has_iff.1 ((sb_psk l).has (jnF xs i c x).1 hp)
        have b := hla.ar.ok.len
        try dsimp only at a b
        exact ⟨by omega, by omega⟩
      have HPI := hid hpi
      rw [hj]
      unfold LrQ at HP
      rw [hp] at HP
      clear hj hp hpi
      generalize pskF (jnF xs i c x).1 l = r at *
      obtain ⟨Y, pp, er⟩ := r
      generalize (jnF xs i c x).2.1 = jj at *
      obtain ⟨ep, hep⟩ : ∃ ep, ep = begF Y jj pp x := ⟨_, rfl⟩
      have h11 : ep.2.1.length = 11 := by rw [hep]; exact beg_len _ _ _ _
      have HEP := hid hep
      have HQ2 := hid (show nxF xs i c x l = ep by rw [HQ.out, hep])
      clear hep HQ
      obtain ⟨Ye, el, ee⟩ := ep
      obtain ⟨e0, e1, e2, e3, e4, e5, e6, e7, e8, e9, e10, rfl⟩ := len11 h11
      clear h11
      go_wp2_with fail
      refine HP.out.mono ?_
      rintro e w2 ⟨Z2, rfl, l2, m2⟩
      have HE2 := hid (Mv.cellE HE1.out m2 HZ1.out)
      have HZ2 := hid (show ¬ Z2 W.heap.size from fun hz => (m2.n _ hz).elim HZ1.out fun h => by have := (Array.getElem?_eq_some_iff.1 HE1.out).1; omega)
      have HBG := hid (q_beg l2 hji (HPI.out _ _ l2) hx)
      rw [← HEP.out] at HBG
      have M2 := hid ((HM0.out.trans M1.out).trans m2)
      clear l2 m2 HP
      go_wp2_with fail
      refine HBG.out.mono ?_
      rintro e w3 ⟨Z3, rfl, l3, m3⟩
      have HE3 := hid (Mv.cellE HE2.out m3 HZ2.out)
      have HZ := hid (show ¬ Z3 W.heap.size from fun hz => (m3.n _ hz).elim HZ2.out fun h => by have := (Array.getElem?_eq_some_iff.1 HE2.out).1; omega)
      have HX := hid (And.intro l3 (M2.out.trans m3))
      clear l3 m3 HBG
      have r0 : w3.cell? ⟨W.heap.size, 0, none⟩ = some (.int .i64 0) := by rw [cell_of_row w3 W.heap.size 0 _ _ (0, 0) HE3.out]; rfl
      have f0 : w3.frozen? ⟨W.heap.size, 0, none⟩ = false := frozen_of_row w3 W.heap.size 0 _ _ HE3.out
      have r1 : w3.cell? ⟨W.heap.size, 1, none⟩ = some (.int .i64 0) := by rw [cell_of_row w3 W.heap.size 1 _ _ (0, 0) HE3.out]; rfl
      have f1 : w3.frozen? ⟨W.heap.size, 1, none⟩ = false := frozen_of_row w3 W.heap.size 1 _ _ HE3.out
      have r2 : w3.cell? ⟨W.heap.size, 2, none⟩ = some (.int .i64 0) := by rw [cell_of_row w3 W.heap.size 2 _ _ (0, 0) HE3.out]; rfl
      have f2 : w3.frozen? ⟨W.heap.size, 2, none⟩ = false := frozen_of_row w3 W.heap.size 2 _ _ HE3.out
      have r3 : w3.cell? ⟨W.heap.size, 3, none⟩ = some (.int .i64 0) := by rw [cell_of_row w3 W.heap.size 3 _ _ (0, 0) HE3.out]; rfl
      have f3 : w3.frozen? ⟨W.heap.size, 3, none⟩ = false := frozen_of_row w3 W.heap.size 3 _ _ HE3.out
      have r4 : w3.cell? ⟨W.heap.size, 4, none⟩ = some (.int .i64 0) := by rw [cell_of_row w3 W.heap.size 4 _ _ (0, 0) HE3.out]; rfl
      have f4 : w3.frozen? ⟨W.heap.size, 4, none⟩ = false := frozen_of_row w3 W.heap.size 4 _ _ HE3.out
      have r5 : w3.cell? ⟨W.heap.size, 5, none⟩ = some (.int .i64 0) := by rw [cell_of_row w3 W.heap.size 5 _ _ (0, 0) HE3.out]; rfl
      have f5 : w3.frozen? ⟨W.heap.size, 5, none⟩ = false := frozen_of_row w3 W.heap.size 5 _ _ HE3.out
      have r6 : w3.cell? ⟨W.heap.size, 6, none⟩ = some (.int .i64 0) := by rw [cell_of_row w3 W.heap.size 6 _ _ (0, 0) HE3.out]; rfl
      have f6 : w3.frozen? ⟨W.heap.size, 6, none⟩ = false := frozen_of_row w3 W.heap.size 6 _ _ HE3.out
      have r7 : w3.cell? ⟨W.heap.size, 7, none⟩ = some (.int .i64 0) := by rw [cell_of_row w3 W.heap.size 7 _ _ (0, 0) HE3.out]; rfl
      have f7 : w3.frozen? ⟨W.heap.size, 7, none⟩ = false := frozen_of_row w3 W.heap.size 7 _ _ HE3.out
      have r8 : w3.cell? ⟨W.heap.size, 8, none⟩ = some (.int .i64 0) := by rw [cell_of_row w3 W.heap.size 8 _ _ (0, 0) HE3.out]; rfl
      have f8 : w3.frozen? ⟨W.heap.size, 8, none⟩ = false := frozen_of_row w3 W.heap.size 8 _ _ HE3.out
      have r9 : w3.cell? ⟨W.heap.size, 9, none⟩ = some (.int .i64 0) := by rw [cell_of_row w3 W.heap.size 9 _ _ (0, 0) HE3.out]; rfl
      have f9 : w3.frozen? ⟨W.heap.size, 9, none⟩ = false := frozen_of_row w3 W.heap.size 9 _ _ HE3.out
      have r10 : w3.cell? ⟨W.heap.size, 10, none⟩ = some (.int .i64 0) := by rw [cell_of_row w3 W.heap.size 10 _ _ (0, 0) HE3.out]; rfl
      have f10 : w3.frozen? ⟨W.heap.size, 10, none⟩ = false := frozen_of_row w3 W.heap.size 10 _ _ HE3.out
      unfold epV
      go_wp2_with fail
      refine bodyPost_ret (v := .tuple #[.agg #[.int .i64 e0, .int .i64 e1, .int .i64 e2, .int .i64 e3, .int .i64 e4, .int .i64 e5, .int .i64 e6, .int .i64 e7, .int .i64 e8, .int .i64 e9, .int .i64 e10], .int .i64 ee]) ?_ rfl (show EpQ _ _ _ _ _ _ _ from ⟨Z3, by rw [HQ2.out]; rfl, ?_⟩)
      · rw [results_cell_tmp rfl]
        go_simp
      · rw [HQ2.out]
        iterate 11 refine lq_set ?_ HZ.out (Nat.le_refl _) HW.out
        exact HX.out
end
end Go.Proofs.YtfmkniakfgpgjaaGreatDoor

/- two rows of eleven cells stored: the end of layer 22's two. -/
namespace Go.Proofs.YtfmkniakfgpgjaaGreatDoor
open Go.RowKit Go.KK Go.Shelf Go.Maps
set_option linter.unusedVariables false
set_option linter.unusedSimpArgs false
theorem turn_set {F : Nat → Prop} {U V : World} {b o : Nat} {v : Value} (h : Turn F U V) (hb : F b) : Turn F U (V.setCell ⟨b, o, none⟩ v) := h.trans (Turn.setCell (F := F) v (.inl hb)) fun k hk => .inl hk
theorem turn_drew {F : Nat → Prop} {U V : World} (h : Turn F U V) : Turn F U V.drew := h.trans (F' := fun _ => False) ⟨rfl, rfl, rfl, Nat.le_refl _, fun _ _ _ => rfl⟩ fun k hk => hk.elim
def set11 (W : World) (b : Nat) (v0 v1 v2 v3 v4 v5 v6 v7 v8 v9 v10 : Value) : World := (((((((((((W.setCell ⟨b, 0, none⟩ v0).setCell ⟨b, 1, none⟩ v1).setCell ⟨b, 2, none⟩ v2).setCell ⟨b, 3, none⟩ v3).setCell ⟨b, 4, none⟩ v4).setCell ⟨b, 5, none⟩ v5).setCell ⟨b, 6, none⟩ v6).setCell ⟨b, 7, none⟩ v7).setCell ⟨b, 8, none⟩ v8).setCell ⟨b, 9, none⟩ v9).setCell ⟨b, 10, none⟩ v10)
theorem set11_at {W : World} {b : Nat} {T : TypeId} {z0 z1 z2 z3 z4 z5 z6 z7 z8 z9 z10 v0 v1 v2 v3 v4 v5 v6 v7 v8 v9 v10 : Value} (h : W.heap[b]? = some (.cells #[z0, z1, z2, z3, z4, z5, z6, z7, z8, z9, z10] T (0, 0))) : (set11 W b v0 v1 v2 v3 v4 v5 v6 v7 v8 v9 v10).heap[b]? = some (.cells #[v0, v1, v2, v3, v4, v5, v6, v7, v8, v9, v10] T (0, 0)) := by
  unfold set11
  have p0 : (W.setCell ⟨b, 0, none⟩ v0).heap[b]? = some (.cells #[v0, z1, z2, z3, z4, z5, z6, z7, z8, z9, z10] T (0, 0)) := heap_setCell_same _ b 0 _ _ v0 h
  have p1 : ((W.setCell ⟨b, 0, none⟩ v0).setCell ⟨b, 1, none⟩ v1).heap[b]? = some (.cells #[v0, v1, z2, z3, z4, z5, z6, z7, z8, z9, z10] T (0, 0)) := heap_setCell_same _ b 1 _ _ v1 p0
  have p2 : (((W.setCell ⟨b, 0, none⟩ v0).setCell ⟨b, 1, none⟩ v1).setCell ⟨b, 2, none⟩ v2).heap[b]? = some (.cells #[v0, v1, v2, z3, z4, z5, z6, z7, z8, z9, z10] T (0, 0)) := heap_setCell_same _ b 2 _ _ v2 p1
  have p3 : ((((W.setCell ⟨b, 0, none⟩ v0).setCell ⟨b, 1, none⟩ v1).setCell ⟨b, 2, none⟩ v2).setCell ⟨b, 3, none⟩ v3).heap[b]? = some (.cells #[v0, v1, v2, v3, z4, z5, z6, z7, z8, z9, z10] T (0, 0)) := heap_setCell_same _ b 3 _ _ v3 p2
  have p4 : (((((W.setCell ⟨b, 0, none⟩ v0).setCell ⟨b, 1, none⟩ v1).setCell ⟨b, 2, none⟩ v2).setCell ⟨b, 3, none⟩ v3).setCell ⟨b, 4, none⟩ v4).heap[b]? = some (.cells #[v0, v1, v2, v3, v4, z5, z6, z7, z8, z9, z10] T (0, 0)) := heap_setCell_same _ b 4 _ _ v4 p3
  have p5 : ((((((W.setCell ⟨b, 0, none⟩ v0).setCell ⟨b, 1, none⟩ v1).setCell ⟨b, 2, none⟩ v2).setCell ⟨b, 3, none⟩ v3).setCell ⟨b, 4, none⟩ v4).setCell ⟨b, 5, none⟩ v5).heap[b]? = some (.cells #[v0, v1, v2, v3, v4, v5, z6, z7, z8, z9, z10] T (0, 0)) := heap_setCell_same _ b 5 _ _ v5 p4
  have p6 : (((((((W.setCell ⟨b, 0, none⟩ v0).setCell ⟨b, 1, none⟩ v1).setCell ⟨b, 2, none⟩ v2).setCell ⟨b, 3, none⟩ v3).setCell ⟨b, 4, none⟩ v4).setCell ⟨b, 5, none⟩ v5).setCell ⟨b, 6, none⟩ v6).heap[b]? = some (.cells #[v0, v1, v2, v3, v4, v5, v6, z7, z8, z9, z10] T (0, 0)) := heap_setCell_same _ b 6 _ _ v6 p5
  have p7 : ((((((((W.setCell ⟨b, 0, none⟩ v0).setCell ⟨b, 1, none⟩ v1).setCell ⟨b, 2, none⟩ v2).setCell ⟨b, 3, none⟩ v3).setCell ⟨b, 4, none⟩ v4).setCell ⟨b, 5, none⟩ v5).setCell ⟨b, 6, none⟩ v6).setCell ⟨b, 7, none⟩ v7).heap[b]? = some (.cells #[v0, v1, v2, v3, v4, v5, v6, v7, z8, z9, z10] T (0, 0)) := heap_setCell_same _ b 7 _ _ v7 p6
  have p8 : (((((((((W.setCell ⟨b, 0, none⟩ v0).setCell ⟨b, 1, none⟩ v1).setCell ⟨b, 2, none⟩ v2).setCell ⟨b, 3, none⟩ v3).setCell ⟨b, 4, none⟩ v4).setCell ⟨b, 5, none⟩ v5).setCell ⟨b, 6, none⟩ v6).setCell ⟨b, 7, none⟩ v7).setCell ⟨b, 8, none⟩ v8).heap[b]? = some (.cells #[v0, v1, v2, v3, v4, v5, v6, v7, v8, z9, z10] T (0, 0)) := heap_setCell_same _ b 8 _ _ v8 p7
  have p9 : ((((((((((W.setCell ⟨b, 0, none⟩ v0).setCell ⟨b, 1, none⟩ v1).setCell ⟨b, 2, none⟩ v2).setCell ⟨b, 3, none⟩ v3).setCell ⟨b, 4, none⟩ v4).setCell ⟨b, 5, none⟩ v5).setCell ⟨b, 6, none⟩ v6).setCell ⟨b, 7, none⟩ v7).setCell ⟨b, 8, none⟩ v8).setCell ⟨b, 9, none⟩ v9).heap[b]? = some (.cells #[v0, v1, v2, v3, v4, v5, v6, v7, v8, v9, z10] T (0, 0)) := heap_setCell_same _ b 9 _ _ v9 p8
  have p10 : (((((((((((W.setCell ⟨b, 0, none⟩ v0).setCell ⟨b, 1, none⟩ v1).setCell ⟨b, 2, none⟩ v2).setCell ⟨b, 3, none⟩ v3).setCell ⟨b, 4, none⟩ v4).setCell ⟨b, 5, none⟩ v5).setCell ⟨b, 6, none⟩ v6).setCell ⟨b, 7, none⟩ v7).setCell ⟨b, 8, none⟩ v8).setCell ⟨b, 9, none⟩ v9).setCell ⟨b, 10, none⟩ v10).heap[b]? = some (.cells #[v0, v1, v2, v3, v4, v5, v6, v7, v8, v9, v10] T (0, 0)) := heap_setCell_same _ b 10 _ _ v10 p9
  exact p10
theorem set11_turn {W : World} {b : Nat} {v0 v1 v2 v3 v4 v5 v6 v7 v8 v9 v10 : Value} : Turn (fun k => k = b) W (set11 W b v0 v1 v2 v3 v4 v5 v6 v7 v8 v9 v10) := by
  unfold set11
  have t := Turn.refl (fun k => k = b) W
  have t0 := turn_set (o := 0) (v := v0) t rfl
  have t1 := turn_set (o := 1) (v := v1) t0 rfl
  have t2 := turn_set (o := 2) (v := v2) t1 rfl
  have t3 := turn_set (o := 3) (v := v3) t2 rfl
  have t4 := turn_set (o := 4) (v := v4) t3 rfl
  have t5 := turn_set (o := 5) (v := v5) t4 rfl
  have t6 := turn_set (o := 6) (v := v6) t5 rfl
  have t7 := turn_set (o := 7) (v := v7) t6 rfl
  have t8 := turn_set (o := 8) (v := v8) t7 rfl
  have t9 := turn_set (o := 9) (v := v9) t8 rfl
  have t10 := turn_set (o := 10) (v := v10) t9 rfl
  exact t10
theorem Tx.fin {w V U U' : World} {sa sb : Nat} {Z Z' : Nat → Prop} {xs ys : List ND} (h : Tx V U sa sb Z Z' xs ys) (hB : Below w.heap.size w V) (ht : Turn (fun b => w.heap.size ≤ b ∧ b < V.heap.size) U U') : Tx w U' sa sb Z Z' xs ys := by
  have hbl : Below w.heap.size w U' := (hB.trans (h.a.bl.mono hB.size)).trans (by
    have := ht.below (B := w.heap.size) (fun b hb => hb.1) (Nat.le_trans hB.size h.a.bl.size)
    exact this)
  exact ⟨⟨h.a.ar.turn ht fun b hz hb => by have := h.a.z b hz; omega, fun b hz => Nat.le_trans hB.size (h.a.z b hz), hbl⟩, ⟨h.b.ar.turn ht fun b hz hb => by have := h.b.z b hz; omega, fun b hz => Nat.le_trans hB.size (h.b.z b hz), hbl⟩, h.d⟩
theorem two_fin {w V U W9 : World} {b1 b3 sa sb : Nat} {Z Z' : Nat → Prop} {xs ys : List ND} {T : TypeId} {z0 z1 z2 z3 z4 z5 z6 z7 z8 z9 z10 : Value} {e0 e1 e2 e3 e4 e5 e6 e7 e8 e9 e10 : Int}
    (h : Tx V U sa sb Z Z' xs ys) (hB : Below w.heap.size w V) (hb1 : w.heap.size ≤ b1 ∧ b1 < V.heap.size) (hb3 : w.heap.size ≤ b3 ∧ b3 < V.heap.size) (hne : ¬ b1 = b3)
    (h1 : U.heap[b1]? = some (.cells #[z0, z1, z2, z3, z4, z5, z6, z7, z8, z9, z10] T (0, 0))) (h3 : U.heap[b3]? = some (.cells #[z0, z1, z2, z3, z4, z5, z6, z7, z8, z9, z10] T (0, 0)))
    (hW : W9 = ((((((((((((((((((((((U.setCell ⟨b1, 0, none⟩ (.int .i64 e0)).setCell ⟨b1, 1, none⟩ (.int .i64 e1)).setCell ⟨b1, 2, none⟩ (.int .i64 e2)).setCell ⟨b1, 3, none⟩ (.int .i64 e3)).setCell ⟨b1, 4, none⟩ (.int .i64 e4)).setCell ⟨b1, 5, none⟩ (.int .i64 e5)).setCell ⟨b1, 6, none⟩ (.int .i64 e6)).setCell ⟨b1, 7, none⟩ (.int .i64 e7)).setCell ⟨b1, 8, none⟩ (.int .i64 e8)).setCell ⟨b1, 9, none⟩ (.int .i64 e9)).setCell ⟨b1, 10, none⟩ (.int .i64 e10)).setCell ⟨b3, 0, none⟩ (.int .i64 e0)).setCell ⟨b3, 1, none⟩ (.int .i64 e1)).setCell ⟨b3, 2, none⟩ (.int .i64 e2)).setCell ⟨b3, 3, none⟩ (.int .i64 e3)).setCell ⟨b3, 4, none⟩ (.int .i64 e4)).setCell ⟨b3, 5, none⟩ (.int .i64 e5)).setCell ⟨b3, 6, none⟩ (.int .i64 e6)).setCell ⟨b3, 7, none⟩ (.int .i64 e7)).setCell ⟨b3, 8, none⟩ (.int .i64 e8)).setCell ⟨b3, 9, none⟩ (.int .i64 e9)).setCell ⟨b3, 10, none⟩ (.int .i64 e10)).drew) : Tx w W9 sa sb Z Z' xs ys ∧ W9.heap[b1]? = some (.cells #[.int .i64 e0, .int .i64 e1, .int .i64 e2, .int .i64 e3, .int .i64 e4, .int .i64 e5, .int .i64 e6, .int .i64 e7, .int .i64 e8, .int .i64 e9, .int .i64 e10] T (0, 0)) ∧ W9.heap[b3]? = some (.cells #[.int .i64 e0, .int .i64 e1, .int .i64 e2, .int .i64 e3, .int .i64 e4, .int .i64 e5, .int .i64 e6, .int .i64 e7, .int .i64 e8, .int .i64 e9, .int .i64 e10] T (0, 0)) := by
  obtain ⟨S1, hS1⟩ : ∃ S1, S1 = (set11 U b1 (.int .i64 e0) (.int .i64 e1) (.int .i64 e2) (.int .i64 e3) (.int .i64 e4) (.int .i64 e5) (.int .i64 e6) (.int .i64 e7) (.int .i64 e8) (.int .i64 e9) (.int .i64 e10)) := ⟨_, rfl⟩
  obtain ⟨S2, hS2⟩ : ∃ S2, S2 = (set11 S1 b3 (.int .i64 e0) (.int .i64 e1) (.int .i64 e2) (.int .i64 e3) (.int .i64 e4) (.int .i64 e5) (.int .i64 e6) (.int .i64 e7) (.int .i64 e8) (.int .i64 e9) (.int .i64 e10)) := ⟨_, rfl⟩
  have hs : W9 = S2.drew := by
    rw [hS2, hS1]; unfold set11; exact hW
  clear hW
  have p1 : S1.heap[b1]? = some (.cells #[.int .i64 e0, .int .i64 e1, .int .i64 e2, .int .i64 e3, .int .i64 e4, .int .i64 e5, .int .i64 e6, .int .i64 e7, .int .i64 e8, .int .i64 e9, .int .i64 e10] T (0, 0)) := by rw [hS1]; exact set11_at h1
  have t1 : Turn (fun k => k = b1) U S1 := by rw [hS1]; exact set11_turn
  clear hS1
  have q3 : S1.heap[b3]? = some (.cells #[z0, z1, z2, z3, z4, z5, z6, z7, z8, z9, z10] T (0, 0)) := (t1.block b3 (Array.getElem?_eq_some_iff.1 h3).1 (fun e => hne e.symm)).trans h3
  have p3 : S2.heap[b3]? = some (.cells #[.int .i64 e0, .int .i64 e1, .int .i64 e2, .int .i64 e3, .int .i64 e4, .int .i64 e5, .int .i64 e6, .int .i64 e7, .int .i64 e8, .int .i64 e9, .int .i64 e10] T (0, 0)) := by rw [hS2]; exact set11_at q3
  have t3 : Turn (fun k => k = b3) S1 S2 := by rw [hS2]; exact set11_turn
  clear hS2
  have q1 : S2.heap[b1]? = some (.cells #[.int .i64 e0, .int .i64 e1, .int .i64 e2, .int .i64 e3, .int .i64 e4, .int .i64 e5, .int .i64 e6, .int .i64 e7, .int .i64 e8, .int .i64 e9, .int .i64 e10] T (0, 0)) := (t3.block b1 (Array.getElem?_eq_some_iff.1 p1).1 hne).trans p1
  have r1 : W9.heap[b1]? = some (.cells #[.int .i64 e0, .int .i64 e1, .int .i64 e2, .int .i64 e3, .int .i64 e4, .int .i64 e5, .int .i64 e6, .int .i64 e7, .int .i64 e8, .int .i64 e9, .int .i64 e10] T (0, 0)) := by rw [hs]; exact q1
  have r3 : W9.heap[b3]? = some (.cells #[.int .i64 e0, .int .i64 e1, .int .i64 e2, .int .i64 e3, .int .i64 e4, .int .i64 e5, .int .i64 e6, .int .i64 e7, .int .i64 e8, .int .i64 e9, .int .i64 e10] T (0, 0)) := by rw [hs]; exact p3
  have m1 : Turn (fun b => w.heap.size ≤ b ∧ b < V.heap.size) U S1 := t1.mono fun k hk => hk ▸ hb1
  have m3 : Turn (fun b => w.heap.size ≤ b ∧ b < V.heap.size) S1 S2 := t3.mono fun k hk => hk ▸ hb3
  have m2 : Turn (fun b => w.heap.size ≤ b ∧ b < V.heap.size) U S2 := m1.trans m3 fun k hk => .inl hk
  have tt : Turn (fun b => w.heap.size ≤ b ∧ b < V.heap.size) U W9 := by rw [hs]; exact turn_drew m2
  exact ⟨h.fin hB tt, r1, r3⟩
end Go.Proofs.YtfmkniakfgpgjaaGreatDoor

/- nodes' law: two. -/
namespace Go.Proofs.YtfmkniakfgpgjaaGreatDoor
open Go.RowKit Go.KK Go.Shelf Go.Maps
set_option linter.unusedVariables false
set_option linter.unusedSimpArgs false

theorem results_tctc {fn : Func} {t p u q : Tmp} {ty tz : TypeId} (h : fn.results = #[.tmp t, .cell p ty, .tmp u, .cell q tz]) (tmps : Array Value) (P : Program) (w : World) :
    (results fn tmps).run P w =
      ((asAddr (tmps.getD p undef)).run P w).andThen fun a w₁ => ((loadVar ty a).run P w₁).andThen fun v w₂ => ((asAddr (tmps.getD q undef)).run P w₂).andThen fun b w₃ => ((loadVar tz b).run P w₃).andThen fun x w₄ => .ok (.tuple #[tmps.getD t undef, v, tmps.getD u undef, x]) w₄ := by
  simp only [results, h]
  simp [Sem.run_bind, Result.andThen]
theorem results_tctc_row {P : Program} {fn : Func} {t p u q : Tmp} {ty tz : TypeId} (h : fn.results = #[.tmp t, .cell p ty, .tmp u, .cell q tz]) (tmps : Array Value) (w : World) (g k : Nat) (T : TypeId) (cs ds : Array Value) (d d' : TypeDesc) (x y : Value) (hx : tmps.getD t undef = x) (hy : tmps.getD u undef = y)
    (hp : tmps.getD p undef = .pointer (some ⟨g, 0, none⟩)) (hq : tmps.getD q undef = .pointer (some ⟨k, 0, none⟩)) (hg : w.heap[g]? = some (.cells cs T (0, 0))) (hk : w.heap[k]? = some (.cells ds T (0, 0)))
    (hu : P.underlying ty = some d) (hd : (match d with | .struct _ | .array _ _ => true | _ => false) = true) (hi : (P.info? ty).map (·.size) = some cs.size)
    (hu' : P.underlying tz = some d') (hd' : (match d' with | .struct _ | .array _ _ => true | _ => false) = true) (hi' : (P.info? tz).map (·.size) = some ds.size) :
    (results fn tmps).run P w = .ok (.tuple #[x, .agg cs, y, .agg ds]) w := by
  rw [results_tctc h, hp, hq, hx, hy]
  simp [asAddr, run_loadVar_row w g T ty cs (0, 0) d hg hu hd hi, run_loadVar_row w k T tz ds (0, 0) d' hk hu' hd' hi', Result.andThen]
/-- What layer 22's two leaves: both arenas, with the same secrets, and the same epoch's. -/
def nx0 : List ND × List Int × Int := nxF (atoms 10) 0 1 2 []
def TwoE (w : World) (e : Ending) (w' : World) : Prop := ∃ sa sb Z Z', e = .returned (.tuple #[.pointer (some ⟨sa, 0, none⟩), epV nx0.2.1, .pointer (some ⟨sb, 0, none⟩), epV nx0.2.1]) ∧ Tx w w' sa sb Z Z' nx0.1 nx0.1
set_option maxHeartbeats 8000000 in
set_option maxRecDepth 100000 in
theorem twoE_any (w : World) (hT : Tb w.heap.size w) : Calls Tryz.prog 12 #[] w (TwoE w) := by
  have HT := hid hT
  clear hT
  have B2 := hid (((Below.refl w.heap.size w).alloc (Nat.le_refl _) (.cells #[.int .i64 0, .int .i64 0, .int .i64 0, .int .i64 0, .int .i64 0, .int .i64 0, .int .i64 0, .int .i64 0, .int .i64 0, .int .i64 0, .int .i64 0] 29)).alloc (by simp) (.cells #[.int .i64 0, .int .i64 0, .int .i64 0, .int .i64 0, .int .i64 0, .int .i64 0, .int .i64 0, .int .i64 0, .int .i64 0, .int .i64 0, .int .i64 0] 29))
  have X1 := hid (show HasO (.cells #[.int .i64 0, .int .i64 0, .int .i64 0, .int .i64 0, .int .i64 0, .int .i64 0, .int .i64 0, .int .i64 0, .int .i64 0, .int .i64 0, .int .i64 0] 29 (0, 0)) w.heap.size ((w.alloc (.cells #[.int .i64 0, .int .i64 0, .int .i64 0, .int .i64 0, .int .i64 0, .int .i64 0, .int .i64 0, .int .i64 0, .int .i64 0, .int .i64 0, .int .i64 0] 29)).alloc (.cells #[.int .i64 0, .int .i64 0, .int .i64 0, .int .i64 0, .int .i64 0, .int .i64 0, .int .i64 0, .int .i64 0, .int .i64 0, .int .i64 0, .int .i64 0] 29)) from (HasO.new _ _).alloc)
  have X3 := hid (show HasO (.cells #[.int .i64 0, .int .i64 0, .int .i64 0, .int .i64 0, .int .i64 0, .int .i64 0, .int .i64 0, .int .i64 0, .int .i64 0, .int .i64 0, .int .i64 0] 29 (0, 0)) (w.heap.size + 1) ((w.alloc (.cells #[.int .i64 0, .int .i64 0, .int .i64 0, .int .i64 0, .int .i64 0, .int .i64 0, .int .i64 0, .int .i64 0, .int .i64 0, .int .i64 0, .int .i64 0] 29)).alloc (.cells #[.int .i64 0, .int .i64 0, .int .i64 0, .int .i64 0, .int .i64 0, .int .i64 0, .int .i64 0, .int .i64 0, .int .i64 0, .int .i64 0, .int .i64 0] 29)) from HasO.new' (by simp))
  go_enter Tryz.func12, Tryz.ntmps12
  go_upto_region 1 with fail
  refine forget (R := fun V => Below w.heap.size w V ∧ HasO (.cells #[.int .i64 0, .int .i64 0, .int .i64 0, .int .i64 0, .int .i64 0, .int .i64 0, .int .i64 0, .int .i64 0, .int .i64 0, .int .i64 0, .int .i64 0] 29 (0, 0)) w.heap.size V ∧ HasO (.cells #[.int .i64 0, .int .i64 0, .int .i64 0, .int .i64 0, .int .i64 0, .int .i64 0, .int .i64 0, .int .i64 0, .int .i64 0, .int .i64 0, .int .i64 0] 29 (0, 0)) (w.heap.size + 1) V) ?_ ⟨B2.out, X1.out, X3.out⟩
  clear B2 X1 X3
  rintro V ⟨hb, h1, h3⟩
  have HB := hid hb; have H1 := hid h1; have H3 := hid h3
  have HV := hid (show w.heap.size + 1 < V.heap.size from h3.lt)
  clear hb h1 h3
  go_wp2_with fail
  refine (new_any _).mono ?_
  rintro e1 w1 ⟨Z1, sa, rfl, a1, z1, b1⟩
  go_wp2_with fail
  refine (rnew_any _).mono ?_
  rintro e2 w2 ⟨Z2, sb, rfl, a2, z2, b2⟩
  have HI := hid (show Tw V w2 sa sb Z1 Z2 (atoms 0) from ⟨a1.ext b2, a2, fun b h1 h2 => by have := a1.zlt b h1; have := z2 b h2; omega, z1, fun b h => Nat.le_trans b1.size (z2 b h), b1.trans (b2.mono b1.size)⟩)
  clear a2 z2 b2 a1 z1 b1
  have HTV := hid (Tb.up (HT.out.on HB.out) HB.out.size)
  go_wp2_with fail
  go_loopw [13] (fun i wr => ∃ (j : Nat) (Z Z' : Nat → Prop), i = .int .i64 j ∧ j ≤ 10 ∧ Tw V wr sa sb Z Z' (atoms j)) (fun i _ => 10 - (intOf i).toNat)
  case atStart => exact ⟨0, Z1, Z2, rfl, by omega, HI.out⟩
  case round =>
    clear HI
    obtain ⟨j, Z, Z', hi, hj, hI⟩ := hrel
    subst hi
    have HJ := hid hI
    clear hI
    by_cases hlt : j < 10
    · have hj64 : I64 (j : Int) := ⟨by omega, by omega⟩
      have HST := hid (atoms_step (n := j) (by omega))
      have HZB := hid HJ.out.zb
      have hlt' : (j : Int) < 10 := by omega
      go_wp2_with fail
      refine (mke_any Z sa _ V.heap.size _ (atN (j : Int)) none 0 HJ.out.a (SlA.nil _ _) (HTV.out.on HJ.out.bl) HJ.out.bl.size (ndI_at hj64)).mono ?_
      rintro e3 w3 ⟨rfl, s3⟩
      obtain ⟨Z3, a3, q3, d3, z3, -, -, b3⟩ := HJ.out.mkA s3
      have A3 := hid a3; have Q3 := hid q3; have D3 := hid d3; have ZZ3 := hid z3; have B3 := hid b3
      clear a3 q3 d3 z3 b3 s3 HJ
      go_wp2_with fail
      refine (ratom_any Z' sb _ _ (j : Int) Q3.out hj64).mono ?_
      rintro e4 w4 ⟨rfl, s4⟩
      obtain ⟨Z4, t4, -, -⟩ := Tw.mkB A3.out Q3.out D3.out ZZ3.out HZB.out B3.out s4
      rw [HST.out] at t4
      have T4 := hid t4
      clear t4 s4 A3 Q3 D3 ZZ3 B3 HZB
      go_wp2_with fail
      go_roundw
      case rel => exact ⟨j + 1, Z3, Z4, by go_num, by omega, T4.out⟩
      case measure => simp [intOf]; omega
    · obtain rfl : j = 10 := by omega
      have HTX := hid (Tx.of HJ.out)
      clear HJ
      obtain ⟨r0, hr0⟩ : ∃ r, r = nxF (atoms 10) 0 1 2 [] := ⟨_, rfl⟩
      have h11 : r0.2.1.length = 11 := by rw [hr0]; exact nx_elen _ _ _ _ _
      have HNA := hid (fun (U : World) (Zu : Nat → Prop) (la : LA V U Zu sa (atoms 10)) => nx_any la HTV.out (i := 0) (c := 1) (x := 2) i64_0 (i64_lit (by decide) (by decide)) (i64_lit (by decide) (by decide)) (SlM.nil U Zu) (by omega) (fun i hi => by cases hi))
      have HNQ := hid (fun (U : World) (Zu : Nat → Prop) (lq : LQ V U Zu sb (atoms 10)) => q_nx lq (i := 0) (c := 1) (x := 2) i64_0 (i64_lit (by decide) (by decide)) (i64_lit (by decide) (by decide)) (SlM.nil U Zu) (by omega) (fun i hi => by cases hi))
      rw [← hr0] at HNA HNQ
      have HR0 := hid hr0
      clear hr0
      obtain ⟨X0, el, er⟩ := r0
      dsimp only at h11 ⊢
      obtain ⟨e0, e1, e2, e3, e4, e5, e6, e7, e8, e9, e10, rfl⟩ := len11 h11
      clear h11
      unfold EpS epV at HNA
      unfold EpQ epV at HNQ
      go_wp2_with fail
      refine (HNA.out _ _ HTX.out.a).mono ?_
      rintro e w3 ⟨Z3, rfl, l3, m3⟩
      have HB7 := hid (show V.heap.size ≤ w3.heap.size from l3.bl.size)
      have N7 := hid (show ¬ Z' w3.heap.size from fun hz => by have := (HTX.out.onA l3 m3).b.ar.zlt _ hz; omega)
      have T3 := hid ((HTX.out.onA l3 m3).alloc (.cells #[.int .i64 e0, .int .i64 e1, .int .i64 e2, .int .i64 e3, .int .i64 e4, .int .i64 e5, .int .i64 e6, .int .i64 e7, .int .i64 e8, .int .i64 e9, .int .i64 e10] 29))
      clear l3 m3 HTX HNA
      have E7 := hid (HasO.new (.cells #[.int .i64 e0, .int .i64 e1, .int .i64 e2, .int .i64 e3, .int .i64 e4, .int .i64 e5, .int .i64 e6, .int .i64 e7, .int .i64 e8, .int .i64 e9, .int .i64 e10] 29 (0, 0)) w3)
      go_upto_region 10 with fail
      generalize hb7 : w3.heap.size = b7 at *
      refine forget (R := fun U => Tx V U sa sb Z3 Z' X0 (atoms 10) ∧ HasO (.cells #[.int .i64 e0, .int .i64 e1, .int .i64 e2, .int .i64 e3, .int .i64 e4, .int .i64 e5, .int .i64 e6, .int .i64 e7, .int .i64 e8, .int .i64 e9, .int .i64 e10] 29 (0, 0)) b7 U) ?_ ⟨T3.out, E7.out⟩
      clear T3 E7 hb7
      rintro U ⟨ht, h7⟩
      have T4 := hid ht; have E7 := hid h7
      clear ht h7
      go_wp2_with fail
      refine (HNQ.out _ _ T4.out.b).mono ?_
      rintro e w5 ⟨Z5, rfl, l5, m5⟩
      have HB9 := hid (show V.heap.size ≤ w5.heap.size from l5.bl.size)
      have T5 := hid ((T4.out.onB l5 m5).alloc (.cells #[.int .i64 e0, .int .i64 e1, .int .i64 e2, .int .i64 e3, .int .i64 e4, .int .i64 e5, .int .i64 e6, .int .i64 e7, .int .i64 e8, .int .i64 e9, .int .i64 e10] 29))
      have E75 := hid (show HasO (.cells #[.int .i64 e0, .int .i64 e1, .int .i64 e2, .int .i64 e3, .int .i64 e4, .int .i64 e5, .int .i64 e6, .int .i64 e7, .int .i64 e8, .int .i64 e9, .int .i64 e10] 29 (0, 0)) b7 (w5.alloc (.cells #[.int .i64 e0, .int .i64 e1, .int .i64 e2, .int .i64 e3, .int .i64 e4, .int .i64 e5, .int .i64 e6, .int .i64 e7, .int .i64 e8, .int .i64 e9, .int .i64 e10] 29)) from HasO.alloc ((m5.t.block b7 E7.out.lt N7.out).trans E7.out))
      have E9 := hid (HasO.new (.cells #[.int .i64 e0, .int .i64 e1, .int .i64 e2, .int .i64 e3, .int .i64 e4, .int .i64 e5, .int .i64 e6, .int .i64 e7, .int .i64 e8, .int .i64 e9, .int .i64 e10] 29 (0, 0)) w5)
      clear l5 m5 T4 HNQ E7 N7
      go_upto_region 11 with fail
      generalize hb9 : w5.heap.size = b9 at *
      refine forget (R := fun U => Tx V U sa sb Z3 Z5 X0 X0 ∧ HasO (.cells #[.int .i64 e0, .int .i64 e1, .int .i64 e2, .int .i64 e3, .int .i64 e4, .int .i64 e5, .int .i64 e6, .int .i64 e7, .int .i64 e8, .int .i64 e9, .int .i64 e10] 29 (0, 0)) b7 U ∧ HasO (.cells #[.int .i64 e0, .int .i64 e1, .int .i64 e2, .int .i64 e3, .int .i64 e4, .int .i64 e5, .int .i64 e6, .int .i64 e7, .int .i64 e8, .int .i64 e9, .int .i64 e10] 29 (0, 0)) b9 U) ?_ ⟨T5.out, E75.out, E9.out⟩
      clear T5 E75 E9 hb9
      rintro U ⟨ht, h7, h9⟩
      have T6 := hid ht
      have h1 := H1.out.bel ht.a.bl; have h3 := H3.out.bel ht.a.bl
      clear ht
      have HB1 := hid (show w.heap.size = w.heap.size from rfl)
      obtain ⟨b3, hb3⟩ : ∃ b3, b3 = w.heap.size + 1 := ⟨_, rfl⟩
      have HB3 := hid hb3
      rw [← hb3] at h3 ⊢
      obtain ⟨b1, hb1⟩ : ∃ b1, b1 = w.heap.size := ⟨_, rfl⟩
      have HBB := hid hb1
      rw [← hb1] at h1 ⊢
      have hne : ¬ b1 = b3 := by omega
      have hne' : ¬ b3 = b1 := by omega
      have n0 : ¬ b7 = b1 := by have := HB7.out; have := HB9.out; have := HV.out; omega
      have n1 : ¬ b7 = b3 := by have := HB7.out; have := HB9.out; have := HV.out; omega
      have n2 : ¬ b9 = b1 := by have := HB7.out; have := HB9.out; have := HV.out; omega
      have n3 : ¬ b9 = b3 := by have := HB7.out; have := HB9.out; have := HV.out; omega
      have n4 : ¬ b1 = b7 := by have := HB7.out; have := HB9.out; have := HV.out; omega
      have n5 : ¬ b3 = b7 := by have := HB7.out; have := HB9.out; have := HV.out; omega
      have n6 : ¬ b1 = b9 := by have := HB7.out; have := HB9.out; have := HV.out; omega
      have n7 : ¬ b3 = b9 := by have := HB7.out; have := HB9.out; have := HV.out; omega
      clear hb3 hb1
      have a0 : U.cell? ⟨b7, 0, none⟩ = some (.int .i64 e0) := by rw [cell_of_row _ (b7) 0 _ _ (0, 0) h7]; rfl
      have a1 : U.cell? ⟨b7, 1, none⟩ = some (.int .i64 e1) := by rw [cell_of_row _ (b7) 1 _ _ (0, 0) h7]; rfl
      have a2 : U.cell? ⟨b7, 2, none⟩ = some (.int .i64 e2) := by rw [cell_of_row _ (b7) 2 _ _ (0, 0) h7]; rfl
      have a3 : U.cell? ⟨b7, 3, none⟩ = some (.int .i64 e3) := by rw [cell_of_row _ (b7) 3 _ _ (0, 0) h7]; rfl
      have a4 : U.cell? ⟨b7, 4, none⟩ = some (.int .i64 e4) := by rw [cell_of_row _ (b7) 4 _ _ (0, 0) h7]; rfl
      have a5 : U.cell? ⟨b7, 5, none⟩ = some (.int .i64 e5) := by rw [cell_of_row _ (b7) 5 _ _ (0, 0) h7]; rfl
      have a6 : U.cell? ⟨b7, 6, none⟩ = some (.int .i64 e6) := by rw [cell_of_row _ (b7) 6 _ _ (0, 0) h7]; rfl
      have a7 : U.cell? ⟨b7, 7, none⟩ = some (.int .i64 e7) := by rw [cell_of_row _ (b7) 7 _ _ (0, 0) h7]; rfl
      have a8 : U.cell? ⟨b7, 8, none⟩ = some (.int .i64 e8) := by rw [cell_of_row _ (b7) 8 _ _ (0, 0) h7]; rfl
      have a9 : U.cell? ⟨b7, 9, none⟩ = some (.int .i64 e9) := by rw [cell_of_row _ (b7) 9 _ _ (0, 0) h7]; rfl
      have a10 : U.cell? ⟨b7, 10, none⟩ = some (.int .i64 e10) := by rw [cell_of_row _ (b7) 10 _ _ (0, 0) h7]; rfl
      have c0 : U.cell? ⟨b9, 0, none⟩ = some (.int .i64 e0) := by rw [cell_of_row _ (b9) 0 _ _ (0, 0) h9]; rfl
      have c1 : U.cell? ⟨b9, 1, none⟩ = some (.int .i64 e1) := by rw [cell_of_row _ (b9) 1 _ _ (0, 0) h9]; rfl
      have c2 : U.cell? ⟨b9, 2, none⟩ = some (.int .i64 e2) := by rw [cell_of_row _ (b9) 2 _ _ (0, 0) h9]; rfl
      have c3 : U.cell? ⟨b9, 3, none⟩ = some (.int .i64 e3) := by rw [cell_of_row _ (b9) 3 _ _ (0, 0) h9]; rfl
      have c4 : U.cell? ⟨b9, 4, none⟩ = some (.int .i64 e4) := by rw [cell_of_row _ (b9) 4 _ _ (0, 0) h9]; rfl
      have c5 : U.cell? ⟨b9, 5, none⟩ = some (.int .i64 e5) := by rw [cell_of_row _ (b9) 5 _ _ (0, 0) h9]; rfl
      have c6 : U.cell? ⟨b9, 6, none⟩ = some (.int .i64 e6) := by rw [cell_of_row _ (b9) 6 _ _ (0, 0) h9]; rfl
      have c7 : U.cell? ⟨b9, 7, none⟩ = some (.int .i64 e7) := by rw [cell_of_row _ (b9) 7 _ _ (0, 0) h9]; rfl
      have c8 : U.cell? ⟨b9, 8, none⟩ = some (.int .i64 e8) := by rw [cell_of_row _ (b9) 8 _ _ (0, 0) h9]; rfl
      have c9 : U.cell? ⟨b9, 9, none⟩ = some (.int .i64 e9) := by rw [cell_of_row _ (b9) 9 _ _ (0, 0) h9]; rfl
      have c10 : U.cell? ⟨b9, 10, none⟩ = some (.int .i64 e10) := by rw [cell_of_row _ (b9) 10 _ _ (0, 0) h9]; rfl
      have x0 : U.cell? ⟨b1, 0, none⟩ = some (.int .i64 0) := by rw [cell_of_row _ (b1) 0 _ _ (0, 0) h1]; rfl
      have x1 : U.cell? ⟨b1, 1, none⟩ = some (.int .i64 0) := by rw [cell_of_row _ (b1) 1 _ _ (0, 0) h1]; rfl
      have x2 : U.cell? ⟨b1, 2, none⟩ = some (.int .i64 0) := by rw [cell_of_row _ (b1) 2 _ _ (0, 0) h1]; rfl
      have x3 : U.cell? ⟨b1, 3, none⟩ = some (.int .i64 0) := by rw [cell_of_row _ (b1) 3 _ _ (0, 0) h1]; rfl
      have x4 : U.cell? ⟨b1, 4, none⟩ = some (.int .i64 0) := by rw [cell_of_row _ (b1) 4 _ _ (0, 0) h1]; rfl
      have x5 : U.cell? ⟨b1, 5, none⟩ = some (.int .i64 0) := by rw [cell_of_row _ (b1) 5 _ _ (0, 0) h1]; rfl
      have x6 : U.cell? ⟨b1, 6, none⟩ = some (.int .i64 0) := by rw [cell_of_row _ (b1) 6 _ _ (0, 0) h1]; rfl
      have x7 : U.cell? ⟨b1, 7, none⟩ = some (.int .i64 0) := by rw [cell_of_row _ (b1) 7 _ _ (0, 0) h1]; rfl
      have x8 : U.cell? ⟨b1, 8, none⟩ = some (.int .i64 0) := by rw [cell_of_row _ (b1) 8 _ _ (0, 0) h1]; rfl
      have x9 : U.cell? ⟨b1, 9, none⟩ = some (.int .i64 0) := by rw [cell_of_row _ (b1) 9 _ _ (0, 0) h1]; rfl
      have x10 : U.cell? ⟨b1, 10, none⟩ = some (.int .i64 0) := by rw [cell_of_row _ (b1) 10 _ _ (0, 0) h1]; rfl
      have y0 : U.cell? ⟨b3, 0, none⟩ = some (.int .i64 0) := by rw [cell_of_row _ (b3) 0 _ _ (0, 0) h3]; rfl
      have y1 : U.cell? ⟨b3, 1, none⟩ = some (.int .i64 0) := by rw [cell_of_row _ (b3) 1 _ _ (0, 0) h3]; rfl
      have y2 : U.cell? ⟨b3, 2, none⟩ = some (.int .i64 0) := by rw [cell_of_row _ (b3) 2 _ _ (0, 0) h3]; rfl
      have y3 : U.cell? ⟨b3, 3, none⟩ = some (.int .i64 0) := by rw [cell_of_row _ (b3) 3 _ _ (0, 0) h3]; rfl
      have y4 : U.cell? ⟨b3, 4, none⟩ = some (.int .i64 0) := by rw [cell_of_row _ (b3) 4 _ _ (0, 0) h3]; rfl
      have y5 : U.cell? ⟨b3, 5, none⟩ = some (.int .i64 0) := by rw [cell_of_row _ (b3) 5 _ _ (0, 0) h3]; rfl
      have y6 : U.cell? ⟨b3, 6, none⟩ = some (.int .i64 0) := by rw [cell_of_row _ (b3) 6 _ _ (0, 0) h3]; rfl
      have y7 : U.cell? ⟨b3, 7, none⟩ = some (.int .i64 0) := by rw [cell_of_row _ (b3) 7 _ _ (0, 0) h3]; rfl
      have y8 : U.cell? ⟨b3, 8, none⟩ = some (.int .i64 0) := by rw [cell_of_row _ (b3) 8 _ _ (0, 0) h3]; rfl
      have y9 : U.cell? ⟨b3, 9, none⟩ = some (.int .i64 0) := by rw [cell_of_row _ (b3) 9 _ _ (0, 0) h3]; rfl
      have y10 : U.cell? ⟨b3, 10, none⟩ = some (.int .i64 0) := by rw [cell_of_row _ (b3) 10 _ _ (0, 0) h3]; rfl
      have fx0 := frozen_of_row U (b1) 0 _ _ h1
      have fx1 := frozen_of_row U (b1) 1 _ _ h1
      have fx2 := frozen_of_row U (b1) 2 _ _ h1
      have fx3 := frozen_of_row U (b1) 3 _ _ h1
      have fx4 := frozen_of_row U (b1) 4 _ _ h1
      have fx5 := frozen_of_row U (b1) 5 _ _ h1
      have fx6 := frozen_of_row U (b1) 6 _ _ h1
      have fx7 := frozen_of_row U (b1) 7 _ _ h1
      have fx8 := frozen_of_row U (b1) 8 _ _ h1
      have fx9 := frozen_of_row U (b1) 9 _ _ h1
      have fx10 := frozen_of_row U (b1) 10 _ _ h1
      have fy0 := frozen_of_row U (b3) 0 _ _ h3
      have fy1 := frozen_of_row U (b3) 1 _ _ h3
      have fy2 := frozen_of_row U (b3) 2 _ _ h3
      have fy3 := frozen_of_row U (b3) 3 _ _ h3
      have fy4 := frozen_of_row U (b3) 4 _ _ h3
      have fy5 := frozen_of_row U (b3) 5 _ _ h3
      have fy6 := frozen_of_row U (b3) 6 _ _ h3
      have fy7 := frozen_of_row U (b3) 7 _ _ h3
      have fy8 := frozen_of_row U (b3) 8 _ _ h3
      have fy9 := frozen_of_row U (b3) 9 _ _ h3
      have fy10 := frozen_of_row U (b3) 10 _ _ h3
      clear h7 h9
      have HF1 := hid (show w.heap.size ≤ b1 ∧ b1 < V.heap.size by have := HBB.out; have := HV.out; omega)
      have HF3 := hid (show w.heap.size ≤ b3 ∧ b3 < V.heap.size by have := HB3.out; have := HV.out; omega)
      obtain ⟨W9, hW9⟩ : ∃ W9, W9 = ((((((((((((((((((((((U.setCell ⟨b1, 0, none⟩ (.int .i64 e0)).setCell ⟨b1, 1, none⟩ (.int .i64 e1)).setCell ⟨b1, 2, none⟩ (.int .i64 e2)).setCell ⟨b1, 3, none⟩ (.int .i64 e3)).setCell ⟨b1, 4, none⟩ (.int .i64 e4)).setCell ⟨b1, 5, none⟩ (.int .i64 e5)).setCell ⟨b1, 6, none⟩ (.int .i64 e6)).setCell ⟨b1, 7, none⟩ (.int .i64 e7)).setCell ⟨b1, 8, none⟩ (.int .i64 e8)).setCell ⟨b1, 9, none⟩ (.int .i64 e9)).setCell ⟨b1, 10, none⟩ (.int .i64 e10)).setCell ⟨b3, 0, none⟩ (.int .i64 e0)).setCell ⟨b3, 1, none⟩ (.int .i64 e1)).setCell ⟨b3, 2, none⟩ (.int .i64 e2)).setCell ⟨b3, 3, none⟩ (.int .i64 e3)).setCell ⟨b3, 4, none⟩ (.int .i64 e4)).setCell ⟨b3, 5, none⟩ (.int .i64 e5)).setCell ⟨b3, 6, none⟩ (.int .i64 e6)).setCell ⟨b3, 7, none⟩ (.int .i64 e7)).setCell ⟨b3, 8, none⟩ (.int .i64 e8)).setCell ⟨b3, 9, none⟩ (.int .i64 e9)).setCell ⟨b3, 10, none⟩ (.int .i64 e10)).drew := ⟨_, rfl⟩
      have HFW := hid (two_fin T6.out HB.out HF1.out HF3.out hne h1 h3 hW9)
      have HW9 := hid hW9
      clear hW9
      clear h1 h3
      go_region
      rw [← HW9.out]
      clear HW9
      obtain ⟨hx, g1, g3⟩ := HFW.out
      have HXX := hid hx
      have HN := hid (show nx0 = (X0, [e0, e1, e2, e3, e4, e5, e6, e7, e8, e9, e10], er) by unfold nx0; exact HR0.out.symm)
      clear hx HFW
      go_wp2_with fail
      refine bodyPost_ret (v := .tuple #[.pointer (some ⟨sa, 0, none⟩), .agg #[.int .i64 e0, .int .i64 e1, .int .i64 e2, .int .i64 e3, .int .i64 e4, .int .i64 e5, .int .i64 e6, .int .i64 e7, .int .i64 e8, .int .i64 e9, .int .i64 e10], .pointer (some ⟨sb, 0, none⟩), .agg #[.int .i64 e0, .int .i64 e1, .int .i64 e2, .int .i64 e3, .int .i64 e4, .int .i64 e5, .int .i64 e6, .int .i64 e7, .int .i64 e8, .int .i64 e9, .int .i64 e10]]) ?_ rfl ⟨sa, sb, Z3, Z5, by rw [HN.out]; rfl, by rw [HN.out]; exact HXX.out⟩
      refine results_tctc_row (P := Tryz.prog) (t := 0) (p := 1) (u := 2) (q := 3) (ty := 29) (tz := 29) (by first | rfl | decide | kernel_rfl) _ W9 b1 b3 _ _ _ _ _ _ _ rfl rfl rfl rfl g1 g3 Tryz.underlying29 rfl rfl Tryz.underlying29 rfl rfl
end Go.Proofs.YtfmkniakfgpgjaaGreatDoor

/- nodes' laws: what they share. -/
namespace Go.Proofs.YtfmkniakfgpgjaaGreatDoor
open Go.RowKit Go.KK Go.Shelf Go.Maps
set_option linter.unusedVariables false
set_option linter.unusedSimpArgs false

section
variable {w W V : World} {Z : Nat → Prop} {sa : Nat} {X : List ND} {P Q : World → Prop}
theorem fx_old (la : LA w W Z sa X) (hP : ∀ V : World, (∀ b, b < w.heap.size → V.heap[b]? = w.heap[b]?) → P V) : Fx W Z P :=
  ⟨fun b => b < w.heap.size, fun b hb => ⟨fun hz => by have := la.z b hz; omega, Nat.lt_of_lt_of_le hb la.sz⟩, fun V hv => hP V fun b hb => (hv b hb).trans (la.bl.block b hb)⟩
theorem keep_old (hv : ∀ b, b < w.heap.size → V.heap[b]? = w.heap[b]?) {b o : Nat} {u : Value} (hc : w.cell? ⟨b, o, none⟩ = some u) : V.cell? ⟨b, o, none⟩ = some u := by
  rw [World.cell?_of_block (a := ⟨b, o, none⟩) (hv b (block_lt_of_cell hc))]; exact hc
theorem fx_trq (la : LA w W Z sa X) {n c : Nat} {A : Option Addr} {t : List TN} {qs : List Value} (h : TrQ w A n c t qs) : Fx W Z fun V => TrQ V A n c t qs :=
  fx_old la fun V hv => ⟨h.ql, h.s.keep fun b o u hc => keep_old hv hc, fun j x q hx hq => (h.i j x q hx hq).keep fun b o u hc => keep_old hv hc⟩
theorem fx_own {B k n : Nat} {T : TypeId} {v : Value} {cs : List Value} (h : W.ownsRow B T k v n cs) (hn : ∀ b, v.ownBlock = some b → ¬ Z b) : Fx W Z fun V => V.ownsRow B T k v n cs :=
  ⟨fun b => v.ownBlock = some b, fun b hb => ⟨hn b hb, (h.lt b hb).2⟩, fun V hv => own_block h hv⟩
theorem fx_has {o : Obj} {b : Nat} (h : HasO o b W) (hn : ¬ Z b) : Fx W Z (HasO o b) :=
  ⟨fun k => k = b, fun k e => e ▸ ⟨hn, h.lt⟩, fun V hv => (hv b rfl).trans h⟩
end
theorem tr_trq {w : World} {A : Option Addr} {n c : Nat} {t : List TN} (h : Tr w A n c t) : ∃ qs, TrQ w A n c t qs := by
  obtain ⟨qs, h1, h2, h3⟩ := h
  exact ⟨qs, h1, h2, h3⟩

theorem OuM.fx {W V : World} {Q : Nat → Prop} {v : Value} {ts : List TN} {qs : List Value} (h : OuM W V Q v ts qs) : ∃ A c, v = .slice A ts.length c ∧ Fx V Q fun V' => TrQ V' A ts.length c ts qs := by
  obtain ⟨A, c, hv⟩ := own_shape h.own
  refine ⟨A, c, hv, fun b => v.ownBlock = some b ∨ ∃ (j : Nat) (x : TN) (q : Value), ts[j]? = some x ∧ qs[j]? = some q ∧ q.ownBlock = some b, fun b hb => ?_, fun V' hk => ?_⟩
  · rcases hb with hb | ⟨j, x, q, hx, hq, hb⟩
    · exact ⟨h.nb b hb, (h.own.lt b hb).2⟩
    · obtain ⟨a1, a2⟩ := h.un j x q hx hq
      exact ⟨(a2 b hb).1, (a1.lt b hb).2⟩
  · have h2 : OuM W V' (fun _ => False) v ts qs := ⟨own_block h.own fun b hb => hk b (.inl hb), h.ql, fun b hb => id, fun j x q hx hq => by
      obtain ⟨a1, a2⟩ := h.un j x q hx hq
      exact ⟨own_block a1 fun b hb => hk b (.inr ⟨j, x, q, hx, hq, hb⟩), fun b hb => ⟨id, (a2 b hb).2⟩⟩⟩
    obtain ⟨A2, c2, e, ht⟩ := h2.trq
    rw [hv] at e
    injection e with e1 e2 e3
    subst e1; subst e3
    exact ht
/-- What lies behind two(): the arena, and the epoch's box. -/
theorem two_box {w w3 : World} {sa : Nat} {Z : Nat → Prop} {X : List ND} (la : LA w w3 Z sa X) (O O2 : Obj) : LA w ((w3.alloc O).alloc O2) Z sa X ∧ HasO O w3.heap.size ((w3.alloc O).alloc O2) ∧ ¬ Z w3.heap.size ∧ w.heap.size ≤ w3.heap.size :=
  ⟨(la.alloc O).alloc O2, (HasO.new O w3).alloc, fun hz => by have := la.ar.zlt _ hz; omega, la.bl.size⟩
theorem epV11 (e0 e1 e2 e3 e4 e5 e6 e7 e8 e9 e10 : Int) : epV [e0, e1, e2, e3, e4, e5, e6, e7, e8, e9, e10] = .agg #[.int .i64 e0, .int .i64 e1, .int .i64 e2, .int .i64 e3, .int .i64 e4, .int .i64 e5, .int .i64 e6, .int .i64 e7, .int .i64 e8, .int .i64 e9, .int .i64 e10] := rfl
def lt0 : List TN := [⟨1, 3, 4, 5, 6, []⟩, ⟨0, 0, 0, 0, 0, []⟩, ⟨0, 0, 0, 0, 0, []⟩]
/-- The epoch of the laws' ten secrets. -/
structure Ep0 (X : List ND) (ep : List Int) : Prop where
  len : ep.length = 11
  i5 : I64 (ep.getD 5 0)
  sm : X.length ≤ 100
  lo : 10 ≤ X.length
  nx : NxAt X 0 1 2 [] ep
  at0 : At X 0 (atN 0)
  lv : (lockF X ep 7 lt0).2.2 = 0
theorem nx0_e : nx0.2.2 = 0 := by decide +kernel
theorem nx0_sm : nx0.1.length ≤ 100 := by decide +kernel
theorem nx0_lo : 10 ≤ nx0.1.length := by decide +kernel
theorem nx0_at0 : nx0.1[0]? = some (atN 0) := by decide +kernel
theorem nx0_i5 : -9223372036854775808 ≤ nx0.2.1.getD 5 0 ∧ nx0.2.1.getD 5 0 < 9223372036854775808 := by decide +kernel
theorem nx0_lv : (lockF nx0.1 nx0.2.1 7 lt0).2.2 = 0 := by decide +kernel
theorem nx0_ep : Ep0 nx0.1 nx0.2.1 := ⟨nx_elen _ _ _ _ _, nx0_i5, nx0_sm, nx0_lo, nx_at nx0_e, ⟨by decide, nx0_at0⟩, nx0_lv⟩
def Two22 (w : World) (e : Ending) (w' : World) : Prop := ∃ sa sb Z Z' X ep, e = .returned (.tuple #[.pointer (some ⟨sa, 0, none⟩), epV ep, .pointer (some ⟨sb, 0, none⟩), epV ep]) ∧ Ep0 X ep ∧ Tx w w' sa sb Z Z' X X
theorem two22_any (w : World) (hT : Tb w.heap.size w) : Calls Tryz.prog 12 #[] w (Two22 w) := by
  refine (twoE_any w hT).mono ?_
  rintro e w' ⟨sa, sb, Z, Z', rfl, h⟩
  exact ⟨sa, sb, Z, Z', _, _, rfl, nx0_ep, h⟩
end Go.Proofs.YtfmkniakfgpgjaaGreatDoor

/- the document's Changed. -/
namespace Go.Proofs.YtfmkniakfgpgjaaGreatDoor
open Go.RowKit Go.KK Go.Shelf Go.Maps
set_option linter.unusedVariables false
set_option linter.unusedSimpArgs false

end Go.Proofs.YtfmkniakfgpgjaaGreatDoor

