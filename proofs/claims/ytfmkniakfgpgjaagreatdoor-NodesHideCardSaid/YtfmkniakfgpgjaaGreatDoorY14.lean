import Derived.Test.YtfmkniakfgpgjaaGreatDoorY13
import Derived.RegionTactic
import Derived.Deep.RegionWith
import Derived.Deep.DeepCutAuto
import Derived.Deep.CutRange
/- the document's Begin, walked. -/
namespace Go.Proofs.YtfmkniakfgpgjaaGreatDoor
open Go.RowKit Go.KK Go.Shelf Go.Maps
set_option linter.unusedVariables false
set_option linter.unusedSimpArgs false

/-- The three blocks of the loop: the secret of external, the labels, the fields' addresses. -/
structure QX (wr : World) (Zr : Nat → Prop) (ob H : Nat) (y : Int) : Prop where
  e : wr.heap[H]? = some (.cells #[.int .i64 y] 3 (0, 0))
  l : wr.heap[H + 1]? = some (.cells #[.string ⟨#[115, 101, 110, 100, 101, 114]⟩, .string ⟨#[101, 110, 99, 114, 121, 112, 116, 105, 111, 110]⟩, .string ⟨#[101, 120, 112, 111, 114, 116, 101, 114]⟩, .string ⟨#[99, 111, 110, 102, 105, 114, 109]⟩, .string ⟨#[109, 101, 109, 98, 101, 114, 115, 104, 105, 112]⟩, .string ⟨#[114, 101, 115, 117, 109, 112, 116, 105, 111, 110]⟩, .string ⟨#[105, 110, 105, 116]⟩, .string ⟨#[101, 120, 116, 101, 114, 110, 97, 108]⟩] 9 (0, 0))
  p : wr.heap[H + 2]? = some (.cells #[.pointer (some ⟨ob, 3, none⟩), .pointer (some ⟨ob, 4, none⟩), .pointer (some ⟨ob, 5, none⟩), .pointer (some ⟨ob, 6, none⟩), .pointer (some ⟨ob, 7, none⟩), .pointer (some ⟨ob, 8, none⟩), .pointer (some ⟨ob, 10, none⟩), .pointer (some ⟨H, 0, none⟩)] 153 (0, 0))
  ez : ¬ Zr H
  lz : ¬ Zr (H + 1)
  pz : ¬ Zr (H + 2)
theorem QX.mv {wr w' : World} {Zr Z' : Nat → Prop} {ob H : Nat} {y : Int} (h : QX wr Zr ob H y) (m : Mv Zr wr Z' w') : QX w' Z' ob H y := by
  obtain ⟨a1, a2⟩ := Mv.cellR h.e m h.ez
  obtain ⟨b1, b2⟩ := Mv.cellR h.l m h.lz
  obtain ⟨c1, c2⟩ := Mv.cellR h.p m h.pz
  exact ⟨a1, b1, c1, a2, b2, c2⟩
theorem QX.put {wr : World} {Zr : Nat → Prop} {ob H b q : Nat} {y : Int} {v : Value} (h : QX wr Zr ob H y) (h0 : H ≠ b) (h1 : H + 1 ≠ b) (h2 : H + 2 ≠ b) : QX (wr.setCell ⟨b, q, none⟩ v) Zr ob H y :=
  ⟨by rw [Below.heap_setCell _ _ _ _ (by simp; omega)]; exact h.e, by rw [Below.heap_setCell _ _ _ _ (by simp; omega)]; exact h.l, by rw [Below.heap_setCell _ _ _ _ (by simp; omega)]; exact h.p, h.ez, h.lz, h.pz⟩
theorem QX.putE {wr : World} {Zr : Nat → Prop} {ob H : Nat} {y v : Int} (h : QX wr Zr ob H y) : QX (wr.setCell ⟨H, 0, none⟩ (.int .i64 v)) Zr ob H v :=
  ⟨by rw [heap_setCell_same _ _ _ _ _ _ h.e]; rfl, by rw [Below.heap_setCell _ _ _ _ (by simp)]; exact h.l, by rw [Below.heap_setCell _ _ _ _ (by simp)]; exact h.p, h.ez, h.lz, h.pz⟩
/-- Where the k-th of the fields lies. -/
def tgB (ob H k : Nat) : Nat := if k = 7 then H else ob
def tgO (k : Nat) : Nat := if k = 7 then 0 else if k = 6 then 10 else k + 3
theorem QX.ptr {wr : World} {Zr : Nat → Prop} {ob H k : Nat} {y : Int} (h : QX wr Zr ob H y) (hk : k < 8) : wr.cell? ⟨H + 2, k, none⟩ = some (.pointer (some ⟨tgB ob H k, tgO k, none⟩)) := by
  rw [cell_of_row wr (H + 2) k _ _ (0, 0) h.p]
  obtain rfl | rfl | rfl | rfl | rfl | rfl | rfl | rfl : k = 0 ∨ k = 1 ∨ k = 2 ∨ k = 3 ∨ k = 4 ∨ k = 5 ∨ k = 6 ∨ k = 7 := by omega
  all_goals rfl
theorem QX.lab {wr : World} {Zr : Nat → Prop} {ob H k : Nat} {y : Int} (h : QX wr Zr ob H y) (hk : k < 8) : ∃ lb, lbs8[k]? = some lb ∧ wr.cell? ⟨H + 1, k, none⟩ = some (.string lb) := by
  refine ⟨lbs8[k], List.getElem?_eq_getElem hk, ?_⟩
  rw [cell_of_row wr (H + 1) k _ _ (0, 0) h.l]
  obtain rfl | rfl | rfl | rfl | rfl | rfl | rfl | rfl : k = 0 ∨ k = 1 ∨ k = 2 ∨ k = 3 ∨ k = 4 ∨ k = 5 ∨ k = 6 ∨ k = 7 := by omega
  all_goals rfl
theorem bgS_lab {j p x : Int} {k : Nat} {lb : ByteArray} (h : lbs8[k]? = some lb) : (bgS j p x)[3 + k]? = some fun a ys => dvF ys (a.getD 2 0) lb := by
  have hk : k < 8 := (List.getElem?_eq_some_iff.1 h).1
  obtain rfl | rfl | rfl | rfl | rfl | rfl | rfl | rfl : k = 0 ∨ k = 1 ∨ k = 2 ∨ k = 3 ∨ k = 4 ∨ k = 5 ∨ k = 6 ∨ k = 7 := by omega
  all_goals (injection h with h; subst h; rfl)
/-- A round of the loop that went well. -/
theorem qi_round {w0 W wr w' : World} {Z Zr Z' : Nat → Prop} {sa ob H k : Nat} {j : Int} {R : List ND × List Int × Int} {f : List Int → List ND → Rs} (h : QI w0 W Z sa j (3 + k) R wr Zr ob) (hX : QX wr Zr ob H (R.2.1.getD 10 0)) (hw : w0.heap.size ≤ W.heap.size) (ho : ob < H) (hk : k < 8)
    (hl : LQ w0 w' Z' sa (f R.2.1 R.1).1) (m : Mv Zr wr Z' w') (he : (f R.2.1 R.1).2.2 = 0) (hsb : Sb (f R.2.1)) : ∃ Zq, QI w0 W Z sa j (3 + (k + 1)) (rnS R f) (w'.setCell ⟨tgB ob H k, tgO k, none⟩ (.int .i64 (f R.2.1 R.1).2.1)) Zq ob ∧ QX (w'.setCell ⟨tgB ob H k, tgO k, none⟩ (.int .i64 (f R.2.1 R.1).2.1)) Zq ob H ((rnS R f).2.1.getD 10 0) := by
  have hn := h.n
  have how := h.ow
  have hx := hX.mv m
  refine ⟨Z', ?_⟩
  have e := rnS_ok (f := f) h.e0 he
  by_cases h7 : k = 7
  · subst h7
    have q := (h.step0 hl m he hsb (epL_snoc0 hn (.inr rfl))).put hw (b := H) (q := 0) (v := .int .i64 (f R.2.1 R.1).2.1) (by omega) (by omega) hx.ez
    refine ⟨q, ?_⟩
    rw [e]
    dsimp only
    rw [getD_snoc hn]
    exact hx.putE
  · have e1 : tgB ob H k = ob := if_neg h7
    rw [e1]
    have hg : (rnS R f).2.1.getD 10 0 = R.2.1.getD 10 0 := by
      rw [e]
      dsimp only
      rw [getD_snoc hn, if_neg (by omega)]
    rw [hg]
    refine ⟨?_, hx.put (by omega) (by omega) (by omega)⟩
    by_cases h6 : k = 6
    · subst h6
      exact h.step hw hl m he hsb (epL_snoc9 hn)
    · have e2 : tgO k = 3 + k := by unfold tgO; rw [if_neg h7, if_neg h6]; omega
      rw [e2]
      exact h.step hw hl m he hsb (epL_snoc hn (by omega) (by omega))
theorem qi_cf {w : World} {b o : Nat} {cs : Array Value} {T : TypeId} {u : Value} (h : w.heap[b]? = some (.cells cs T (0, 0))) (hu : cs[o]? = some u) : ∃ u, w.cell? ⟨b, o, none⟩ = some u ∧ w.frozen? ⟨b, o, none⟩ = false :=
  ⟨u, (cell_of_row w b o _ _ _ h).trans hu, frozen_of_row w b o _ _ h⟩
theorem qi_tgt {w0 W wr w' : World} {Z Zr Z' : Nat → Prop} {sa ob H k : Nat} {j y : Int} {R : List ND × List Int × Int} {n : Nat} (h : QI w0 W Z sa j n R wr Zr ob) (hX : QX wr Zr ob H y) (hk : k < 8) (m : Mv Zr wr Z' w') : ∃ u, w'.cell? ⟨tgB ob H k, tgO k, none⟩ = some u ∧ w'.frozen? ⟨tgB ob H k, tgO k, none⟩ = false := by
  have a := (Mv.cellR h.o m h.oz).1
  have b := (hX.mv m).e
  obtain rfl | rfl | rfl | rfl | rfl | rfl | rfl | rfl : k = 0 ∨ k = 1 ∨ k = 2 ∨ k = 3 ∨ k = 4 ∨ k = 5 ∨ k = 6 ∨ k = 7 := by omega
  · exact qi_cf a rfl
  · exact qi_cf a rfl
  · exact qi_cf a rfl
  · exact qi_cf a rfl
  · exact qi_cf a rfl
  · exact qi_cf a rfl
  · exact qi_cf a rfl
  · exact qi_cf b rfl
theorem alloc_at (w : World) (o : Obj) : (w.alloc o).heap[w.heap.size]? = some o := Array.getElem?_push_size
section
variable {w0 W : World} {Z : Nat → Prop} {sa : Nat} {xs : List ND}
set_option maxHeartbeats 4000000 in
set_option maxRecDepth 100000 in
theorem q_beg (h : LQ w0 W Z sa xs) {j p x : Int} (hj : I64 j) (hp : I64 p) (hx : I64 x) :
    Calls Tryz.prog 77 #[.pointer (some ⟨sa, 0, none⟩), .int .i64 j, .int .i64 p, .int .i64 x] W (EpQ w0 W Z sa (begF xs j p x)) := by
  have HW := hid h.bl.size
  have HO0 := hid (show QO w0 W Z sa xs (W.alloc (.cells #[.int .i64 0, .int .i64 0, .int .i64 0, .int .i64 0, .int .i64 0, .int .i64 0, .int .i64 0, .int .i64 0, .int .i64 0, .int .i64 0, .int .i64 0] 29)) from ⟨Z, ⟨h.alloc _, Mv.alloc Z W _⟩, alloc_at _ _, fun hz => by have := h.ar.zlt _ hz; omega⟩)
  clear h
  go_enter Tryz.func77, Tryz.ntmps77
  go_upto_region 1 with fail
  refine forget (R := fun U => QO w0 W Z sa xs U) ?_ HO0.out
  clear HO0
  rintro V ⟨Z1, hX, hr, hz⟩
  have HC := hid (q_mix hX.1 hj hp)
  have HV := hid (And.intro hX (And.intro hr hz))
  clear hX hr hz
  by_cases he : (exF xs j p).2.2 = 0
  · have HIM := hid (fun U Zq (hla : LQ w0 U Zq sa (exF xs j p).1) => (show I64 (exF xs j p).2.1 from by
      have a := has_iff.1 ((sb_ex j p).has xs he)
      have b := hla.ar.ok.len
      try dsimp only at a b
      exact ⟨by omega, by omega⟩))
    obtain ⟨R, hR⟩ : ∃ R, R = bgR xs j p x 1 := ⟨_, rfl⟩
    have hR1 : R = ((exF xs j p).1, [(exF xs j p).2.1], 0) := by rw [hR]; exact run_cons_ok (f := fun _ ys => exF ys j p) he
    have HR := hid hR
    unfold LrQ at HC
    rw [he] at HC
    have HRE := hid (show R.1 = (exF xs j p).1 ∧ R.2.1 = [(exF xs j p).2.1] ∧ R.2.2 = 0 by rw [hR1]; exact ⟨rfl, rfl, rfl⟩)
    clear hR hR1 he
    generalize exF xs j p = r at *
    obtain ⟨Y, m, er⟩ := r
    dsimp only at *
    go_wp2_with fail
    refine HC.out.mono ?_
    rintro e w2 ⟨Z2, rfl, l2, m2⟩
    have HM := hid (HIM.out _ _ l2)
    have HI0 := hid (show QI w0 W Z sa j 1 R (w2.alloc (.cells #[.int .i64 j, .int .i64 0, .int .i64 0, .int .i64 0, .int .i64 0, .int .i64 0, .int .i64 0, .int .i64 0, .int .i64 0, .int .i64 0, .int .i64 0] 29)) Z2 w2.heap.size from by
      obtain ⟨a1, a2⟩ := Mv.cellR HV.out.2.1 m2 HV.out.2.2
      obtain ⟨b1, b2⟩ := Mv.cellR a1 (Mv.alloc Z2 w2 (.cells #[.int .i64 j, .int .i64 0, .int .i64 0, .int .i64 0, .int .i64 0, .int .i64 0, .int .i64 0, .int .i64 0, .int .i64 0, .int .i64 0, .int .i64 0] 29)) a2
      refine ⟨by rw [HRE.out.1]; exact l2.alloc _, (HV.out.1.2.trans m2).trans (Mv.alloc Z2 w2 _), b1, b2, by rw [HRE.out.2.1]; exact alloc_at _ _, fun hz => by have := l2.ar.zlt _ hz; omega, (Array.getElem?_eq_some_iff.1 a1).1, by rw [HRE.out.2.1]; rfl, fun a ha => ?_, HRE.out.2.2⟩
      rw [HRE.out.2.1, List.mem_singleton] at ha
      subst ha
      exact HM.out)
    clear l2 m2 HC HIM HV
    go_upto_region 5 with fail
    refine forget (R := fun U => QI w0 W Z sa j 1 R U Z2 w2.heap.size) ?_ HI0.out
    clear HI0
    generalize w2.heap.size = ob at *
    rintro V hI
    have HI := hid hI
    clear hI
    obtain ⟨r, hr⟩ : ∃ r : Rs, r = dvF R.1 (R.2.1.getD 0 0) lbWelcome := ⟨_, rfl⟩
    have HC := hid (q_dv HI.out.la HM.out lbWelcome)
    have hmm : R.2.1.getD 0 0 = m := by rw [HRE.out.2.1]; rfl
    rw [show dvF R.1 m lbWelcome = r from by rw [hr, hmm]] at HC
    have HNO := hid (fun he => beg_no (f := (fun a ys => dvF ys (a.getD 0 0) lbWelcome)) HR.out rfl HI.out.e0 he)
    have HST := hid (fun (U : World) (Zq : Nat → Prop) hl mm he => HI.out.step (f := (fun a ys => dvF ys (a.getD 0 0) lbWelcome)) (w' := U) (Z' := Zq) HW.out hl mm he (sb_dv _ _) (q := 1) (epL_snoc HI.out.n (by omega) (by omega)))
    rw [← hr] at HNO HST
    have HGD := hid (show r.2.2 = 0 → (rnS R ((fun a ys => dvF ys (a.getD 0 0) lbWelcome))).2.1.getD 0 0 = m from fun he => by rw [rnS_ok HI.out.e0 (by rw [← hr]; exact he)]; dsimp only; rw [getD_snoc HI.out.n]; exact hmm)
    have HNX := hid (bgR_next (f := (fun a ys => dvF ys (a.getD 0 0) lbWelcome)) HR.out rfl)
    clear hmm
    clear hr
    obtain ⟨Y, v, er⟩ := r
    dsimp only at HC HNO HST HGD
    unfold LrQ at HC
    dsimp only at HC
    have oc := fun (U : World) (Zq : Nat → Prop) (mm : Mv Z2 V Zq U) => (Mv.cellR HI.out.o mm HI.out.oz).1
    have HOC := hid oc
    clear oc
    by_cases he : er = 0
    case neg =>
      have hne : (er != 0) = true := bne_iff_ne.2 he
      have HB := hid (HNO.out he)
      clear HST HGD HNX
      go_wp2_with fail
      refine HC.out.mono ?_
      rintro e w3 ⟨Z3, rfl, l3, m3⟩
      have c1 : w3.cell? ⟨ob, 1, none⟩ = some (.int .i64 ((epL j R.2.1).getD 1 0)) := by rw [cell_of_row w3 ob 1 _ _ (0, 0) (HOC.out w3 Z3 m3)]; rfl
      have c2 : w3.frozen? ⟨ob, 1, none⟩ = false := frozen_of_row w3 ob 1 _ _ (HOC.out w3 Z3 m3)
      have HQO := hid (HI.out.no HW.out l3 m3 (q := 1) (v := .int .i64 v))
      clear l3 m3 HC HI HNO HOC
      go_upto_region 7 with fail
      refine forget (R := fun U => QO w0 W Z sa _ U) ?_ (HQO.out)
      rintro U ⟨Zu, hX, hr, hz⟩
      have HX := hid hX; have HZ := hid hz
      have r0 : U.cell? ⟨W.heap.size, 0, none⟩ = some (.int .i64 0) := by rw [cell_of_row U W.heap.size 0 _ _ (0, 0) hr]; rfl
      have f0 : U.frozen? ⟨W.heap.size, 0, none⟩ = false := frozen_of_row U W.heap.size 0 _ _ hr
      have r1 : U.cell? ⟨W.heap.size, 1, none⟩ = some (.int .i64 0) := by rw [cell_of_row U W.heap.size 1 _ _ (0, 0) hr]; rfl
      have f1 : U.frozen? ⟨W.heap.size, 1, none⟩ = false := frozen_of_row U W.heap.size 1 _ _ hr
      have r2 : U.cell? ⟨W.heap.size, 2, none⟩ = some (.int .i64 0) := by rw [cell_of_row U W.heap.size 2 _ _ (0, 0) hr]; rfl
      have f2 : U.frozen? ⟨W.heap.size, 2, none⟩ = false := frozen_of_row U W.heap.size 2 _ _ hr
      have r3 : U.cell? ⟨W.heap.size, 3, none⟩ = some (.int .i64 0) := by rw [cell_of_row U W.heap.size 3 _ _ (0, 0) hr]; rfl
      have f3 : U.frozen? ⟨W.heap.size, 3, none⟩ = false := frozen_of_row U W.heap.size 3 _ _ hr
      have r4 : U.cell? ⟨W.heap.size, 4, none⟩ = some (.int .i64 0) := by rw [cell_of_row U W.heap.size 4 _ _ (0, 0) hr]; rfl
      have f4 : U.frozen? ⟨W.heap.size, 4, none⟩ = false := frozen_of_row U W.heap.size 4 _ _ hr
      have r5 : U.cell? ⟨W.heap.size, 5, none⟩ = some (.int .i64 0) := by rw [cell_of_row U W.heap.size 5 _ _ (0, 0) hr]; rfl
      have f5 : U.frozen? ⟨W.heap.size, 5, none⟩ = false := frozen_of_row U W.heap.size 5 _ _ hr
      have r6 : U.cell? ⟨W.heap.size, 6, none⟩ = some (.int .i64 0) := by rw [cell_of_row U W.heap.size 6 _ _ (0, 0) hr]; rfl
      have f6 : U.frozen? ⟨W.heap.size, 6, none⟩ = false := frozen_of_row U W.heap.size 6 _ _ hr
      have r7 : U.cell? ⟨W.heap.size, 7, none⟩ = some (.int .i64 0) := by rw [cell_of_row U W.heap.size 7 _ _ (0, 0) hr]; rfl
      have f7 : U.frozen? ⟨W.heap.size, 7, none⟩ = false := frozen_of_row U W.heap.size 7 _ _ hr
      have r8 : U.cell? ⟨W.heap.size, 8, none⟩ = some (.int .i64 0) := by rw [cell_of_row U W.heap.size 8 _ _ (0, 0) hr]; rfl
      have f8 : U.frozen? ⟨W.heap.size, 8, none⟩ = false := frozen_of_row U W.heap.size 8 _ _ hr
      have r9 : U.cell? ⟨W.heap.size, 9, none⟩ = some (.int .i64 0) := by rw [cell_of_row U W.heap.size 9 _ _ (0, 0) hr]; rfl
      have f9 : U.frozen? ⟨W.heap.size, 9, none⟩ = false := frozen_of_row U W.heap.size 9 _ _ hr
      have r10 : U.cell? ⟨W.heap.size, 10, none⟩ = some (.int .i64 0) := by rw [cell_of_row U W.heap.size 10 _ _ (0, 0) hr]; rfl
      have f10 : U.frozen? ⟨W.heap.size, 10, none⟩ = false := frozen_of_row U W.heap.size 10 _ _ hr
      clear hX hr hz
      go_wp2_with fail
      refine bodyPost_ret (v := .tuple #[.agg #[.int .i64 0, .int .i64 0, .int .i64 0, .int .i64 0, .int .i64 0, .int .i64 0, .int .i64 0, .int .i64 0, .int .i64 0, .int .i64 0, .int .i64 0], .int .i64 er]) ?_ rfl (show EpQ _ _ _ _ _ _ _ from ⟨Zu, by rw [HB.out]; rfl, ?_⟩)
      · rw [results_cell_tmp rfl]
        go_simp
      · rw [HB.out]
        iterate 11 refine lq_set ?_ HZ.out (Nat.le_refl _) HW.out
        exact HX.out
    subst he
    have HGE := hid (HGD.out (by simp))
    clear HGD
    clear HNO
    go_wp2_with fail
    refine HC.out.mono ?_
    rintro e w3 ⟨Z3, rfl, l3, m3⟩
    have c1 : w3.cell? ⟨ob, 1, none⟩ = some (.int .i64 ((epL j R.2.1).getD 1 0)) := by rw [cell_of_row w3 ob 1 _ _ (0, 0) (HOC.out w3 _ m3)]; rfl
    have c2 : w3.frozen? ⟨ob, 1, none⟩ = false := frozen_of_row w3 ob 1 _ _ (HOC.out w3 _ m3)
    have HQI := hid (HST.out _ _ l3 m3 (by simp))
    clear l3 m3 HC HI HOC HST
    go_upto_region 8 with fail
    rw [HNX.out] at HQI
    rw [HNX.out] at HGE
    clear HR HRE
    clear HNX
    obtain ⟨R2, hR⟩ : ∃ R, R = bgR xs j p x 2 := ⟨_, rfl⟩
    rw [show bgR xs j p x (1 + 1) = R2 from hR.symm] at HQI HGE
    have HR := hid hR
    clear hR
    have HM0 := HGE
    clear HGE
    refine forget (R := fun U => QI w0 W Z sa j 2 R2 U Z3 ob) ?_ HQI.out
    clear HQI c1 c2
    rintro V2 hI
    have HI := hid hI
    clear hI
    obtain ⟨r, hr⟩ : ∃ r : Rs, r = exdF R2.1 (R2.2.1.getD 0 0) lbEpoch x := ⟨_, rfl⟩
    have HC := hid (q_exd HI.out.la HM.out hx lbEpoch)
    have hmm : R2.2.1.getD 0 0 = m := HM0.out
    rw [show exdF R2.1 m lbEpoch x = r from by rw [hr, hmm]] at HC
    have HNO := hid (fun he => beg_no (f := (fun a ys => exdF ys (a.getD 0 0) lbEpoch x)) HR.out rfl HI.out.e0 he)
    have HST := hid (fun (U : World) (Zq : Nat → Prop) hl mm he => HI.out.step (f := (fun a ys => exdF ys (a.getD 0 0) lbEpoch x)) (w' := U) (Z' := Zq) HW.out hl mm he (sb_exd _ _ _) (q := 2) (epL_snoc HI.out.n (by omega) (by omega)))
    rw [← hr] at HNO HST
    have HGD := hid (show r.2.2 = 0 → (rnS R2 ((fun a ys => exdF ys (a.getD 0 0) lbEpoch x))).2.1.getD 0 0 = m from fun he => by rw [rnS_ok HI.out.e0 (by rw [← hr]; exact he)]; dsimp only; rw [getD_snoc HI.out.n]; exact hmm)
    have HNX := hid (bgR_next (f := (fun a ys => exdF ys (a.getD 0 0) lbEpoch x)) HR.out rfl)
    clear hmm
    clear hr
    obtain ⟨Y, v, er⟩ := r
    dsimp only at HC HNO HST HGD
    unfold LrQ at HC
    dsimp only at HC
    have oc := fun (U : World) (Zq : Nat → Prop) (mm : Mv Z3 V2 Zq U) => (Mv.cellR HI.out.o mm HI.out.oz).1
    have HOC := hid oc
    clear oc
    by_cases he : er = 0
    case neg =>
      have hne : (er != 0) = true := bne_iff_ne.2 he
      have HB := hid (HNO.out he)
      clear HST HGD HNX
      go_wp2_with fail
      refine HC.out.mono ?_
      rintro e w3 ⟨Z3, rfl, l3, m3⟩
      have c1 : w3.cell? ⟨ob, 2, none⟩ = some (.int .i64 ((epL j R2.2.1).getD 2 0)) := by rw [cell_of_row w3 ob 2 _ _ (0, 0) (HOC.out w3 Z3 m3)]; rfl
      have c2 : w3.frozen? ⟨ob, 2, none⟩ = false := frozen_of_row w3 ob 2 _ _ (HOC.out w3 Z3 m3)
      have HQO := hid (HI.out.no HW.out l3 m3 (q := 2) (v := .int .i64 v))
      clear l3 m3 HC HI HNO HOC
      go_upto_region 10 with fail
      refine forget (R := fun U => QO w0 W Z sa _ U) ?_ (HQO.out)
      rintro U ⟨Zu, hX, hr, hz⟩
      have HX := hid hX; have HZ := hid hz
      have r0 : U.cell? ⟨W.heap.size, 0, none⟩ = some (.int .i64 0) := by rw [cell_of_row U W.heap.size 0 _ _ (0, 0) hr]; rfl
      have f0 : U.frozen? ⟨W.heap.size, 0, none⟩ = false := frozen_of_row U W.heap.size 0 _ _ hr
      have r1 : U.cell? ⟨W.heap.size, 1, none⟩ = some (.int .i64 0) := by rw [cell_of_row U W.heap.size 1 _ _ (0, 0) hr]; rfl
      have f1 : U.frozen? ⟨W.heap.size, 1, none⟩ = false := frozen_of_row U W.heap.size 1 _ _ hr
      have r2 : U.cell? ⟨W.heap.size, 2, none⟩ = some (.int .i64 0) := by rw [cell_of_row U W.heap.size 2 _ _ (0, 0) hr]; rfl
      have f2 : U.frozen? ⟨W.heap.size, 2, none⟩ = false := frozen_of_row U W.heap.size 2 _ _ hr
      have r3 : U.cell? ⟨W.heap.size, 3, none⟩ = some (.int .i64 0) := by rw [cell_of_row U W.heap.size 3 _ _ (0, 0) hr]; rfl
      have f3 : U.frozen? ⟨W.heap.size, 3, none⟩ = false := frozen_of_row U W.heap.size 3 _ _ hr
      have r4 : U.cell? ⟨W.heap.size, 4, none⟩ = some (.int .i64 0) := by rw [cell_of_row U W.heap.size 4 _ _ (0, 0) hr]; rfl
      have f4 : U.frozen? ⟨W.heap.size, 4, none⟩ = false := frozen_of_row U W.heap.size 4 _ _ hr
      have r5 : U.cell? ⟨W.heap.size, 5, none⟩ = some (.int .i64 0) := by rw [cell_of_row U W.heap.size 5 _ _ (0, 0) hr]; rfl
      have f5 : U.frozen? ⟨W.heap.size, 5, none⟩ = false := frozen_of_row U W.heap.size 5 _ _ hr
      have r6 : U.cell? ⟨W.heap.size, 6, none⟩ = some (.int .i64 0) := by rw [cell_of_row U W.heap.size 6 _ _ (0, 0) hr]; rfl
      have f6 : U.frozen? ⟨W.heap.size, 6, none⟩ = false := frozen_of_row U W.heap.size 6 _ _ hr
      have r7 : U.cell? ⟨W.heap.size, 7, none⟩ = some (.int .i64 0) := by rw [cell_of_row U W.heap.size 7 _ _ (0, 0) hr]; rfl
      have f7 : U.frozen? ⟨W.heap.size, 7, none⟩ = false := frozen_of_row U W.heap.size 7 _ _ hr
      have r8 : U.cell? ⟨W.heap.size, 8, none⟩ = some (.int .i64 0) := by rw [cell_of_row U W.heap.size 8 _ _ (0, 0) hr]; rfl
      have f8 : U.frozen? ⟨W.heap.size, 8, none⟩ = false := frozen_of_row U W.heap.size 8 _ _ hr
      have r9 : U.cell? ⟨W.heap.size, 9, none⟩ = some (.int .i64 0) := by rw [cell_of_row U W.heap.size 9 _ _ (0, 0) hr]; rfl
      have f9 : U.frozen? ⟨W.heap.size, 9, none⟩ = false := frozen_of_row U W.heap.size 9 _ _ hr
      have r10 : U.cell? ⟨W.heap.size, 10, none⟩ = some (.int .i64 0) := by rw [cell_of_row U W.heap.size 10 _ _ (0, 0) hr]; rfl
      have f10 : U.frozen? ⟨W.heap.size, 10, none⟩ = false := frozen_of_row U W.heap.size 10 _ _ hr
      clear hX hr hz
      go_wp2_with fail
      refine bodyPost_ret (v := .tuple #[.agg #[.int .i64 0, .int .i64 0, .int .i64 0, .int .i64 0, .int .i64 0, .int .i64 0, .int .i64 0, .int .i64 0, .int .i64 0, .int .i64 0, .int .i64 0], .int .i64 er]) ?_ rfl (show EpQ _ _ _ _ _ _ _ from ⟨Zu, by rw [HB.out]; rfl, ?_⟩)
      · rw [results_cell_tmp rfl]
        go_simp
      · rw [HB.out]
        iterate 11 refine lq_set ?_ HZ.out (Nat.le_refl _) HW.out
        exact HX.out
    subst he
    have HGE := hid (HGD.out (by simp))
    clear HGD
    clear HNO
    go_wp2_with fail
    refine HC.out.mono ?_
    rintro e w3 ⟨Z4, rfl, l3, m3⟩
    have c1 : w3.cell? ⟨ob, 2, none⟩ = some (.int .i64 ((epL j R2.2.1).getD 2 0)) := by rw [cell_of_row w3 ob 2 _ _ (0, 0) (HOC.out w3 _ m3)]; rfl
    have c2 : w3.frozen? ⟨ob, 2, none⟩ = false := frozen_of_row w3 ob 2 _ _ (HOC.out w3 _ m3)
    have HQI := hid (HST.out _ _ l3 m3 (by simp))
    clear l3 m3 HC HI HOC HST
    go_upto_region 11 with fail
    rw [HNX.out] at HQI
    rw [HNX.out] at HGE
    clear HR
    clear HNX
    obtain ⟨R3, hR⟩ : ∃ R, R = bgR xs j p x 3 := ⟨_, rfl⟩
    rw [show bgR xs j p x (2 + 1) = R3 from hR.symm] at HQI HGE
    have HR := hid hR
    clear hR
    have HM0 := HGE
    clear HGE
    refine forget (R := fun U => QI w0 W Z sa j 3 R3 U Z4 ob) ?_ HQI.out
    clear HQI c1 c2
    rintro V3 hI
    have HI := hid hI
    clear hI
    have HY0 := hid (show R3.2.1.getD 10 0 = 0 from by rw [List.getD, List.getElem?_eq_none (by have := HI.out.n; omega)]; rfl)
    have HOB := hid (show ob < V3.heap.size from (Array.getElem?_eq_some_iff.1 HI.out.o).1)
    have HI1 := hid (show QI w0 W Z sa j 3 R3 (((V3.alloc (.cells #[.int .i64 0] 3)).alloc (.cells #[.string ⟨#[115, 101, 110, 100, 101, 114]⟩, .string ⟨#[101, 110, 99, 114, 121, 112, 116, 105, 111, 110]⟩, .string ⟨#[101, 120, 112, 111, 114, 116, 101, 114]⟩, .string ⟨#[99, 111, 110, 102, 105, 114, 109]⟩, .string ⟨#[109, 101, 109, 98, 101, 114, 115, 104, 105, 112]⟩, .string ⟨#[114, 101, 115, 117, 109, 112, 116, 105, 111, 110]⟩, .string ⟨#[105, 110, 105, 116]⟩, .string ⟨#[101, 120, 116, 101, 114, 110, 97, 108]⟩] 9)).alloc (.cells #[.pointer (some ⟨ob, 3, none⟩), .pointer (some ⟨ob, 4, none⟩), .pointer (some ⟨ob, 5, none⟩), .pointer (some ⟨ob, 6, none⟩), .pointer (some ⟨ob, 7, none⟩), .pointer (some ⟨ob, 8, none⟩), .pointer (some ⟨ob, 10, none⟩), .pointer (some ⟨V3.heap.size, 0, none⟩)] 153)) Z4 ob from HI.out.mvm (((HI.out.la.alloc _).alloc _).alloc _) (((Mv.alloc Z4 V3 _).trans (Mv.alloc Z4 _ _)).trans (Mv.alloc Z4 _ _)))
    have HX1 := hid (show QX (((V3.alloc (.cells #[.int .i64 0] 3)).alloc (.cells #[.string ⟨#[115, 101, 110, 100, 101, 114]⟩, .string ⟨#[101, 110, 99, 114, 121, 112, 116, 105, 111, 110]⟩, .string ⟨#[101, 120, 112, 111, 114, 116, 101, 114]⟩, .string ⟨#[99, 111, 110, 102, 105, 114, 109]⟩, .string ⟨#[109, 101, 109, 98, 101, 114, 115, 104, 105, 112]⟩, .string ⟨#[114, 101, 115, 117, 109, 112, 116, 105, 111, 110]⟩, .string ⟨#[105, 110, 105, 116]⟩, .string ⟨#[101, 120, 116, 101, 114, 110, 97, 108]⟩] 9)).alloc (.cells #[.pointer (some ⟨ob, 3, none⟩), .pointer (some ⟨ob, 4, none⟩), .pointer (some ⟨ob, 5, none⟩), .pointer (some ⟨ob, 6, none⟩), .pointer (some ⟨ob, 7, none⟩), .pointer (some ⟨ob, 8, none⟩), .pointer (some ⟨ob, 10, none⟩), .pointer (some ⟨V3.heap.size, 0, none⟩)] 153)) Z4 ob V3.heap.size (R3.2.1.getD 10 0) from by
      have a1 := Mv.cellR (Mv.cellR (alloc_at V3 (.cells #[.int .i64 0] 3)) (Mv.alloc Z4 _ (.cells #[.string ⟨#[115, 101, 110, 100, 101, 114]⟩, .string ⟨#[101, 110, 99, 114, 121, 112, 116, 105, 111, 110]⟩, .string ⟨#[101, 120, 112, 111, 114, 116, 101, 114]⟩, .string ⟨#[99, 111, 110, 102, 105, 114, 109]⟩, .string ⟨#[109, 101, 109, 98, 101, 114, 115, 104, 105, 112]⟩, .string ⟨#[114, 101, 115, 117, 109, 112, 116, 105, 111, 110]⟩, .string ⟨#[105, 110, 105, 116]⟩, .string ⟨#[101, 120, 116, 101, 114, 110, 97, 108]⟩] 9)) (fun hz => by have := HI.out.la.ar.zlt _ hz; omega)).1 (Mv.alloc Z4 _ (.cells #[.pointer (some ⟨ob, 3, none⟩), .pointer (some ⟨ob, 4, none⟩), .pointer (some ⟨ob, 5, none⟩), .pointer (some ⟨ob, 6, none⟩), .pointer (some ⟨ob, 7, none⟩), .pointer (some ⟨ob, 8, none⟩), .pointer (some ⟨ob, 10, none⟩), .pointer (some ⟨V3.heap.size, 0, none⟩)] 153)) (fun hz => by have := HI.out.la.ar.zlt _ hz; omega)
      have a2 := Mv.cellR (alloc_at (V3.alloc (.cells #[.int .i64 0] 3)) (.cells #[.string ⟨#[115, 101, 110, 100, 101, 114]⟩, .string ⟨#[101, 110, 99, 114, 121, 112, 116, 105, 111, 110]⟩, .string ⟨#[101, 120, 112, 111, 114, 116, 101, 114]⟩, .string ⟨#[99, 111, 110, 102, 105, 114, 109]⟩, .string ⟨#[109, 101, 109, 98, 101, 114, 115, 104, 105, 112]⟩, .string ⟨#[114, 101, 115, 117, 109, 112, 116, 105, 111, 110]⟩, .string ⟨#[105, 110, 105, 116]⟩, .string ⟨#[101, 120, 116, 101, 114, 110, 97, 108]⟩] 9)) (Mv.alloc Z4 _ (.cells #[.pointer (some ⟨ob, 3, none⟩), .pointer (some ⟨ob, 4, none⟩), .pointer (some ⟨ob, 5, none⟩), .pointer (some ⟨ob, 6, none⟩), .pointer (some ⟨ob, 7, none⟩), .pointer (some ⟨ob, 8, none⟩), .pointer (some ⟨ob, 10, none⟩), .pointer (some ⟨V3.heap.size, 0, none⟩)] 153)) (fun hz => by have := (HI.out.la.alloc (.cells #[.int .i64 0] 3)).ar.zlt _ hz; omega)
      have a3 := alloc_at ((V3.alloc (.cells #[.int .i64 0] 3)).alloc (.cells #[.string ⟨#[115, 101, 110, 100, 101, 114]⟩, .string ⟨#[101, 110, 99, 114, 121, 112, 116, 105, 111, 110]⟩, .string ⟨#[101, 120, 112, 111, 114, 116, 101, 114]⟩, .string ⟨#[99, 111, 110, 102, 105, 114, 109]⟩, .string ⟨#[109, 101, 109, 98, 101, 114, 115, 104, 105, 112]⟩, .string ⟨#[114, 101, 115, 117, 109, 112, 116, 105, 111, 110]⟩, .string ⟨#[105, 110, 105, 116]⟩, .string ⟨#[101, 120, 116, 101, 114, 110, 97, 108]⟩] 9)) (.cells #[.pointer (some ⟨ob, 3, none⟩), .pointer (some ⟨ob, 4, none⟩), .pointer (some ⟨ob, 5, none⟩), .pointer (some ⟨ob, 6, none⟩), .pointer (some ⟨ob, 7, none⟩), .pointer (some ⟨ob, 8, none⟩), .pointer (some ⟨ob, 10, none⟩), .pointer (some ⟨V3.heap.size, 0, none⟩)] 153)
      have e1 : (V3.alloc (.cells #[.int .i64 0] 3)).heap.size = V3.heap.size + 1 := Array.size_push _
      have e2 : ((V3.alloc (.cells #[.int .i64 0] 3)).alloc (.cells #[.string ⟨#[115, 101, 110, 100, 101, 114]⟩, .string ⟨#[101, 110, 99, 114, 121, 112, 116, 105, 111, 110]⟩, .string ⟨#[101, 120, 112, 111, 114, 116, 101, 114]⟩, .string ⟨#[99, 111, 110, 102, 105, 114, 109]⟩, .string ⟨#[109, 101, 109, 98, 101, 114, 115, 104, 105, 112]⟩, .string ⟨#[114, 101, 115, 117, 109, 112, 116, 105, 111, 110]⟩, .string ⟨#[105, 110, 105, 116]⟩, .string ⟨#[101, 120, 116, 101, 114, 110, 97, 108]⟩] 9)).heap.size = V3.heap.size + 2 := (Array.size_push _).trans (by rw [e1])
      rw [e1] at a2
      rw [e2] at a3
      rw [HY0.out]
      exact ⟨a1.1, a2.1, a3, a1.2, a2.2, fun hz => by have := HI.out.la.ar.zlt _ hz; omega⟩)
    clear HY0 HI
    go_wp2_with fail
    generalize V3.heap.size = H at *
    go_loopw [66] (fun v wr => ∃ (k : Nat) (R : List ND × List Int × Int) (Zr : Nat → Prop), v = .int .i64 k ∧ k ≤ 8 ∧ Hid (R = bgR xs j p x (3 + k)) ∧ QI w0 W Z sa j (3 + k) R wr Zr ob ∧ QX wr Zr ob H (R.2.1.getD 10 0)) (fun v _ => 8 - (intOf v).toNat)
    case atStart => exact ⟨0, R3, Z4, rfl, by omega, hid HR.out, HI1.out, HX1.out⟩
    case round =>
      clear HI1 HX1 HR HM HM0
      obtain ⟨k, R, Zr, hv, hk, hR, hI, hX⟩ := hrel
      have HI := hid hI; have HX := hid hX
      clear hI hX
      by_cases hlt : k < 8
      · subst hv
        obtain ⟨lb, hlb, hcl⟩ := HX.out.lab hlt
        have hcp := HX.out.ptr hlt
        have hc2 : wr.cell? ⟨ob, 2, none⟩ = some (.int .i64 (R.2.1.getD 2 0)) := HI.out.cell rfl
        have HC := hid (q_dv (W := wr.drew) (HI.out.la.ext (below_drew (Below.refl _ _))) (i64_getD HI.out.i64 2) lb)
        have HNO := hid (fun he => beg_no (f := fun a ys => dvF ys (a.getD 2 0) lb) hR.out (bgS_lab hlb) HI.out.e0 he)
        have HNX := hid (bgR_next (f := fun a ys => dvF ys (a.getD 2 0) lb) hR.out (bgS_lab hlb))
        have HRD := hid (fun (U : World) (Zq : Nat → Prop) hl mm he => qi_round (f := fun a ys => dvF ys (a.getD 2 0) lb) (w' := U) (Z' := Zq) HI.out HX.out HW.out HOB.out hlt hl mm he (sb_dv _ _))
        have HTG := hid (fun (U : World) (Zq : Nat → Prop) (mm : Mv Zr wr Zq U) => qi_tgt HI.out HX.out hlt mm)
        have hlt' : (k : Int) < 8 := by omega
        have HLT := hid hlt
        obtain ⟨r, hr⟩ : ∃ r : Rs, r = dvF R.1 (R.2.1.getD 2 0) lb := ⟨_, rfl⟩
        rw [← hr] at HC HNO HRD
        clear hr hlb
        generalize R.2.1.getD 2 0 = ep2 at *
        generalize tgB ob H k = tb at *
        generalize tgO k = tq at *
        obtain ⟨Y, v, er⟩ := r
        dsimp only at HC HNO HRD
        unfold LrQ at HC
        dsimp only at HC
        go_upto_region 16 with fail
        go_cut [17, 18] from 71 to 81 (fun a b U => a = .int .i64 v ∧ b = .int .i64 er ∧ ∃ Z3, LQ w0 U Z3 sa Y ∧ Mv Zr wr.drew Z3 U)
        case first =>
          clear HNO HRD HNX HTG
          go_region_with (go_at_call 89; refine HC.out.mono ?_; rintro e9 w9 ⟨Z9, rfl, l9, m9⟩; have S9 := hid (And.intro l9 m9); clear l9 m9)
          all_goals (go_wp2_with fail; go_meet; exact ⟨rfl, rfl, _, S9.out.1, S9.out.2⟩)
        obtain ⟨hca, hcb, Z3, l3, m3⟩ := hcut
        subst hca; subst hcb
        have M3 := hid ((Mv.below (below_drew (Below.refl _ _))).trans m3)
        have L3 := hid l3
        clear l3 m3 HC hcp hcl hc2
        by_cases he : er = 0
        case neg =>
          have hne : (er != 0) = true := bne_iff_ne.2 he
          have HB := hid (HNO.out he)
          clear HRD HNX HTG
          have HQO := hid (HI.out.no0 L3.out M3.out)
          clear HI HX HNO L3
          go_upto_region 18 with fail
          refine forget (R := fun U => QO w0 W Z sa _ U) ?_ (HQO.out)
          rintro U ⟨Zu, hX, hr, hz⟩
          have HX := hid hX; have HZ := hid hz
          have r0 : U.cell? ⟨W.heap.size, 0, none⟩ = some (.int .i64 0) := by rw [cell_of_row U W.heap.size 0 _ _ (0, 0) hr]; rfl
          have f0 : U.frozen? ⟨W.heap.size, 0, none⟩ = false := frozen_of_row U W.heap.size 0 _ _ hr
          have r1 : U.cell? ⟨W.heap.size, 1, none⟩ = some (.int .i64 0) := by rw [cell_of_row U W.heap.size 1 _ _ (0, 0) hr]; rfl
          have f1 : U.frozen? ⟨W.heap.size, 1, none⟩ = false := frozen_of_row U W.heap.size 1 _ _ hr
          have r2 : U.cell? ⟨W.heap.size, 2, none⟩ = some (.int .i64 0) := by rw [cell_of_row U W.heap.size 2 _ _ (0, 0) hr]; rfl
          have f2 : U.frozen? ⟨W.heap.size, 2, none⟩ = false := frozen_of_row U W.heap.size 2 _ _ hr
          have r3 : U.cell? ⟨W.heap.size, 3, none⟩ = some (.int .i64 0) := by rw [cell_of_row U W.heap.size 3 _ _ (0, 0) hr]; rfl
          have f3 : U.frozen? ⟨W.heap.size, 3, none⟩ = false := frozen_of_row U W.heap.size 3 _ _ hr
          have r4 : U.cell? ⟨W.heap.size, 4, none⟩ = some (.int .i64 0) := by rw [cell_of_row U W.heap.size 4 _ _ (0, 0) hr]; rfl
          have f4 : U.frozen? ⟨W.heap.size, 4, none⟩ = false := frozen_of_row U W.heap.size 4 _ _ hr
          have r5 : U.cell? ⟨W.heap.size, 5, none⟩ = some (.int .i64 0) := by rw [cell_of_row U W.heap.size 5 _ _ (0, 0) hr]; rfl
          have f5 : U.frozen? ⟨W.heap.size, 5, none⟩ = false := frozen_of_row U W.heap.size 5 _ _ hr
          have r6 : U.cell? ⟨W.heap.size, 6, none⟩ = some (.int .i64 0) := by rw [cell_of_row U W.heap.size 6 _ _ (0, 0) hr]; rfl
          have f6 : U.frozen? ⟨W.heap.size, 6, none⟩ = false := frozen_of_row U W.heap.size 6 _ _ hr
          have r7 : U.cell? ⟨W.heap.size, 7, none⟩ = some (.int .i64 0) := by rw [cell_of_row U W.heap.size 7 _ _ (0, 0) hr]; rfl
          have f7 : U.frozen? ⟨W.heap.size, 7, none⟩ = false := frozen_of_row U W.heap.size 7 _ _ hr
          have r8 : U.cell? ⟨W.heap.size, 8, none⟩ = some (.int .i64 0) := by rw [cell_of_row U W.heap.size 8 _ _ (0, 0) hr]; rfl
          have f8 : U.frozen? ⟨W.heap.size, 8, none⟩ = false := frozen_of_row U W.heap.size 8 _ _ hr
          have r9 : U.cell? ⟨W.heap.size, 9, none⟩ = some (.int .i64 0) := by rw [cell_of_row U W.heap.size 9 _ _ (0, 0) hr]; rfl
          have f9 : U.frozen? ⟨W.heap.size, 9, none⟩ = false := frozen_of_row U W.heap.size 9 _ _ hr
          have r10 : U.cell? ⟨W.heap.size, 10, none⟩ = some (.int .i64 0) := by rw [cell_of_row U W.heap.size 10 _ _ (0, 0) hr]; rfl
          have f10 : U.frozen? ⟨W.heap.size, 10, none⟩ = false := frozen_of_row U W.heap.size 10 _ _ hr
          clear hX hr hz
          go_wp2_with fail
          refine bodyPost_ret (v := .tuple #[.agg #[.int .i64 0, .int .i64 0, .int .i64 0, .int .i64 0, .int .i64 0, .int .i64 0, .int .i64 0, .int .i64 0, .int .i64 0, .int .i64 0, .int .i64 0], .int .i64 er]) ?_ rfl (show EpQ _ _ _ _ _ _ _ from ⟨Zu, by rw [HB.out]; rfl, ?_⟩)
          · rw [results_cell_tmp rfl]
            go_simp
          · rw [HB.out]
            iterate 11 refine lq_set ?_ HZ.out (Nat.le_refl _) HW.out
            exact HX.out
        subst he
        clear HNO
        obtain ⟨u, ct, zt⟩ := HTG.out wc Z3 M3.out
        obtain ⟨Zq, hQ, hQX⟩ := HRD.out wc Z3 L3.out M3.out (by simp)
        have HQ := hid hQ; have HQX := hid hQX
        clear hQ hQX L3 M3 HI HX HTG HRD hR
        go_wp2_with fail
        go_roundw
        case rel => exact ⟨k + 1, _, Zq, by go_num, by have := HLT.out; omega, hid HNX.out, HQ.out, HQX.out⟩
        case measure => have := HLT.out; simp [intOf]; omega
      · obtain rfl : k = 8 := by omega
        have hv' : u66 = .int .i64 8 := hv
        clear hv
        subst hv'
        clear hlt hk
        have hce : wr.cell? ⟨H, 0, none⟩ = some (.int .i64 (R.2.1.getD 10 0)) := by rw [cell_of_row wr H 0 _ _ (0, 0) HX.out.e]; rfl
        have HC := hid (q_pub HI.out.la (i64_getD HI.out.i64 10))
        have HNO := hid (fun he => beg_no (f := fun a ys => pbF ys (a.getD 10 0)) hR.out rfl HI.out.e0 he)
        have HNX := hid (bgR_next (f := fun a ys => pbF ys (a.getD 10 0)) hR.out rfl)
        have HST := hid (fun (U : World) (Zq : Nat → Prop) hl mm he => HI.out.step (f := fun a ys => pbF ys (a.getD 10 0)) (w' := U) (Z' := Zq) HW.out hl mm he (sb_pb _) (q := 9) (epL_snoc11 HI.out.n))
        have HOC := hid (fun (U : World) (Zq : Nat → Prop) (mm : Mv Zr wr Zq U) => (Mv.cellR HI.out.o mm HI.out.oz).1)
        obtain ⟨r, hr⟩ : ∃ r : Rs, r = pbF R.1 (R.2.1.getD 10 0) := ⟨_, rfl⟩
        rw [← hr] at HC HNO HST
        clear hr
        generalize R.2.1.getD 10 0 = ext at *
        obtain ⟨Y, v, er⟩ := r
        dsimp only at HC HNO HST
        unfold LrQ at HC
        dsimp only at HC
        by_cases he : er = 0
        case neg =>
          have hne : (er != 0) = true := bne_iff_ne.2 he
          have HB := hid (HNO.out he)
          clear HST HNX
          go_wp2_with fail
          refine HC.out.mono ?_
          rintro e w3 ⟨Z3, rfl, l3, m3⟩
          have c1 : w3.cell? ⟨ob, 9, none⟩ = some (.int .i64 ((epL j R.2.1).getD 9 0)) := by rw [cell_of_row w3 ob 9 _ _ (0, 0) (HOC.out w3 Z3 m3)]; rfl
          have c2 : w3.frozen? ⟨ob, 9, none⟩ = false := frozen_of_row w3 ob 9 _ _ (HOC.out w3 Z3 m3)
          have HQO := hid (HI.out.no HW.out l3 m3 (q := 9) (v := .int .i64 v))
          clear l3 m3 HC HI HX HNO HOC hce
          go_upto_region 23 with fail
          refine forget (R := fun U => QO w0 W Z sa _ U) ?_ (HQO.out)
          rintro U ⟨Zu, hX, hr, hz⟩
          have HX := hid hX; have HZ := hid hz
          have r0 : U.cell? ⟨W.heap.size, 0, none⟩ = some (.int .i64 0) := by rw [cell_of_row U W.heap.size 0 _ _ (0, 0) hr]; rfl
          have f0 : U.frozen? ⟨W.heap.size, 0, none⟩ = false := frozen_of_row U W.heap.size 0 _ _ hr
          have r1 : U.cell? ⟨W.heap.size, 1, none⟩ = some (.int .i64 0) := by rw [cell_of_row U W.heap.size 1 _ _ (0, 0) hr]; rfl
          have f1 : U.frozen? ⟨W.heap.size, 1, none⟩ = false := frozen_of_row U W.heap.size 1 _ _ hr
          have r2 : U.cell? ⟨W.heap.size, 2, none⟩ = some (.int .i64 0) := by rw [cell_of_row U W.heap.size 2 _ _ (0, 0) hr]; rfl
          have f2 : U.frozen? ⟨W.heap.size, 2, none⟩ = false := frozen_of_row U W.heap.size 2 _ _ hr
          have r3 : U.cell? ⟨W.heap.size, 3, none⟩ = some (.int .i64 0) := by rw [cell_of_row U W.heap.size 3 _ _ (0, 0) hr]; rfl
          have f3 : U.frozen? ⟨W.heap.size, 3, none⟩ = false := frozen_of_row U W.heap.size 3 _ _ hr
          have r4 : U.cell? ⟨W.heap.size, 4, none⟩ = some (.int .i64 0) := by rw [cell_of_row U W.heap.size 4 _ _ (0, 0) hr]; rfl
          have f4 : U.frozen? ⟨W.heap.size, 4, none⟩ = false := frozen_of_row U W.heap.size 4 _ _ hr
          have r5 : U.cell? ⟨W.heap.size, 5, none⟩ = some (.int .i64 0) := by rw [cell_of_row U W.heap.size 5 _ _ (0, 0) hr]; rfl
          have f5 : U.frozen? ⟨W.heap.size, 5, none⟩ = false := frozen_of_row U W.heap.size 5 _ _ hr
          have r6 : U.cell? ⟨W.heap.size, 6, none⟩ = some (.int .i64 0) := by rw [cell_of_row U W.heap.size 6 _ _ (0, 0) hr]; rfl
          have f6 : U.frozen? ⟨W.heap.size, 6, none⟩ = false := frozen_of_row U W.heap.size 6 _ _ hr
          have r7 : U.cell? ⟨W.heap.size, 7, none⟩ = some (.int .i64 0) := by rw [cell_of_row U W.heap.size 7 _ _ (0, 0) hr]; rfl
          have f7 : U.frozen? ⟨W.heap.size, 7, none⟩ = false := frozen_of_row U W.heap.size 7 _ _ hr
          have r8 : U.cell? ⟨W.heap.size, 8, none⟩ = some (.int .i64 0) := by rw [cell_of_row U W.heap.size 8 _ _ (0, 0) hr]; rfl
          have f8 : U.frozen? ⟨W.heap.size, 8, none⟩ = false := frozen_of_row U W.heap.size 8 _ _ hr
          have r9 : U.cell? ⟨W.heap.size, 9, none⟩ = some (.int .i64 0) := by rw [cell_of_row U W.heap.size 9 _ _ (0, 0) hr]; rfl
          have f9 : U.frozen? ⟨W.heap.size, 9, none⟩ = false := frozen_of_row U W.heap.size 9 _ _ hr
          have r10 : U.cell? ⟨W.heap.size, 10, none⟩ = some (.int .i64 0) := by rw [cell_of_row U W.heap.size 10 _ _ (0, 0) hr]; rfl
          have f10 : U.frozen? ⟨W.heap.size, 10, none⟩ = false := frozen_of_row U W.heap.size 10 _ _ hr
          clear hX hr hz
          go_wp2_with fail
          refine bodyPost_ret (v := .tuple #[.agg #[.int .i64 0, .int .i64 0, .int .i64 0, .int .i64 0, .int .i64 0, .int .i64 0, .int .i64 0, .int .i64 0, .int .i64 0, .int .i64 0, .int .i64 0], .int .i64 er]) ?_ rfl (show EpQ _ _ _ _ _ _ _ from ⟨Zu, by rw [HB.out]; rfl, ?_⟩)
          · rw [results_cell_tmp rfl]
            go_simp
          · rw [HB.out]
            iterate 11 refine lq_set ?_ HZ.out (Nat.le_refl _) HW.out
            exact HX.out
        subst he
        clear HNO
        go_wp2_with fail
        refine HC.out.mono ?_
        rintro e w3 ⟨Z3, rfl, l3, m3⟩
        have c1 : w3.cell? ⟨ob, 9, none⟩ = some (.int .i64 ((epL j R.2.1).getD 9 0)) := by rw [cell_of_row w3 ob 9 _ _ (0, 0) (HOC.out w3 _ m3)]; rfl
        have c2 : w3.frozen? ⟨ob, 9, none⟩ = false := frozen_of_row w3 ob 9 _ _ (HOC.out w3 _ m3)
        have HQI := hid (HST.out _ _ l3 m3 (by simp))
        clear l3 m3 HC HI HX HOC HST hce
        go_upto_region 24 with fail
        rw [HNX.out] at HQI
        clear hR HNX
        obtain ⟨R5, hR⟩ : ∃ R, R = bgR xs j p x 12 := ⟨_, rfl⟩
        rw [show bgR xs j p x (3 + 8 + 1) = R5 from hR.symm] at HQI
        have HBY := hid (beg_yes hR HQI.out.e0)
        clear hR
        refine forget (R := fun U => QI w0 W Z sa j (3 + 8 + 1) R5 U Z3 ob) ?_ HQI.out
        clear HQI c1 c2
        rintro V5 hI
        have HX := hid (And.intro hI.la hI.mv)
        have HZ := hid hI.rz
        have hor := hI.o
        have hrr := hI.r
        clear hI
        obtain ⟨ep, hep⟩ : ∃ ep, ep = epL j R5.2.1 := ⟨_, rfl⟩
        rw [← hep] at hor HBY
        have h11 : ep.length = 11 := by rw [hep]; rfl
        clear hep
        obtain ⟨e0, e1, e2, e3, e4, e5, e6, e7, e8, e9, e10, rfl⟩ := len11 h11
        clear h11
        have o0 : V5.cell? ⟨ob, 0, none⟩ = some (.int .i64 e0) := by rw [cell_of_row V5 ob 0 _ _ (0, 0) hor]; rfl
        have o1 : V5.cell? ⟨ob, 1, none⟩ = some (.int .i64 e1) := by rw [cell_of_row V5 ob 1 _ _ (0, 0) hor]; rfl
        have o2 : V5.cell? ⟨ob, 2, none⟩ = some (.int .i64 e2) := by rw [cell_of_row V5 ob 2 _ _ (0, 0) hor]; rfl
        have o3 : V5.cell? ⟨ob, 3, none⟩ = some (.int .i64 e3) := by rw [cell_of_row V5 ob 3 _ _ (0, 0) hor]; rfl
        have o4 : V5.cell? ⟨ob, 4, none⟩ = some (.int .i64 e4) := by rw [cell_of_row V5 ob 4 _ _ (0, 0) hor]; rfl
        have o5 : V5.cell? ⟨ob, 5, none⟩ = some (.int .i64 e5) := by rw [cell_of_row V5 ob 5 _ _ (0, 0) hor]; rfl
        have o6 : V5.cell? ⟨ob, 6, none⟩ = some (.int .i64 e6) := by rw [cell_of_row V5 ob 6 _ _ (0, 0) hor]; rfl
        have o7 : V5.cell? ⟨ob, 7, none⟩ = some (.int .i64 e7) := by rw [cell_of_row V5 ob 7 _ _ (0, 0) hor]; rfl
        have o8 : V5.cell? ⟨ob, 8, none⟩ = some (.int .i64 e8) := by rw [cell_of_row V5 ob 8 _ _ (0, 0) hor]; rfl
        have o9 : V5.cell? ⟨ob, 9, none⟩ = some (.int .i64 e9) := by rw [cell_of_row V5 ob 9 _ _ (0, 0) hor]; rfl
        have o10 : V5.cell? ⟨ob, 10, none⟩ = some (.int .i64 e10) := by rw [cell_of_row V5 ob 10 _ _ (0, 0) hor]; rfl
        have r0 : V5.cell? ⟨W.heap.size, 0, none⟩ = some (.int .i64 0) := by rw [cell_of_row V5 W.heap.size 0 _ _ (0, 0) hrr]; rfl
        have f0 : V5.frozen? ⟨W.heap.size, 0, none⟩ = false := frozen_of_row V5 W.heap.size 0 _ _ hrr
        have r1 : V5.cell? ⟨W.heap.size, 1, none⟩ = some (.int .i64 0) := by rw [cell_of_row V5 W.heap.size 1 _ _ (0, 0) hrr]; rfl
        have f1 : V5.frozen? ⟨W.heap.size, 1, none⟩ = false := frozen_of_row V5 W.heap.size 1 _ _ hrr
        have r2 : V5.cell? ⟨W.heap.size, 2, none⟩ = some (.int .i64 0) := by rw [cell_of_row V5 W.heap.size 2 _ _ (0, 0) hrr]; rfl
        have f2 : V5.frozen? ⟨W.heap.size, 2, none⟩ = false := frozen_of_row V5 W.heap.size 2 _ _ hrr
        have r3 : V5.cell? ⟨W.heap.size, 3, none⟩ = some (.int .i64 0) := by rw [cell_of_row V5 W.heap.size 3 _ _ (0, 0) hrr]; rfl
        have f3 : V5.frozen? ⟨W.heap.size, 3, none⟩ = false := frozen_of_row V5 W.heap.size 3 _ _ hrr
        have r4 : V5.cell? ⟨W.heap.size, 4, none⟩ = some (.int .i64 0) := by rw [cell_of_row V5 W.heap.size 4 _ _ (0, 0) hrr]; rfl
        have f4 : V5.frozen? ⟨W.heap.size, 4, none⟩ = false := frozen_of_row V5 W.heap.size 4 _ _ hrr
        have r5 : V5.cell? ⟨W.heap.size, 5, none⟩ = some (.int .i64 0) := by rw [cell_of_row V5 W.heap.size 5 _ _ (0, 0) hrr]; rfl
        have f5 : V5.frozen? ⟨W.heap.size, 5, none⟩ = false := frozen_of_row V5 W.heap.size 5 _ _ hrr
        have r6 : V5.cell? ⟨W.heap.size, 6, none⟩ = some (.int .i64 0) := by rw [cell_of_row V5 W.heap.size 6 _ _ (0, 0) hrr]; rfl
        have f6 : V5.frozen? ⟨W.heap.size, 6, none⟩ = false := frozen_of_row V5 W.heap.size 6 _ _ hrr
        have r7 : V5.cell? ⟨W.heap.size, 7, none⟩ = some (.int .i64 0) := by rw [cell_of_row V5 W.heap.size 7 _ _ (0, 0) hrr]; rfl
        have f7 : V5.frozen? ⟨W.heap.size, 7, none⟩ = false := frozen_of_row V5 W.heap.size 7 _ _ hrr
        have r8 : V5.cell? ⟨W.heap.size, 8, none⟩ = some (.int .i64 0) := by rw [cell_of_row V5 W.heap.size 8 _ _ (0, 0) hrr]; rfl
        have f8 : V5.frozen? ⟨W.heap.size, 8, none⟩ = false := frozen_of_row V5 W.heap.size 8 _ _ hrr
        have r9 : V5.cell? ⟨W.heap.size, 9, none⟩ = some (.int .i64 0) := by rw [cell_of_row V5 W.heap.size 9 _ _ (0, 0) hrr]; rfl
        have f9 : V5.frozen? ⟨W.heap.size, 9, none⟩ = false := frozen_of_row V5 W.heap.size 9 _ _ hrr
        have r10 : V5.cell? ⟨W.heap.size, 10, none⟩ = some (.int .i64 0) := by rw [cell_of_row V5 W.heap.size 10 _ _ (0, 0) hrr]; rfl
        have f10 : V5.frozen? ⟨W.heap.size, 10, none⟩ = false := frozen_of_row V5 W.heap.size 10 _ _ hrr
        clear hor hrr
        go_wp2_with fail
        refine bodyPost_ret (v := .tuple #[.agg #[.int .i64 e0, .int .i64 e1, .int .i64 e2, .int .i64 e3, .int .i64 e4, .int .i64 e5, .int .i64 e6, .int .i64 e7, .int .i64 e8, .int .i64 e9, .int .i64 e10], .int .i64 0]) ?_ rfl (show EpQ _ _ _ _ _ _ _ from ⟨Z3, by rw [HBY.out]; rfl, ?_⟩)
        · rw [results_cell_tmp rfl]
          go_simp
        · rw [HBY.out]
          iterate 11 refine lq_set ?_ HZ.out (Nat.le_refl _) HW.out
          exact HX.out
  · have hne : ((exF xs j p).2.2 != 0) = true := bne_iff_ne.2 he
    have HB := hid (show begF xs j p x = ((exF xs j p).1, epZ, (exF xs j p).2.2) from beg_no (k := 0) (f := fun _ ys => exF ys j p) (R := (xs, [], 0)) rfl rfl rfl he)
    unfold LrQ at HC
    clear he
    generalize exF xs j p = r at *
    obtain ⟨Y, v, er⟩ := r
    dsimp only at *
    go_wp2_with fail
    refine HC.out.mono ?_
    rintro e w3 ⟨Z3, rfl, l3, m3⟩
    have HQO := hid (show QO w0 W Z sa Y w3 from by
      obtain ⟨a1, a2⟩ := Mv.cellR HV.out.2.1 m3 HV.out.2.2
      exact ⟨Z3, ⟨l3, HV.out.1.2.trans m3⟩, a1, a2⟩)
    clear l3 m3 HC HV
    go_upto_region 3 with fail
    refine forget (R := fun U => QO w0 W Z sa _ U) ?_ (HQO.out)
    rintro U ⟨Zu, hX, hr, hz⟩
    have HX := hid hX; have HZ := hid hz
    have r0 : U.cell? ⟨W.heap.size, 0, none⟩ = some (.int .i64 0) := by rw [cell_of_row U W.heap.size 0 _ _ (0, 0) hr]; rfl
    have f0 : U.frozen? ⟨W.heap.size, 0, none⟩ = false := frozen_of_row U W.heap.size 0 _ _ hr
    have r1 : U.cell? ⟨W.heap.size, 1, none⟩ = some (.int .i64 0) := by rw [cell_of_row U W.heap.size 1 _ _ (0, 0) hr]; rfl
    have f1 : U.frozen? ⟨W.heap.size, 1, none⟩ = false := frozen_of_row U W.heap.size 1 _ _ hr
    have r2 : U.cell? ⟨W.heap.size, 2, none⟩ = some (.int .i64 0) := by rw [cell_of_row U W.heap.size 2 _ _ (0, 0) hr]; rfl
    have f2 : U.frozen? ⟨W.heap.size, 2, none⟩ = false := frozen_of_row U W.heap.size 2 _ _ hr
    have r3 : U.cell? ⟨W.heap.size, 3, none⟩ = some (.int .i64 0) := by rw [cell_of_row U W.heap.size 3 _ _ (0, 0) hr]; rfl
    have f3 : U.frozen? ⟨W.heap.size, 3, none⟩ = false := frozen_of_row U W.heap.size 3 _ _ hr
    have r4 : U.cell? ⟨W.heap.size, 4, none⟩ = some (.int .i64 0) := by rw [cell_of_row U W.heap.size 4 _ _ (0, 0) hr]; rfl
    have f4 : U.frozen? ⟨W.heap.size, 4, none⟩ = false := frozen_of_row U W.heap.size 4 _ _ hr
    have r5 : U.cell? ⟨W.heap.size, 5, none⟩ = some (.int .i64 0) := by rw [cell_of_row U W.heap.size 5 _ _ (0, 0) hr]; rfl
    have f5 : U.frozen? ⟨W.heap.size, 5, none⟩ = false := frozen_of_row U W.heap.size 5 _ _ hr
    have r6 : U.cell? ⟨W.heap.size, 6, none⟩ = some (.int .i64 0) := by rw [cell_of_row U W.heap.size 6 _ _ (0, 0) hr]; rfl
    have f6 : U.frozen? ⟨W.heap.size, 6, none⟩ = false := frozen_of_row U W.heap.size 6 _ _ hr
    have r7 : U.cell? ⟨W.heap.size, 7, none⟩ = some (.int .i64 0) := by rw [cell_of_row U W.heap.size 7 _ _ (0, 0) hr]; rfl
    have f7 : U.frozen? ⟨W.heap.size, 7, none⟩ = false := frozen_of_row U W.heap.size 7 _ _ hr
    have r8 : U.cell? ⟨W.heap.size, 8, none⟩ = some (.int .i64 0) := by rw [cell_of_row U W.heap.size 8 _ _ (0, 0) hr]; rfl
    have f8 : U.frozen? ⟨W.heap.size, 8, none⟩ = false := frozen_of_row U W.heap.size 8 _ _ hr
    have r9 : U.cell? ⟨W.heap.size, 9, none⟩ = some (.int .i64 0) := by rw [cell_of_row U W.heap.size 9 _ _ (0, 0) hr]; rfl
    have f9 : U.frozen? ⟨W.heap.size, 9, none⟩ = false := frozen_of_row U W.heap.size 9 _ _ hr
    have r10 : U.cell? ⟨W.heap.size, 10, none⟩ = some (.int .i64 0) := by rw [cell_of_row U W.heap.size 10 _ _ (0, 0) hr]; rfl
    have f10 : U.frozen? ⟨W.heap.size, 10, none⟩ = false := frozen_of_row U W.heap.size 10 _ _ hr
    clear hX hr hz
    go_wp2_with fail
    refine bodyPost_ret (v := .tuple #[.agg #[.int .i64 0, .int .i64 0, .int .i64 0, .int .i64 0, .int .i64 0, .int .i64 0, .int .i64 0, .int .i64 0, .int .i64 0, .int .i64 0, .int .i64 0], .int .i64 er]) ?_ rfl (show EpQ _ _ _ _ _ _ _ from ⟨Zu, by rw [HB.out]; rfl, ?_⟩)
    · rw [results_cell_tmp rfl]
      go_simp
    · rw [HB.out]
      iterate 11 refine lq_set ?_ HZ.out (Nat.le_refl _) HW.out
      exact HX.out
end
end Go.Proofs.YtfmkniakfgpgjaaGreatDoor

