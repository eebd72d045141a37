/- RatchetMay, walked: a tree that may be. -/
import Derived.Test.YtimdohjlhbpmhaaDoorL5
import Derived.BigQuiet
namespace Go.Proofs.YtimdohjlhbpmhaaDoor
open Go.RowKit Go.KK Go.Shelf
set_option linter.unusedVariables false
set_option linter.unusedSimpArgs false

theorem addT_yes {xs : List TN} {l : TN} (hc : chkB xs = true) (hl : isLf l = true) : addT xs l = addL xs l ∧ addI xs l = freeN xs ∧ addE xs l = 0 := by
  unfold addT addI addE addOk
  rw [hc, hl]; exact ⟨rfl, rfl, rfl⟩
theorem upd_step {A : Option Addr} {n c : Nat} {xs : List TN} {i : Int} {l : TN} {B : Option Addr} {d : Nat} {w : World} (ht : Tr w A n c xs) (hf : fewT xs = true) (hT : Tab w) (hd : d ≤ maxLen) :
    Calls Tryd.prog 19 #[.slice A n c, .int .i64 i, .agg #[.int .i64 l.k, .int .i64 l.i, .int .i64 l.e, .int .i64 l.s, .int .i64 l.h, .slice B l.u.length d]] w (UpdS w xs i l) := by
  obtain ⟨s1, a1, o1, hx⟩ := few_shorts hf
  exact (update_any A n c xs i l B d w ht (by have := ht.len; omega) hT s1 a1 hd).mono fun _ _ h => updS_of h
theorem sla_mt {B : Option Addr} {d : Nat} (w : World) (hd : d ≤ maxLen) : SlA w 1 B 0 d (([] : List Int).map (.int .i64)) := ⟨Nat.zero_le _, hd, rfl, fun j u hj => by simp at hj⟩
theorem own_tr {w : World} {base : Nat} {v : Value} {ys : List TN} (h : OwnT w base v ys) (hn : 0 < ys.length) : ∃ g c, v = .slice (some ⟨g, 0, none⟩) ys.length c ∧ Tr w (some ⟨g, 0, none⟩) ys.length c ys := by
  rcases h with ⟨rfl, _⟩ | ⟨g, cap, qs, e, ht⟩
  · simp at hn
  · exact ⟨g, cap, e, ht.tr⟩
set_option maxHeartbeats 8000000 in
set_option maxRecDepth 20000 in
theorem may_go (A : Option Addr) (n c : Nat) (xs : List TN) (i : Int) (k i0 e s h : Int) (B : Option Addr) (d : Nat) (w : World) (ht : Tr w A n c xs) (hw : WfT xs) (hT : Tab w) (hf : fewT xs = true) (hc : chkB xs = true) (hd : d ≤ maxLen) (hl5 : W5 ⟨1, i0, e, s, h, []⟩) (hi64 : W64 i) :
    Calls Tryd.prog 5 #[.slice A n c, .int .i64 i, .agg #[.int .i64 k, .int .i64 i0, .int .i64 e, .int .i64 s, .int .i64 h, .slice B 0 d]] w fun e w' => e = .returned (.bool true) ∧ Below w.heap.size w w' := by
  have H := hid ht; have HW := hid hw; have HT := hid hT; have HF := hid hf; have HC := hid hc; have HD := hid hd; have H5 := hid hl5
  have B0 := hid (show Below w.heap.size w (w.alloc (.cells #[.int .i64 k, .int .i64 i0, .int .i64 e, .int .i64 s, .int .i64 h, .slice B 0 d] 25)) from (Below.refl _ _).alloc (Nat.le_refl _) _)
  have X0 := hid (box_new w 25 (.int .i64 k) (.int .i64 i0) (.int .i64 e) (.int .i64 s) (.int .i64 h) (.slice B 0 d))
  obtain ⟨s1, a1, o1, hx140⟩ := few_shorts hf
  have S1 := hid s1; have HX := hid hx140
  have hn : n ≤ 600 := by have := ht.len; omega
  clear ht hw hT hf hc hd hl5 s1 a1 o1 hx140
  go_enter Tryd.func5, Tryd.ntmps5
  go_wp2_with fail
  refine (live_any _ (HT.out.ext B0.out)).mono ?_
  rintro e1 w1 ⟨rfl, b1⟩
  have X1 := hid (own_ext X0.out b1)
  have B1 := hid (below_new (Below.refl _ _) (Nat.le_refl _) b1).1
  have L1 := hid (sla_row (w := w1) (T := 22) #[.slice A n c] (show (1 : Nat) ≤ maxLen by decide))
  have B2 := hid (B1.out.alloc B1.out.size (.cells #[.slice A n c] 22))
  clear b1
  go_wp2_with fail
  refine (few_any _ 1 1 _ [xs] _ L1.out rfl (by omega) (fun j v zs hv hz => ?_)).mono ?_
  · rcases j with _ | j
    · injection hv with hv; injection hz with hz
      subst hv; subst hz
      exact ⟨A, n, c, rfl, H.out.ext B2.out⟩
    · simp at hv
  rintro e2 w2 ⟨rfl, b2⟩
  have X2 := hid (own_ext X1.out (below_one b2))
  have B3 := hid (B1.out.trans ((below_one b2).mono B1.out.size))
  clear b2
  rw [show [xs].all fewT = true by simp [HF.out]]
  obtain ⟨⟨k0, k1, k2, k3, k4, k5⟩, -⟩ := bx6 X2.out
  go_wp2_with fail
  refine (rchk_any A n c xs _ (H.out.ext B3.out) hn S1.out HW.out).mono ?_
  rintro e3 w3 ⟨rfl, b3⟩
  rw [chkE_yes HC.out]
  have B4 := hid (B3.out.trans (b3.mono B3.out.size))
  have X3 := hid (own_ext X2.out b3)
  clear b3 k0 k1 k2 k3 k4 k5
  obtain ⟨⟨k0, k1, k2, k3, k4, k5⟩, f0, f1, f2, f3, f4, f5⟩ := bx6 X3.out
  go_upto_region 5 with fail
  refine forget (R := fun W => W.ownsRow w.heap.size 25 6 (.slice (some ⟨w.heap.size, 0, none⟩) 1 1) 1 [.int .i64 1, .int .i64 i0, .int .i64 e, .int .i64 s, .int .i64 h, .slice B 0 d] ∧ Below w.heap.size w W) ?_ ⟨(X3.out.stored 0 (.int .i64 1)).1, B4.out.setCell (p := ⟨w.heap.size, 0, none⟩) (Nat.le_refl _) _⟩
  rintro W ⟨rx, rb⟩
  have X4 := hid rx; have B5 := hid rb
  clear rx rb k0 k1 k2 k3 k4 k5 f0 f1 f2 f3 f4 f5
  obtain ⟨⟨k0, k1, k2, k3, k4, k5⟩, -⟩ := bx6 X4.out
  go_wp2_with fail
  refine (add_any A n c xs ⟨1, i0, e, s, h, []⟩ B d _ (H.out.ext B5.out) HF.out (HT.out.ext B5.out) HD.out).mono ?_
  rintro e4 w4 ⟨v4, rfl, o4, b4⟩
  obtain ⟨ya, yi, ye⟩ := addT_yes (xs := xs) (l := ⟨1, i0, e, s, h, []⟩) HC.out rfl
  rw [ya] at o4
  rw [yi, ye]
  obtain ⟨ac, ao, aw, af⟩ := add_may HC.out HW.out HX.out (l := ⟨1, i0, e, s, h, []⟩) ⟨rfl, rfl⟩ H5.out
  obtain ⟨al, asx⟩ := addT_ok (l := ⟨1, i0, e, s, h, []⟩) HF.out
  rw [ya] at al asx
  have AC := hid ac; have AO := hid ao; have AW := hid aw; have AF := hid af; have AS := hid asx
  have ag := (free_spec xs).2.2
  have hfl : 2 * freeN xs < (addL xs ⟨1, i0, e, s, h, []⟩).length := (List.getElem?_eq_some_iff.1 aw).1
  obtain ⟨g4, c4, rfl, t4⟩ := own_tr o4 (by omega)
  have X5 := hid (own_ext X4.out b4)
  have T4 := hid t4
  have B6 := hid (B5.out.trans (b4.mono B5.out.size))
  have AG := hid ag
  clear ya yi ye ac ao aw af asx ag o4 t4 b4 k0 k1 k2 k3 k4 k5
  generalize hAL : addL xs ⟨1, i0, e, s, h, []⟩ = AL at *
  clear hAL
  generalize hFN : freeN xs = fn at *
  clear hFN
  go_wp2_with fail
  refine (may_rem (H.out.ext B6.out) HF.out (HT.out.ext B6.out) HC.out).mono ?_
  rintro e5 w5 ⟨v5, rfl, o5, b5⟩
  have X6 := hid (own_ext X5.out b5)
  have T5 := hid (T4.out.ext b5)
  have B7 := hid (B6.out.trans (b5.mono B6.out.size))
  have O5 := hid o5
  clear o5 b5
  obtain ⟨⟨k0, k1, k2, k3, k4, k5⟩, -⟩ := bx6 X6.out
  go_wp2_with fail
  refine (upd_step (l := ⟨1, i0, e, s, h, []⟩) (H.out.ext B7.out) HF.out (HT.out.ext B7.out) HD.out).mono ?_
  rintro e6 w6 ⟨v6, rfl, o6, b6⟩
  have X7 := hid (own_ext X6.out b6)
  have T6 := hid (T5.out.ext b6)
  have P6 := hid (O5.out.ext b6)
  have B8 := hid (B7.out.trans (b6.mono B7.out.size))
  have O6 := hid o6
  clear o6 b6 k0 k1 k2 k3 k4 k5
  go_wp2_with fail
  refine (rmembers_any A n c xs _ (H.out.ext B8.out) hn S1.out HW.out).mono ?_
  rintro e7 w7 ⟨v7, rfl, o7, b7⟩
  obtain ⟨A7, c7, rfl, s7⟩ := SlA.owned o7
  have HS7 := hid s7
  have X8 := hid (own_ext X7.out b7)
  have T7 := hid (T6.out.ext b7)
  have P7 := hid (P6.out.ext b7)
  have O7 := hid (O6.out.ext b7)
  have B9 := hid (B8.out.trans (b7.mono B8.out.size))
  clear b7 o7 s7
  have hml : (mems xs).length ≤ 600 := by
    unfold mems
    split
    · have := memL_le xs (lvN xs.length); have := HX.out; unfold lvN at *; omega
    · simp
  go_wp2_with fail
  refine (in_any A7 _ c7 (mems xs) i _ HS7.out (by omega)).mono ?_
  rintro e8 w8 ⟨rfl, hw8⟩
  subst w8
  rw [in_mems HC.out]
  have D0 := hid (show Below w7.heap.size w7 w7.drew from below_drew (Below.refl _ _))
  have HAT := hid (show ∃ A' c', (w7.cell? ⟨g4, 2 * fn * 6, none⟩ = some (.int .i64 1) ∧ w7.cell? ⟨g4, 2 * fn * 6 + 1, none⟩ = some (.int .i64 i0) ∧ w7.cell? ⟨g4, 2 * fn * 6 + 2, none⟩ = some (.int .i64 e) ∧ w7.cell? ⟨g4, 2 * fn * 6 + 3, none⟩ = some (.int .i64 s) ∧ w7.cell? ⟨g4, 2 * fn * 6 + 4, none⟩ = some (.int .i64 h) ∧ w7.cell? ⟨g4, 2 * fn * 6 + 5, none⟩ = some (.slice A' 0 c')) ∧ SlA w7 1 A' 0 c' (([] : List Int).map (.int .i64)) by
    obtain ⟨bb, oo, x, A', c', eA, hx, d0, d1, d2, d3, d4, d5, sd⟩ := T7.out.at hfl
    injection eA with eA; injection eA with eA eB; subst eA; subst eB
    have hw2 := AW.out
    rw [hx] at hw2
    injection hw2 with hw2
    subst hw2
    rw [Nat.zero_add] at d0 d1 d2 d3 d4 d5
    exact ⟨A', c', ⟨d0, d1, d2, d3, d4, d5⟩, sd⟩)
  have hfl3 : 2 * (fn : Int) < (AL.length : Int) := by omega
  have hfl4 : (0 : Int) ≤ 2 * (fn : Int) := by omega
  have hfn1 : (fn : Int) ≤ 600 := by omega
  have hfn2 : fn ≤ 600 := by omega
  have htn : (2 * (fn : Int)).toNat = 2 * fn := by omega
  have hwr : IntKind.i64.wrap (2 * (fn : Int)) = 2 * (fn : Int) := by rw [IntKind.wrap_i64]; omega
  have hdc1 : decide ((AL.length : Int) ≤ 2 * (fn : Int)) = false := decide_eq_false (by omega)
  have hdc2 : decide (2 * (fn : Int) < (AL.length : Int)) = true := decide_eq_true (by omega)
  have hdc3 : ¬ AL.length ≤ 2 * fn := by omega
  obtain ⟨AN, cN, hcells, hsd⟩ := HAT.out
  have HCE := hid hcells; have HSD := hid hsd
  clear hcells hsd HAT
  have hb0 : Below w7.heap.size w7 w7 := Below.refl _ _
  have HKS := hid (show ∀ w' : World, Below w7.heap.size w7 w' → w'.cell? ⟨g4, 2 * fn * 6, none⟩ = some (.int .i64 1) ∧ w'.cell? ⟨g4, 2 * fn * 6 + 1, none⟩ = some (.int .i64 i0) ∧ w'.cell? ⟨g4, 2 * fn * 6 + 2, none⟩ = some (.int .i64 e) ∧ w'.cell? ⟨g4, 2 * fn * 6 + 3, none⟩ = some (.int .i64 s) ∧ w'.cell? ⟨g4, 2 * fn * 6 + 4, none⟩ = some (.int .i64 h) ∧ w'.cell? ⟨g4, 2 * fn * 6 + 5, none⟩ = some (.slice AN 0 cN) ∧ w'.cell? ⟨w.heap.size, 0, none⟩ = some (.int .i64 1) ∧ w'.cell? ⟨w.heap.size, 1, none⟩ = some (.int .i64 i0) ∧ w'.cell? ⟨w.heap.size, 2, none⟩ = some (.int .i64 e) ∧ w'.cell? ⟨w.heap.size, 3, none⟩ = some (.int .i64 s) ∧ w'.cell? ⟨w.heap.size, 4, none⟩ = some (.int .i64 h) ∧ w'.cell? ⟨w.heap.size, 5, none⟩ = some (.slice B 0 d) from fun w' hb => by
    obtain ⟨d0, d1, d2, d3, d4, d5⟩ := six_ext hb HCE.out.1 HCE.out.2.1 HCE.out.2.2.1 HCE.out.2.2.2.1 HCE.out.2.2.2.2.1 HCE.out.2.2.2.2.2
    obtain ⟨⟨k0, k1, k2, k3, k4, k5⟩, -⟩ := bx6 (own_ext X8.out hb)
    exact ⟨d0, d1, d2, d3, d4, d5, k0, k1, k2, k3, k4, k5⟩)
  go_upto_region 10 with fail
  rcases hp : pres xs i with _ | _
  · have hE : remE xs i = 4 := by unfold remE; rw [HC.out, hp]; rfl
    have hG : updE xs i ⟨1, i0, e, s, h, []⟩ = 4 := by unfold updE; rw [HC.out, hp]; rfl
    have HP := hid hp
    rw [hE, hG]
    clear hE hG hp
    go_upto_region 12 with fail
    go_region_held3 (fun w' => w'.cell? ⟨g4, 2 * fn * 6, none⟩ = some (.int .i64 1) ∧ w'.cell? ⟨g4, 2 * fn * 6 + 1, none⟩ = some (.int .i64 i0) ∧ w'.cell? ⟨g4, 2 * fn * 6 + 2, none⟩ = some (.int .i64 e) ∧ w'.cell? ⟨g4, 2 * fn * 6 + 3, none⟩ = some (.int .i64 s) ∧ w'.cell? ⟨g4, 2 * fn * 6 + 4, none⟩ = some (.int .i64 h) ∧ w'.cell? ⟨g4, 2 * fn * 6 + 5, none⟩ = some (.slice AN 0 cN) ∧ w'.cell? ⟨w.heap.size, 0, none⟩ = some (.int .i64 1) ∧ w'.cell? ⟨w.heap.size, 1, none⟩ = some (.int .i64 i0) ∧ w'.cell? ⟨w.heap.size, 2, none⟩ = some (.int .i64 e) ∧ w'.cell? ⟨w.heap.size, 3, none⟩ = some (.int .i64 s) ∧ w'.cell? ⟨w.heap.size, 4, none⟩ = some (.int .i64 h) ∧ w'.cell? ⟨w.heap.size, 5, none⟩ = some (.slice B 0 d)) (first | exact HKS.out _ hb0 | exact HKS.out _ (below_drew hb0) | exact HKS.out _ D9.out | exact HKS.out _ D11.out | exact HKS.out _ D12.out | go_keep) (first
      | (go_at_call 21; refine (rchk_any _ _ c4 AL _ (T7.out.ext D0.out) al AS.out AF.out).mono ?_; rintro e9 w9 ⟨rfl, b9⟩; rw [chkE_yes AC.out]; have D9 := hid (D0.out.trans (b9.mono D0.out.size)); clear b9)
      | (go_at_call 23; refine (in_any A7 _ c7 (mems xs) (fn : Int) _ (HS7.out.ext D9.out) (by omega)).mono ?_; rintro e10 w10 ⟨rfl, hw10⟩; subst w10; rw [in_mems HC.out, AG.out])
      | (go_at_call 24; refine (others_any A n c xs _ _ c4 AL (fn : Int) _ (H.out.ext (B9.out.trans (D9.out.mono B9.out.size))) (T7.out.ext D9.out) hn al S1.out AS.out).mono ?_; rintro e11 w11 ⟨rfl, b11⟩; rw [AO.out]; have D11 := hid (D9.out.trans (b11.mono D9.out.size)); clear b11)
      | (go_at_call 25; refine (samenode_any ⟨1, i0, e, s, h, []⟩ ⟨1, i0, e, s, h, []⟩ AN cN B d _ (HSD.out.ext D11.out) (sla_mt _ HD.out) (Nat.zero_le _) (Nat.zero_le _)).mono ?_; rintro e12 w12 ⟨rfl, b12⟩; rw [sameN_self]; have D12 := hid (D11.out.trans (b12.mono D11.out.size)); clear b12))
    go_upto_region 16 with fail
    go_quiet (fail)
    go_wp2_with fail
    go_ret
    first
      | exact ⟨rfl, B9.out.trans (D12.out.mono B9.out.size)⟩
      | exact ⟨rfl, below_drewN (B9.out.trans (D12.out.mono B9.out.size)) _⟩
      | exact ⟨rfl, below_drew (below_drew (B9.out.trans (D12.out.mono B9.out.size)))⟩
  · obtain ⟨p0, p1⟩ := pres_in hp
    obtain ⟨j, rfl⟩ := Int.eq_ofNat_of_zero_le p0
    have hG : updE xs (j : Int) ⟨1, i0, e, s, h, []⟩ = 0 := by unfold updE; rw [HC.out, hp]; rfl
    have hCT : updT xs (j : Int) ⟨1, i0, e, s, h, []⟩ = chgL xs (j : Int) ⟨1, i0, e, s, h, []⟩ := by unfold updT; rw [HC.out, hp]; rfl
    obtain ⟨cc, co, cw, cf⟩ := chg_may HC.out HW.out hp (l := ⟨1, i0, e, s, h, []⟩) ⟨rfl, rfl⟩ H5.out
    obtain ⟨cl, csx⟩ := updT_ok (i := (j : Int)) (l := ⟨1, i0, e, s, h, []⟩) HF.out
    rw [show (2 * (j : Int)).toNat = 2 * j by omega] at cw
    have o7 := O7.out
    rw [hCT] at o7 cl csx
    have hjl : 2 * j < (chgL xs (j : Int) ⟨1, i0, e, s, h, []⟩).length := (List.getElem?_eq_some_iff.1 cw).1
    obtain ⟨g6, c6, rfl, t6⟩ := own_tr o7 (by omega)
    have U7 := hid t6
    have HRS := hid (rem_some HC.out HW.out hp)
    have CC := hid cc; have CO := hid co; have CW := hid cw; have CF := hid cf; have CS := hid csx
    have HPT := hid hp
    rw [hG]
    have HCE6 := hid (show ∃ A' c', (w7.cell? ⟨g6, 2 * j * 6, none⟩ = some (.int .i64 1) ∧ w7.cell? ⟨g6, 2 * j * 6 + 1, none⟩ = some (.int .i64 i0) ∧ w7.cell? ⟨g6, 2 * j * 6 + 2, none⟩ = some (.int .i64 e) ∧ w7.cell? ⟨g6, 2 * j * 6 + 3, none⟩ = some (.int .i64 s) ∧ w7.cell? ⟨g6, 2 * j * 6 + 4, none⟩ = some (.int .i64 h) ∧ w7.cell? ⟨g6, 2 * j * 6 + 5, none⟩ = some (.slice A' 0 c')) ∧ SlA w7 1 A' 0 c' (([] : List Int).map (.int .i64)) by
      obtain ⟨bb, oo, x, A', c', eA, hx, d0, d1, d2, d3, d4, d5, sd⟩ := U7.out.at hjl
      injection eA with eA; injection eA with eA eB; subst eA; subst eB
      have hw2 := CW.out
      rw [hx] at hw2
      injection hw2 with hw2
      subst hw2
      rw [Nat.zero_add] at d0 d1 d2 d3 d4 d5
      exact ⟨A', c', ⟨d0, d1, d2, d3, d4, d5⟩, sd⟩)
    obtain ⟨AC6, cc6, hcells, hsd⟩ := HCE6.out
    clear HCE6
    have HCE6 := hid hcells; have HSD6 := hid hsd
    clear hcells hsd t6 o7 cc co cw cf csx hG hCT
    generalize hCL : chgL xs (j : Int) ⟨1, i0, e, s, h, []⟩ = CL at *
    clear hCL
    have hj3 : 2 * (j : Int) < (CL.length : Int) := by omega
    have hj4 : (0 : Int) ≤ 2 * (j : Int) := by omega
    have hj1 : (j : Int) ≤ 600 := by omega
    have hj2 : j ≤ 600 := by omega
    have htj : (2 * (j : Int)).toNat = 2 * j := by omega
    have hwj : IntKind.i64.wrap (2 * (j : Int)) = 2 * (j : Int) := by rw [IntKind.wrap_i64]; omega
    have hdj1 : decide ((CL.length : Int) ≤ 2 * (j : Int)) = false := decide_eq_false (by omega)
    have hdj2 : decide (2 * (j : Int) < (CL.length : Int)) = true := decide_eq_true (by omega)
    have hdj3 : ¬ CL.length ≤ 2 * j := by omega
    by_cases hm2 : 1 < (mems xs).length
    · have hm3 : (1 : Int) < ((mems xs).length : Int) := by omega
      have HRS2 := hid (show (remO xs (j : Int)).isSome = true by rw [HRS.out, decide_eq_true hm2])
      obtain ⟨ys, hys⟩ := Option.isSome_iff_exists.1 HRS2.out
      have hE : remE xs (j : Int) = 0 := by unfold remE; rw [HC.out, HPT.out, hys]; rfl
      have hRT : remT xs (j : Int) = ys := by unfold remT remOk; rw [HC.out, HPT.out, hys]; rfl
      rw [hE]
      obtain ⟨rc, ro, rp, rf⟩ := rem_may HC.out HW.out HPT.out hys
      obtain ⟨rl, rsx⟩ := remT_ok (i := (j : Int)) HF.out
      have p7 := P7.out
      rw [hRT] at p7 rl rsx
      obtain ⟨A5, c5, rfl, t5⟩ := p7.shape
      have V7 := hid t5
      have RC := hid rc; have RO := hid ro; have RP := hid rp; have RF := hid rf; have RS := hid rsx
      clear rc ro rp rf rsx p7 t5 hys hE hRT hp
      have hyl : (mems ys).length ≤ 600 := by
        unfold mems
        split
        · have := memL_le ys (lvN ys.length); unfold lvN at *; omega
        · simp
      go_upto_region 12 with fail
      go_region_held3 (fun w' => w'.cell? ⟨g4, 2 * fn * 6, none⟩ = some (.int .i64 1) ∧ w'.cell? ⟨g4, 2 * fn * 6 + 1, none⟩ = some (.int .i64 i0) ∧ w'.cell? ⟨g4, 2 * fn * 6 + 2, none⟩ = some (.int .i64 e) ∧ w'.cell? ⟨g4, 2 * fn * 6 + 3, none⟩ = some (.int .i64 s) ∧ w'.cell? ⟨g4, 2 * fn * 6 + 4, none⟩ = some (.int .i64 h) ∧ w'.cell? ⟨g4, 2 * fn * 6 + 5, none⟩ = some (.slice AN 0 cN) ∧ w'.cell? ⟨w.heap.size, 0, none⟩ = some (.int .i64 1) ∧ w'.cell? ⟨w.heap.size, 1, none⟩ = some (.int .i64 i0) ∧ w'.cell? ⟨w.heap.size, 2, none⟩ = some (.int .i64 e) ∧ w'.cell? ⟨w.heap.size, 3, none⟩ = some (.int .i64 s) ∧ w'.cell? ⟨w.heap.size, 4, none⟩ = some (.int .i64 h) ∧ w'.cell? ⟨w.heap.size, 5, none⟩ = some (.slice B 0 d)) (first | exact HKS.out _ hb0 | exact HKS.out _ (below_drew hb0) | exact HKS.out _ D9.out | exact HKS.out _ D11.out | exact HKS.out _ D12.out | go_keep) (first
        | (go_at_call 21; refine (rchk_any _ _ c4 AL _ (T7.out.ext D0.out) al AS.out AF.out).mono ?_; rintro e9 w9 ⟨rfl, b9⟩; rw [chkE_yes AC.out]; have D9 := hid (D0.out.trans (b9.mono D0.out.size)); clear b9)
        | (go_at_call 23; refine (in_any A7 _ c7 (mems xs) (fn : Int) _ (HS7.out.ext D9.out) (by omega)).mono ?_; rintro e10 w10 ⟨rfl, hw10⟩; subst w10; rw [in_mems HC.out, AG.out])
        | (go_at_call 24; refine (others_any A n c xs _ _ c4 AL (fn : Int) _ (H.out.ext (B9.out.trans (D9.out.mono B9.out.size))) (T7.out.ext D9.out) hn al S1.out AS.out).mono ?_; rintro e11 w11 ⟨rfl, b11⟩; rw [AO.out]; have D11 := hid (D9.out.trans (b11.mono D9.out.size)); clear b11)
        | (go_at_call 25; refine (samenode_any ⟨1, i0, e, s, h, []⟩ ⟨1, i0, e, s, h, []⟩ AN cN B d _ (HSD.out.ext D11.out) (sla_mt _ HD.out) (Nat.zero_le _) (Nat.zero_le _)).mono ?_; rintro e12 w12 ⟨rfl, b12⟩; rw [sameN_self]; have D12 := hid (D11.out.trans (b12.mono D11.out.size)); clear b12))
      go_upto_region 14 with fail
      go_wp2_with fail
      refine (rchk_any A5 _ c5 ys _ (V7.out.ext D12.out) rl RS.out RF.out).mono ?_
      rintro e13 w13 ⟨rfl, b13⟩
      rw [chkE_yes RC.out]
      have D13 := hid (D12.out.trans (b13.mono D12.out.size))
      clear b13
      go_wp2_with fail
      refine (others_any A n c xs A5 _ c5 ys (j : Int) _ (H.out.ext (B9.out.trans (D13.out.mono B9.out.size))) (V7.out.ext D13.out) hn rl S1.out RS.out).mono ?_
      rintro e14 w14 ⟨rfl, b14⟩
      rw [RO.out]
      have D14 := hid (D13.out.trans (b14.mono D13.out.size))
      clear b14
      go_wp2_with fail
      refine (rmembers_any A5 _ c5 ys _ (V7.out.ext D14.out) rl RS.out RF.out).mono ?_
      rintro e15 w15 ⟨v15, rfl, o15, b15⟩
      obtain ⟨A15, c15, rfl, s15⟩ := SlA.owned o15
      have HS15 := hid s15
      have D15 := hid (D14.out.trans (b15.mono D14.out.size))
      clear b15 o15 s15
      go_wp2_with fail
      refine (in_any A15 _ c15 (mems ys) (j : Int) _ HS15.out (by omega)).mono ?_
      rintro e16 w16 ⟨rfl, hw16⟩
      subst w16
      rw [in_mems RC.out, RP.out]
      go_upto_region 16 with fail
      have HKT := hid (show ∀ w' : World, Below w7.heap.size w7 w' → w'.cell? ⟨g6, 2 * j * 6, none⟩ = some (.int .i64 1) ∧ w'.cell? ⟨g6, 2 * j * 6 + 1, none⟩ = some (.int .i64 i0) ∧ w'.cell? ⟨g6, 2 * j * 6 + 2, none⟩ = some (.int .i64 e) ∧ w'.cell? ⟨g6, 2 * j * 6 + 3, none⟩ = some (.int .i64 s) ∧ w'.cell? ⟨g6, 2 * j * 6 + 4, none⟩ = some (.int .i64 h) ∧ w'.cell? ⟨g6, 2 * j * 6 + 5, none⟩ = some (.slice AC6 0 cc6) ∧ w'.cell? ⟨w.heap.size, 0, none⟩ = some (.int .i64 1) ∧ w'.cell? ⟨w.heap.size, 1, none⟩ = some (.int .i64 i0) ∧ w'.cell? ⟨w.heap.size, 2, none⟩ = some (.int .i64 e) ∧ w'.cell? ⟨w.heap.size, 3, none⟩ = some (.int .i64 s) ∧ w'.cell? ⟨w.heap.size, 4, none⟩ = some (.int .i64 h) ∧ w'.cell? ⟨w.heap.size, 5, none⟩ = some (.slice B 0 d) from fun w' hb => by
        obtain ⟨d0, d1, d2, d3, d4, d5⟩ := six_ext hb HCE6.out.1 HCE6.out.2.1 HCE6.out.2.2.1 HCE6.out.2.2.2.1 HCE6.out.2.2.2.2.1 HCE6.out.2.2.2.2.2
        obtain ⟨⟨k0, k1, k2, k3, k4, k5⟩, -⟩ := bx6 (own_ext X8.out hb)
        exact ⟨d0, d1, d2, d3, d4, d5, k0, k1, k2, k3, k4, k5⟩)
      go_region_held3 (fun w' => w'.cell? ⟨g6, 2 * j * 6, none⟩ = some (.int .i64 1) ∧ w'.cell? ⟨g6, 2 * j * 6 + 1, none⟩ = some (.int .i64 i0) ∧ w'.cell? ⟨g6, 2 * j * 6 + 2, none⟩ = some (.int .i64 e) ∧ w'.cell? ⟨g6, 2 * j * 6 + 3, none⟩ = some (.int .i64 s) ∧ w'.cell? ⟨g6, 2 * j * 6 + 4, none⟩ = some (.int .i64 h) ∧ w'.cell? ⟨g6, 2 * j * 6 + 5, none⟩ = some (.slice AC6 0 cc6) ∧ w'.cell? ⟨w.heap.size, 0, none⟩ = some (.int .i64 1) ∧ w'.cell? ⟨w.heap.size, 1, none⟩ = some (.int .i64 i0) ∧ w'.cell? ⟨w.heap.size, 2, none⟩ = some (.int .i64 e) ∧ w'.cell? ⟨w.heap.size, 3, none⟩ = some (.int .i64 s) ∧ w'.cell? ⟨w.heap.size, 4, none⟩ = some (.int .i64 h) ∧ w'.cell? ⟨w.heap.size, 5, none⟩ = some (.slice B 0 d)) (first | exact HKT.out _ D15.out | exact HKT.out _ (below_drew D15.out) | exact HKT.out _ D17.out | exact HKT.out _ D18.out | exact HKT.out _ D19.out | go_keep) (first
        | (go_at_call 21; refine (rchk_any _ _ c6 CL _ (U7.out.ext (below_drew D15.out)) cl CS.out CF.out).mono ?_; rintro e17 w17 ⟨rfl, b17⟩; rw [chkE_yes CC.out]; have D17 := hid ((below_drew D15.out).trans (b17.mono (below_drew D15.out).size)); clear b17)
        | (go_at_call 24; refine (others_any A n c xs _ _ c6 CL (j : Int) _ (H.out.ext (B9.out.trans (D17.out.mono B9.out.size))) (U7.out.ext D17.out) hn cl S1.out CS.out).mono ?_; rintro e18 w18 ⟨rfl, b18⟩; rw [CO.out]; have D18 := hid (D17.out.trans (b18.mono D17.out.size)); clear b18)
        | (go_at_call 25; refine (samenode_any ⟨1, i0, e, s, h, []⟩ ⟨1, i0, e, s, h, []⟩ AC6 cc6 B d _ (HSD6.out.ext D18.out) (sla_mt _ HD.out) (Nat.zero_le _) (Nat.zero_le _)).mono ?_; rintro e19 w19 ⟨rfl, b19⟩; rw [sameN_self]; have D19 := hid (D18.out.trans (b19.mono D18.out.size)); clear b19))
      go_wp2_with fail
      go_ret
      exact ⟨rfl, B9.out.trans (D19.out.mono B9.out.size)⟩
    · have hm3 : ¬ (1 : Int) < ((mems xs).length : Int) := by omega
      have hE : remE xs (j : Int) = 1 := by
        unfold remE
        rw [HC.out, HPT.out, HRS.out, decide_eq_false hm2]; rfl
      rw [hE]
      clear hE hp
      go_upto_region 12 with fail
      go_region_held3 (fun w' => w'.cell? ⟨g4, 2 * fn * 6, none⟩ = some (.int .i64 1) ∧ w'.cell? ⟨g4, 2 * fn * 6 + 1, none⟩ = some (.int .i64 i0) ∧ w'.cell? ⟨g4, 2 * fn * 6 + 2, none⟩ = some (.int .i64 e) ∧ w'.cell? ⟨g4, 2 * fn * 6 + 3, none⟩ = some (.int .i64 s) ∧ w'.cell? ⟨g4, 2 * fn * 6 + 4, none⟩ = some (.int .i64 h) ∧ w'.cell? ⟨g4, 2 * fn * 6 + 5, none⟩ = some (.slice AN 0 cN) ∧ w'.cell? ⟨w.heap.size, 0, none⟩ = some (.int .i64 1) ∧ w'.cell? ⟨w.heap.size, 1, none⟩ = some (.int .i64 i0) ∧ w'.cell? ⟨w.heap.size, 2, none⟩ = some (.int .i64 e) ∧ w'.cell? ⟨w.heap.size, 3, none⟩ = some (.int .i64 s) ∧ w'.cell? ⟨w.heap.size, 4, none⟩ = some (.int .i64 h) ∧ w'.cell? ⟨w.heap.size, 5, none⟩ = some (.slice B 0 d)) (first | exact HKS.out _ hb0 | exact HKS.out _ (below_drew hb0) | exact HKS.out _ D9.out | exact HKS.out _ D11.out | exact HKS.out _ D12.out | go_keep) (first
        | (go_at_call 21; refine (rchk_any _ _ c4 AL _ (T7.out.ext D0.out) al AS.out AF.out).mono ?_; rintro e9 w9 ⟨rfl, b9⟩; rw [chkE_yes AC.out]; have D9 := hid (D0.out.trans (b9.mono D0.out.size)); clear b9)
        | (go_at_call 23; refine (in_any A7 _ c7 (mems xs) (fn : Int) _ (HS7.out.ext D9.out) (by omega)).mono ?_; rintro e10 w10 ⟨rfl, hw10⟩; subst w10; rw [in_mems HC.out, AG.out])
        | (go_at_call 24; refine (others_any A n c xs _ _ c4 AL (fn : Int) _ (H.out.ext (B9.out.trans (D9.out.mono B9.out.size))) (T7.out.ext D9.out) hn al S1.out AS.out).mono ?_; rintro e11 w11 ⟨rfl, b11⟩; rw [AO.out]; have D11 := hid (D9.out.trans (b11.mono D9.out.size)); clear b11)
        | (go_at_call 25; refine (samenode_any ⟨1, i0, e, s, h, []⟩ ⟨1, i0, e, s, h, []⟩ AN cN B d _ (HSD.out.ext D11.out) (sla_mt _ HD.out) (Nat.zero_le _) (Nat.zero_le _)).mono ?_; rintro e12 w12 ⟨rfl, b12⟩; rw [sameN_self]; have D12 := hid (D11.out.trans (b12.mono D11.out.size)); clear b12))
      go_upto_region 14 with fail
      go_upto_region 16 with fail
      have HKT := hid (show ∀ w' : World, Below w7.heap.size w7 w' → w'.cell? ⟨g6, 2 * j * 6, none⟩ = some (.int .i64 1) ∧ w'.cell? ⟨g6, 2 * j * 6 + 1, none⟩ = some (.int .i64 i0) ∧ w'.cell? ⟨g6, 2 * j * 6 + 2, none⟩ = some (.int .i64 e) ∧ w'.cell? ⟨g6, 2 * j * 6 + 3, none⟩ = some (.int .i64 s) ∧ w'.cell? ⟨g6, 2 * j * 6 + 4, none⟩ = some (.int .i64 h) ∧ w'.cell? ⟨g6, 2 * j * 6 + 5, none⟩ = some (.slice AC6 0 cc6) ∧ w'.cell? ⟨w.heap.size, 0, none⟩ = some (.int .i64 1) ∧ w'.cell? ⟨w.heap.size, 1, none⟩ = some (.int .i64 i0) ∧ w'.cell? ⟨w.heap.size, 2, none⟩ = some (.int .i64 e) ∧ w'.cell? ⟨w.heap.size, 3, none⟩ = some (.int .i64 s) ∧ w'.cell? ⟨w.heap.size, 4, none⟩ = some (.int .i64 h) ∧ w'.cell? ⟨w.heap.size, 5, none⟩ = some (.slice B 0 d) from fun w' hb => by
        obtain ⟨d0, d1, d2, d3, d4, d5⟩ := six_ext hb HCE6.out.1 HCE6.out.2.1 HCE6.out.2.2.1 HCE6.out.2.2.2.1 HCE6.out.2.2.2.2.1 HCE6.out.2.2.2.2.2
        obtain ⟨⟨k0, k1, k2, k3, k4, k5⟩, -⟩ := bx6 (own_ext X8.out hb)
        exact ⟨d0, d1, d2, d3, d4, d5, k0, k1, k2, k3, k4, k5⟩)
      go_region_held3 (fun w' => w'.cell? ⟨g6, 2 * j * 6, none⟩ = some (.int .i64 1) ∧ w'.cell? ⟨g6, 2 * j * 6 + 1, none⟩ = some (.int .i64 i0) ∧ w'.cell? ⟨g6, 2 * j * 6 + 2, none⟩ = some (.int .i64 e) ∧ w'.cell? ⟨g6, 2 * j * 6 + 3, none⟩ = some (.int .i64 s) ∧ w'.cell? ⟨g6, 2 * j * 6 + 4, none⟩ = some (.int .i64 h) ∧ w'.cell? ⟨g6, 2 * j * 6 + 5, none⟩ = some (.slice AC6 0 cc6) ∧ w'.cell? ⟨w.heap.size, 0, none⟩ = some (.int .i64 1) ∧ w'.cell? ⟨w.heap.size, 1, none⟩ = some (.int .i64 i0) ∧ w'.cell? ⟨w.heap.size, 2, none⟩ = some (.int .i64 e) ∧ w'.cell? ⟨w.heap.size, 3, none⟩ = some (.int .i64 s) ∧ w'.cell? ⟨w.heap.size, 4, none⟩ = some (.int .i64 h) ∧ w'.cell? ⟨w.heap.size, 5, none⟩ = some (.slice B 0 d)) (first | exact HKT.out _ D12.out | exact HKT.out _ (below_drew D12.out) | exact HKT.out _ D17.out | exact HKT.out _ D18.out | exact HKT.out _ D19.out | go_keep) (first
        | (go_at_call 21; refine (rchk_any _ _ c6 CL _ (U7.out.ext (below_drew D12.out)) cl CS.out CF.out).mono ?_; rintro e17 w17 ⟨rfl, b17⟩; rw [chkE_yes CC.out]; have D17 := hid ((below_drew D12.out).trans (b17.mono (below_drew D12.out).size)); clear b17)
        | (go_at_call 24; refine (others_any A n c xs _ _ c6 CL (j : Int) _ (H.out.ext (B9.out.trans (D17.out.mono B9.out.size))) (U7.out.ext D17.out) hn cl S1.out CS.out).mono ?_; rintro e18 w18 ⟨rfl, b18⟩; rw [CO.out]; have D18 := hid (D17.out.trans (b18.mono D17.out.size)); clear b18)
        | (go_at_call 25; refine (samenode_any ⟨1, i0, e, s, h, []⟩ ⟨1, i0, e, s, h, []⟩ AC6 cc6 B d _ (HSD6.out.ext D18.out) (sla_mt _ HD.out) (Nat.zero_le _) (Nat.zero_le _)).mono ?_; rintro e19 w19 ⟨rfl, b19⟩; rw [sameN_self]; have D19 := hid (D18.out.trans (b19.mono D18.out.size)); clear b19))
      go_wp2_with fail
      go_ret
      exact ⟨rfl, B9.out.trans (D19.out.mono B9.out.size)⟩
end Go.Proofs.YtimdohjlhbpmhaaDoor
