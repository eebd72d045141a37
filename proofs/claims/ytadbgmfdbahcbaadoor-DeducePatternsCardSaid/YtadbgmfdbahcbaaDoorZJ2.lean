import Derived.Test.YtadbgmfdbahcbaaDoorZJ1
import Derived.Test.YtadbgmfdbahcbaaDoorZa
import Derived.Test.YtadbgmfdbahcbaaDoorZF1
/- deduce's law: light. -/
namespace Go.KK
open Go.RowKit
set_option linter.unusedVariables false
set_option linter.unusedSimpArgs false
theorem cap_step (a b : Nat) : capW (capW a + capW b) = capW (a + b) := by unfold capW; omega
theorem light_snoc (xs : List ND) (l : List Int) (t : Int) : lightN xs (l ++ [t]) = lightN xs l + (if hasB xs t = true then capW (wtT xs t) else 0) := by
  unfold lightN
  rw [List.filter_append, List.map_append, List.sum_append]
  congr 1
  rcases h : hasB xs t with _ | _ <;> simp [h]
theorem light_le2 (xs : List ND) : ∀ l, lightN xs l ≤ 100000 * l.length
  | [] => by simp [lightN]
  | t :: l => by
    have h := light_le2 xs l
    have e : lightN xs (t :: l) = (if hasB xs t = true then capW (wtT xs t) else 0) + lightN xs l := by
      unfold lightN
      rcases h : hasB xs t with _ | _ <;> simp [h]
    have : capW (wtT xs t) ≤ 100000 := by unfold capW; omega
    rw [e, List.length_cons]
    split <;> omega
/-- The sum of the first weights. -/
def preW (xs : List ND) (l : List Int) (i : Nat) : Nat := 1 + ((l.take i).map (wtT xs)).sum
theorem preW_succ {xs : List ND} {l : List Int} {i : Nat} {x : Int} (h : l[i]? = some x) : preW xs l (i + 1) = preW xs l i + wtT xs x := by
  unfold preW
  rw [take_one h, List.map_append, List.sum_append]
  simp
  omega
end Go.KK
namespace Go.Proofs.YtadbgmfdbahcbaaDoor
open Go.RowKit Go.KK Go.Shelf Go.Maps

theorem rlen_any (st : Nat) (xs : List ND) (w : World) (h : ArV w 59 st xs) :
    Calls Tryd.prog 23 #[.pointer (some ⟨st, 0, none⟩)] w fun e w' => e = .returned (.int .i64 xs.length) ∧ w' = w := by
  obtain ⟨A, c, m, h0, h1, hn⟩ := h.parts
  clear hn h
  go_enter Tryd.func23, Tryd.ntmps23
  go_wp2
  go_ret
  exact ⟨rfl, rfl⟩
def natV (k : Nat) : Value := .int .i64 (k : Int)
/-- A row of weights. -/
def WtR (w : World) (B g N : Nat) (F : List Nat) : Prop := F.length = N ∧ w.ownsRow B 3 1 (.slice (some ⟨g, 0, none⟩) N N) N (F.map natV)
theorem WtR.cell {w : World} {B g N : Nat} {F : List Nat} (h : WtR w B g N F) {i : Nat} (hi : i < N) : w.cell? ⟨g, i, none⟩ = some (.int .i64 ((F.getD i 0 : Nat) : Int)) ∧ w.frozen? ⟨g, i, none⟩ = false := by
  have hl := h.1
  have hx : F[i]? = some (F.getD i 0) := by rw [List.getD, List.getElem?_eq_getElem (by omega)]; rfl
  have hc := h.2.cells rfl i (natV (F.getD i 0)) (by rw [List.getElem?_map, hx]; rfl)
  have hf := h.2.frozenAt i
  rw [add_lit, Nat.zero_add] at hc
  exact ⟨hc, hf⟩
theorem WtR.put {w : World} {B g N : Nat} {F : List Nat} (h : WtR w B g N F) (i k : Nat) : WtR (w.setCell ⟨g, i, none⟩ (.int .i64 (k : Int))) B g N (F.set i k) := by
  refine ⟨by rw [List.length_set]; exact h.1, ?_⟩
  have := (h.2.stored i (natV k)).1
  rw [← List.map_set] at this
  simpa [natV] using this
theorem WtR.ext {w w' : World} {B g N : Nat} {F : List Nat} (h : WtR w B g N F) (hb : Below w.heap.size w w') : WtR w' B g N F := ⟨h.1, own_ext h.2 hb⟩
theorem WtR.drewN {w : World} {B g N : Nat} {F : List Nat} (h : WtR w B g N F) (k : Nat) : WtR (w.drewN k) B g N F := ⟨h.1, own_block h.2 fun _ _ => rfl⟩
set_option maxHeartbeats 8000000 in
set_option maxRecDepth 100000 in
theorem light_any (sb : Nat) (xs : List ND) (w : World) (h : ArV w 59 sb xs) (hok : Okay xs) (A : Option Addr) (n c : Nat) (l : List Int) (hl : SlA w 1 A n c (l.map (.int .i64))) (hn : n ≤ 1000) :
    Calls Tryd.prog 11 #[.pointer (some ⟨sb, 0, none⟩), .slice A n c] w fun e w' => e = .returned (.bool (lightB xs l)) ∧ Below w.heap.size w w' := by
  have HOK := hid hok; have HL := hid hl; have HA := hid h
  have hln := hl.lenI
  have hxn : xs.length ≤ 100000 := hok.len
  have hmk1 : ∀ U : World, (Instr.makeSlice 23 (.int .i64 (xs.length : Int)) (.int .i64 (xs.length : Int))).run Tryd.prog U = .ok (.slice (some ⟨U.heap.size, 0, none⟩) xs.length xs.length) (U.alloc (.cells (madeCells #[.int .i64 0] xs.length) 3)) := by
    obtain ⟨b0, b1, b2, b3, b4⟩ := info_parts Tryd.infoInt
    exact make1 Tryd.underlying23 b1 b2 b3 b4 (by decide) rfl hxn
  have HBC := hid (made1 (.int .i64 0) xs.length)
  generalize madeCells #[Value.int .i64 0] xs.length = bc at *
  obtain ⟨Al, cl, ml, h0, h1, hnd⟩ := h.parts
  have HND := hid hnd
  have H0 := hid h0
  clear hok hl h hnd h1
  go_enter Tryd.func11, Tryd.ntmps11
  go_wp2_with fail
  refine (rlen_any sb xs _ HA.out).mono ?_
  rintro e w1 ⟨rfl, hw⟩
  subst hw
  go_upto_region 2 with fail
  refine forget (R := fun V => WtR V w1.heap.size w1.heap.size xs.length (List.replicate xs.length 0) ∧ Below w1.heap.size w1 V) ?_ ⟨⟨by simp, by
    have := own_new (w := w1) (T := 3) HBC.out hxn
    rw [List.map_replicate]
    exact this⟩, (Below.refl _ _).alloc (Nat.le_refl _) _⟩
  clear h0 hmk1 HBC
  rintro V ⟨hv, hbv⟩
  have HV := hid hv; have HB := hid hbv
  have c0 : V.cell? ⟨sb, 0, none⟩ = some (.slice Al xs.length cl) := (hbv.cell (p := _) (block_lt_of_cell H0.out)).trans H0.out
  clear hv hbv
  generalize hg : w1.heap.size = g at *
  have HG := hid hg
  clear hg
  go_wp2_with fail
  go_loopw [21] (fun v wr => ∃ (j : Nat) (F : List Nat), v = .int .i64 j ∧ j ≤ xs.length ∧ Hid (WtR wr g g xs.length F ∧ Below g w1 wr ∧ ∀ i, i < j → F.getD i 0 = capW (wtT xs (i : Int)))) (fun v _ => xs.length - (intOf v).toNat)
  case atStart => exact ⟨0, _, rfl, Nat.zero_le _, hid ⟨HV.out, HB.out, fun i hi => by omega⟩⟩
  case round =>
    clear HV HB c0
    obtain ⟨j, F, hv, hj, HR⟩ := hrel
    subst hv
    by_cases hlt : j < xs.length
    · have hlt' : (j : Int) < (xs.length : Int) := by omega
      obtain ⟨b, off, x, A', c', rfl, hx, y0', y1', y2', y3', ys⟩ := HND.out.at hlt
      have up : ∀ {p : Addr} {u : Value}, w1.cell? p = some u → wr.cell? p = some u := fun h => ((show Below w1.heap.size w1 wr by rw [HG.out]; exact HR.out.2.1).cell (p := _) (block_lt_of_cell h)).trans h
      have y0 := up y0'; have y1 := up y1'; have y2 := up y2'; have y3 := up y3'
      clear up y0' y1' y2' y3'
      have hth : hasB xs (j : Int) = true := has_iff.2 ⟨by omega, hlt'⟩
      have hxe : nodeF xs (j : Int) = x := by
        have := nodeF_get hth
        rw [Int.toNat_natCast, hx] at this
        injection this with this
        exact this.symm
      have HWE := hid (show wtT xs (j : Int) = preW xs x.l x.l.length by
        rw [wt_eq HOK.out hth, hxe]
        unfold preW
        rw [List.take_length])
      have HXH := hid (show ∀ y ∈ x.l, 0 ≤ y ∧ y < (j : Int) from fun y hy => by
        have := part_lt HOK.out hth (hxe ▸ hy)
        have h2 := has_iff.1 this.2.2
        omega)
      have HYS := hid (fun (U : World) (hb : Below g w1 U) => (show SlA U 1 A' x.l.length c' (x.l.map (.int .i64)) from ys.ext (by rw [HG.out]; exact hb)))
      have hxl : x.l.length ≤ 64 := hxe ▸ nd_le HOK.out hth
      have hgw : g < wr.heap.size := (HR.out.1.2.lt _ rfl).2
      have HBX := hid (show Below wr.heap.size wr (wr.alloc (.cells #[.int .i64 x.o, .int .i64 x.n, .string x.s, .slice A' x.l.length c'] 32)) from (Below.refl _ _).alloc (Nat.le_refl _) _)
      clear hx hxe hth ys
      go_upto_region 5 with fail
      refine forget (R := fun U => WtR U g g xs.length F ∧ Below g w1 U ∧ U.cell? ⟨wr.heap.size, 3, none⟩ = some (.slice A' x.l.length c')) ?_ ⟨HR.out.1.ext HBX.out, HR.out.2.1.trans (HBX.out.mono (by omega)), by rw [World.cell?_alloc_at _ _ _ _ rfl]; rfl⟩
      clear y0 y1 y2 y3 HBX
      rintro U ⟨hu, hbu, k3⟩
      have HU := hid hu; have HBU := hid hbu
      obtain ⟨d0, d1⟩ := hu.cell hlt
      have hne : wr.heap.size ≠ g := by omega
      have k3' : (U.setCell ⟨g, j, none⟩ (.int .i64 1)).cell? ⟨wr.heap.size, 3, none⟩ = some (.slice A' x.l.length c') := by
        rw [World.cell?_of_block (a := ⟨wr.heap.size, 3, none⟩) (Below.heap_setCell U ⟨g, j, none⟩ (.int .i64 1) wr.heap.size hne)]
        exact k3
      have HST := hid (show WtR (U.setCell ⟨g, j, none⟩ (.int .i64 1)) g g xs.length (F.set j 1) ∧ Below g w1 (U.setCell ⟨g, j, none⟩ (.int .i64 1)) ∧ (∀ i, i < j → (F.set j 1).getD i 0 = capW (wtT xs (i : Int))) ∧ (F.set j 1).getD j 0 = capW (preW xs x.l 0) from by
        have hfl := hu.1
        refine ⟨by have := hu.put j 1; simpa using this, hbu.setCell (p := ⟨g, j, none⟩) (Nat.le_refl _) _, fun i hi => ?_, ?_⟩
        · rw [List.getD, List.getElem?_set_ne (by omega)]
          exact HR.out.2.2 i hi
        · rw [List.getD, List.getElem?_set_self (by omega)]
          unfold preW capW
          simp)
      clear hu hbu HR
      go_wp2_with fail
      go_loopw [32] (fun v wq => ∃ (i : Nat) (F2 : List Nat), v = .int .i64 i ∧ i ≤ x.l.length ∧ Hid (WtR wq g g xs.length F2 ∧ Below g w1 wq ∧ (∀ i, i < j → F2.getD i 0 = capW (wtT xs (i : Int))) ∧ F2.getD j 0 = capW (preW xs x.l i))) (fun v _ => x.l.length - (intOf v).toNat)
      case atStart => exact ⟨0, _, rfl, Nat.zero_le _, HST⟩
      case round =>
        clear HST HU HBU d0 d1 k3 k3'
        obtain ⟨i, F2, hv, hi, HQ⟩ := hrel
        subst hv
        by_cases hlti : i < x.l.length
        · have hlti' : (i : Int) < (x.l.length : Int) := by omega
          obtain ⟨b2, o2, y, rfl, hy, hcy⟩ := (HYS.out wr HQ.out.2.1).elemI hlti
          have hyj := HXH.out y (List.mem_of_getElem? hy)
          obtain ⟨ky, rfl⟩ := Int.eq_ofNat_of_zero_le hyj.1
          have HPW := hid (preW_succ (xs := xs) hy)
          have hkj : ky < j := by omega
          have hkx : (ky : Int) < (xs.length : Int) := by omega
          obtain ⟨e0, e1⟩ := HQ.out.1.cell (i := j) hlt
          obtain ⟨e2, e3⟩ := HQ.out.1.cell (i := ky) (by omega)
          have ha := HQ.out.2.2.2
          have hb := HQ.out.2.2.1 ky hkj
          have HSUM := hid (show capW (F2.getD j 0 + F2.getD ky 0) = capW (preW xs x.l (i + 1)) by rw [ha, hb, cap_step, HPW.out])
          have hal : F2.getD j 0 ≤ 100000 := by rw [ha]; unfold capW; omega
          have hbl : F2.getD ky 0 ≤ 100000 := by rw [hb]; unfold capW; omega
          have HFL := hid HQ.out.1.1
          have HKEEP := hid (fun (v : Nat) => (show ∀ i, i < j → (F2.set j v).getD i 0 = capW (wtT xs (i : Int)) from fun i hi => by
            rw [List.getD, List.getElem?_set_ne (by omega)]
            exact HQ.out.2.2.1 i hi))
          have HAT := hid (fun (v : Nat) => (show (F2.set j v).getD j 0 = v by rw [List.getD, List.getElem?_set_self (by have := HFL.out; omega)]; rfl))
          clear hy ha hb hyj
          generalize F2.getD j 0 = a at *
          generalize F2.getD ky 0 = bb at *
          have hsum : IntKind.i64.wrap ((a : Int) + (bb : Int)) = ((a + bb : Nat) : Int) := by rw [IntKind.wrap_i64]; omega
          go_upto_region 9 with fail
          go_region
          all_goals
            go_upto_region 10 with fail
            have hP := HQ.out.1.put j (a + bb)
            have hB := HQ.out.2.1.setCell (p := ⟨g, j, none⟩) (Nat.le_refl _) (.int .i64 ((a + bb : Nat) : Int))
            refine forget (R := fun W => WtR W g g xs.length (F2.set j (a + bb)) ∧ Below g w1 W) ?_ ⟨by first | exact hP.drewN _ | exact hP.drewN 1 | exact ⟨hP.1, own_block hP.2 fun _ _ => rfl⟩, by first | exact below_drewN hB _ | exact below_drew hB⟩
            clear hP hB
            rintro W9 ⟨hw9, hb9⟩
            have H9 := hid hw9; have B9 := hid hb9
            obtain ⟨f0, f1⟩ := hw9.cell (i := j) hlt
            rw [HAT.out] at f0
            clear hw9 hb9 e0 e1 e2 e3 HQ
            by_cases hcap : 100000 < a + bb
            · have hcap' : (100000 : Int) < ((a + bb : Nat) : Int) := by omega
              have HC := hid (show capW (preW xs x.l (i + 1)) = 100000 by rw [← HSUM.out]; unfold capW; omega)
              generalize a + bb = ab at *
              have HP9 := hid (show WtR (W9.setCell ⟨g, j, none⟩ (.int .i64 100000)) g g xs.length ((F2.set j ab).set j 100000) from by have := H9.out.put j 100000; simpa using this)
              rw [List.set_set] at HP9
              go_wp2_with fail
              go_roundw
              case rel => exact ⟨i + 1, F2.set j 100000, by go_num, by omega, hid ⟨HP9.out, B9.out.setCell (p := ⟨g, j, none⟩) (Nat.le_refl _) _, HKEEP.out _, by rw [HAT.out, HC.out]⟩⟩
              case measure => simp [intOf]; omega
            · have hcap' : ¬ (100000 : Int) < ((a + bb : Nat) : Int) := by omega
              have HC := hid (show capW (preW xs x.l (i + 1)) = a + bb by rw [← HSUM.out]; unfold capW; omega)
              generalize a + bb = ab at *
              go_wp2_with fail
              go_roundw
              case rel => exact ⟨i + 1, F2.set j ab, by go_num, by omega, hid ⟨H9.out, B9.out, HKEEP.out _, by rw [HAT.out, HC.out]⟩⟩
              case measure => simp [intOf]; omega
        · obtain rfl : i = x.l.length := by omega
          have hlti' : ¬ (x.l.length : Int) < (x.l.length : Int) := by omega
          go_wp2_with fail
          go_roundw
          case rel =>
            refine ⟨j + 1, F2, by go_num, by omega, hid ⟨HQ.out.1, HQ.out.2.1, fun i hi => ?_⟩⟩
            by_cases hij : i = j
            · subst hij; rw [HQ.out.2.2.2, HWE.out]
            · exact HQ.out.2.2.1 i (by omega)
          case measure => simp [intOf]; omega
    · have hjx : j = xs.length := by omega
      subst hjx
      have hlt' : ¬ (xs.length : Int) < (xs.length : Int) := by omega
      have HLW := hid (HL.out.ext (show Below w1.heap.size w1 wr by rw [HG.out]; exact HR.out.2.1))
      go_wp2_with fail
      go_loopw [58, 10] (fun v s wq => ∃ k : Nat, v = .int .i64 k ∧ s = .int .i64 (lightN xs (l.take k) : Nat) ∧ k ≤ n ∧ wq = wr) (fun v _ _ => n - (intOf v).toNat)
      case atStart => exact ⟨0, rfl, rfl, Nat.zero_le _, rfl⟩
      case round =>
        obtain ⟨k, hv, hs, hk, hw⟩ := hrel
        subst hv; subst hs; subst hw
        by_cases hltk : k < n
        · have hltk' : (k : Int) < (n : Int) := by omega
          obtain ⟨b2, o2, t, rfl, ht, hct⟩ := HLW.out.elemI hltk
          have HSN := hid (show lightN xs (l.take (k + 1)) = lightN xs (l.take k) + (if hasB xs t = true then capW (wtT xs t) else 0) by rw [take_one ht, light_snoc])
          have hle := light_le2 xs (l.take k)
          have hle2 : (l.take k).length ≤ k := by simp; omega
          have hn1 : lightN xs (l.take k) ≤ 100000000 := by omega
          clear ht hle hle2
          generalize lightN xs (l.take k) = s at *
          by_cases h0 : 0 ≤ t
          · have d0 : decide (0 ≤ t) = true := decide_eq_true h0
            by_cases h1 : t < (xs.length : Int)
            · obtain ⟨kt, rfl⟩ := Int.eq_ofNat_of_zero_le h0
              have d1 : decide ((kt : Int) < (xs.length : Int)) = true := decide_eq_true h1
              have hF := HR.out.2.2 kt (by omega)
              obtain ⟨e0, e1⟩ := HR.out.1.cell (i := kt) (by omega)
              have HSN2 := hid (show lightN xs (l.take (k + 1)) = s + capW (wtT xs (kt : Int)) by rw [HSN.out, if_pos (has_iff.2 ⟨by omega, h1⟩)])
              rw [hF] at e0
              have hcl : capW (wtT xs (kt : Int)) ≤ 100000 := by unfold capW; omega
              clear hF HSN
              generalize capW (wtT xs (kt : Int)) = cw at *
              have hsum : IntKind.i64.wrap ((s : Int) + (cw : Int)) = ((s + cw : Nat) : Int) := by rw [IntKind.wrap_i64]; omega
              go_wp2_with fail
              go_roundw
              case rel => exact ⟨k + 1, by go_num, by rw [HSN2.out]; rfl, by omega, by first | rfl | trivial⟩
              case measure => simp [intOf]; omega
            · have d1 : decide (t < (xs.length : Int)) = false := decide_eq_false h1
              have HSN2 := hid (show lightN xs (l.take (k + 1)) = s by
                rw [HSN.out, if_neg (fun e => h1 (has_iff.1 e).2), Nat.add_zero])
              clear HSN
              go_wp2_with fail
              go_roundw
              case rel => exact ⟨k + 1, by go_num, by rw [HSN2.out], by omega, by first | rfl | trivial⟩
              case measure => simp [intOf]; omega
          · have d0 : decide (0 ≤ t) = false := decide_eq_false h0
            have HSN2 := hid (show lightN xs (l.take (k + 1)) = s by
              rw [HSN.out, if_neg (fun e => h0 (has_iff.1 e).1), Nat.add_zero])
            clear HSN
            go_wp2_with fail
            go_roundw
            case rel => exact ⟨k + 1, by go_num, by rw [HSN2.out], by omega, by first | rfl | trivial⟩
            case measure => simp [intOf]; omega
        · have hkn : k = n := by omega
          subst hkn
          have hltk' : ¬ ((k : Nat) : Int) < (k : Int) := by omega
          have HTK := hid (show l.take k = l from List.take_of_length_le (by omega))
          have HF := hid (show lightB xs l = decide (((lightN xs (l.take k) : Nat) : Int) < 3000) by
            rw [HTK.out]
            unfold lightB
            rw [Bool.eq_iff_iff, decide_eq_true_eq, decide_eq_true_eq]
            omega)
          have HBW := hid (show Below w1.heap.size w1 wr by rw [HG.out]; exact HR.out.2.1)
          generalize lightN xs (l.take k) = s at *
          go_wp2_with fail
          go_ret
          exact ⟨by rw [HF.out]; rfl, HBW.out⟩
end Go.Proofs.YtadbgmfdbahcbaaDoor

