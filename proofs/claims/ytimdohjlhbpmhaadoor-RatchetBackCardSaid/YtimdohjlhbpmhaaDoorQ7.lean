/- the reference of layer 7: Members; the law's few. -/
import Derived.Test.YtimdohjlhbpmhaaDoorP3
namespace Go.Proofs.YtimdohjlhbpmhaaDoor
open Go.RowKit Go.KK Go.Shelf
set_option linter.unusedVariables false
set_option linter.unusedSimpArgs false

set_option maxHeartbeats 1000000 in
theorem rmembers_any (A : Option Addr) (n c : Nat) (xs : List TN) (w : World) (h : Tr w A n c xs) (hnm : n ≤ 600) (hu : Shorts xs) (hw : WfT xs) :
    Calls Tryd.prog 22 #[.slice A n c] w fun e w' => ∃ v, e = .returned v ∧ w'.ownsRow w.heap.size 3 1 v (mems xs).length ((mems xs).map (.int .i64)) ∧ Below w.heap.size w w' := by
  have H0 := hid h; have HU := hid hu; have HW := hid hw
  have HL := hid h.len
  clear h hu hw
  rcases hc : chkB xs with _ | _
  · have he : chkE xs = 1 := by unfold chkE; rw [hc]; rfl
    have HM := hid (show mems xs = [] by unfold mems; rw [hc]; rfl)
    go_enter Tryd.func22, Tryd.ntmps22
    go_wp2_with (go_at_call 21; refine (rchk_any _ n c xs _ H0.out hnm HU.out HW.out).mono ?_; rintro e1 w1 ⟨rfl, hb1⟩; rw [he])
    go_ret
    refine ⟨_, rfl, ?_, hb1⟩
    rw [HM.out]
    exact World.ownsRow_nil _ _ _ _
  · have he : chkE xs = 0 := by unfold chkE; rw [hc]; rfl
    have HM := hid (show mems xs = memL xs (lvN n) by unfold mems; rw [hc, HL.out]; rfl)
    obtain ⟨hf, hn2, _, _⟩ := chk_full hc
    rw [HL.out] at hf hn2
    have HR := hid (show rlv n = lvN n by unfold rlv; rw [hf, hn2]; simp)
    have hn3 : 2 * (lvN n : Int) - 1 ≤ n := by omega
    clear hc hf hn2
    obtain ⟨i0, hi, hz0, hz1, hz2⟩ := info_parts Tryd.infoInt
    have hN : lvN n ≤ 301 := by unfold lvN; omega
    go_enter Tryd.func22, Tryd.ntmps22
    go_wp2_with (first
      | (go_at_call 21; refine (rchk_any _ n c xs _ H0.out hnm HU.out HW.out).mono ?_; rintro e1 w1 ⟨rfl, hb1⟩; rw [he]; have HB := hid hb1; clear hb1)
      | (go_at_call 42; refine (rleavesT_any _ n c _ hnm).mono ?_; rintro e w' ⟨rfl, hw'⟩; subst w'; rw [HR.out]))
    go_loopw [10, 3] (fun i v wr => ∃ j : Nat, i = .int .i64 j ∧ j ≤ lvN n ∧ wr.ownsRow w.heap.size 3 1 v (memL xs j).length ((memL xs j).map (.int .i64)) ∧ Below w.heap.size w wr) (fun i _ _ => lvN n - (intOf i).toNat)
    case atStart => exact ⟨0, rfl, by omega, World.ownsRow_nil _ _ _ _, HB.out⟩
    case round =>
      obtain ⟨j, hi1, hj, hown, hbr⟩ := hrel
      subst hi1
      have HBr := hid hbr; clear hbr
      by_cases hlt : j < lvN n
      · have h2j : 2 * j < n := by omega
        obtain ⟨b0, o0, q, A', c', rfl, hq, c0, -, -, -, -, -, -⟩ := (H0.out.ext HBr.out).at h2j
        have HP := hid (show pres xs (j : Int) = (q.k == 1) by rw [pres_nat (by rw [HL.out]; exact hlt)]; unfold kd; rw [hq])
        clear hq
        rcases hk : (q.k == 1) with _ | _
        · have HJ := hid (memL_no (HP.out.trans hk))
          go_wp2
          go_roundw
          case rel => exact ⟨j + 1, by go_num, by omega, by rw [HJ.out]; exact hown, HBr.out⟩
          case measure => simp [intOf]; omega
        · have HJ := hid (memL_yes (HP.out.trans hk))
          have hml := memL_le xs j
          have hz := HBr.out.size
          have hown3 := hown.alloc (.cells #[.int .i64 j] 3)
          have hlit := SlA.lit1 (w := wr) (T := 3) (.int .i64 j)
          go_wp2_with (at_builtin; refine wpList_append_sl _ rfl _ _ 23 rfl w.heap.size 3 i0 (.int .i64 0) 1 8 Tryd.underlying23 hi hz0 hz1 hz2 rfl (by decide) _ _ _ rfl hown3 _ 1 1 _ rfl hlit (one_int _ _) (by unfold maxLen; omega) (by omega) (by simp; omega) ?_; intro v3 w3 hown4 hg4 _)
          go_roundw
          case rel =>
            refine ⟨j + 1, by go_num, by omega, ?_, below_append (HBr.out.alloc hz _) hg4 hown3 (Nat.le_refl _) (by simp; omega)⟩
            rw [HJ.out, List.map_append, List.length_append]
            exact hown4
          case measure => simp [intOf]; omega
      · have hjn : j = lvN n := by omega
        have HJ := hid hjn; clear hjn
        go_wp2
        go_ret
        refine ⟨_, rfl, ?_, HBr.out⟩
        rw [HM.out, ← HJ.out]
        exact hown

/-- A tree is small. -/
def fewT (xs : List TN) : Bool := decide (xs.length ≤ 140) && xs.all fun x => decide (x.u.length ≤ 70)
/-- A value that reads as a tree. -/
def TrV (w : World) (v : Value) (xs : List TN) : Prop := ∃ A n c, v = .slice A n c ∧ Tr w A n c xs
theorem TrV.ext {w w' : World} {v : Value} {xs : List TN} (h : TrV w v xs) (hb : Below w.heap.size w w') : TrV w' v xs := by
  obtain ⟨A, n, c, e, ht⟩ := h
  exact ⟨A, n, c, e, ht.ext hb⟩
set_option maxHeartbeats 1000000 in
theorem few_any (A : Option Addr) (m c : Nat) (vs : List Value) (ts : List (List TN)) (w : World) (h : SlA w 1 A m c vs) (hts : ts.length = m) (hm : m ≤ 10) (hv : ∀ (j : Nat) v xs, vs[j]? = some v → ts[j]? = some xs → TrV w v xs) :
    Calls Tryd.prog 9 #[.slice A m c] w fun e w' => e = .returned (.bool (ts.all fewT)) ∧ Below w.heap.size w w' := by
  have H := hid h; have HT := hid hts; have HV := hid hv
  have HL := hid h.len
  clear h hts hv
  go_enter Tryd.func9, Tryd.ntmps9
  go_wp2
  go_loopw [9, 2] (fun i _ wr => ∃ j : Nat, i = .int .i64 j ∧ j ≤ m ∧ Hid (∀ k xs, k < j → ts[k]? = some xs → fewT xs = true) ∧ Below w.heap.size w wr) (fun i _ _ => m - (intOf i).toNat)
  case atStart => exact ⟨0, rfl, by omega, hid (fun k _ hk => by omega), Below.refl _ _⟩
  case round =>
    obtain ⟨j, hi, hj, HJ, hbr⟩ := hrel
    subst hi
    have HB := hid hbr; clear hbr
    by_cases hlt : j < m
    · obtain ⟨b, o, v, rfl, hu, hc⟩ := (H.out.ext HB.out).elem hlt
      have hx : ts[j]? = some (ts[j]'(by rw [HT.out]; exact hlt)) := List.getElem?_eq_getElem _
      generalize ts[j]'(by rw [HT.out]; exact hlt) = xs at hx
      obtain ⟨A2, n2, c2, rfl, htr⟩ := (HV.out j v xs hu hx).ext HB.out
      have HX := hid hx
      have hlen := htr.len
      have hnc := htr.nc
      have hmx : n2 ≤ 9223372036854775807 := by have := hnc.2; have := hnc.1; unfold maxLen at *; omega
      have HUU := hid hu
      have HLEN := hid hlen
      have hzr := HB.out.size
      clear hx hu htr hlen hnc
      have hno : fewT xs = false → ts.all fewT = false := fun h => by
        rcases hh : ts.all fewT with _ | _
        · rfl
        · have := List.all_eq_true.1 hh xs (List.mem_of_getElem? HX.out)
          rw [h] at this; cases this
      have HNO := hid hno
      clear hno
      by_cases h140 : n2 ≤ 140
      · go_wp2
        obtain ⟨wo, rfl⟩ : ∃ wo : World, wo = wr := ⟨_, rfl⟩
        go_loopw [18, 2] (fun i _ w2 => ∃ k : Nat, i = .int .i64 k ∧ k ≤ n2 ∧ Hid (∀ t x, t < k → xs[t]? = some x → x.u.length ≤ 70) ∧ Below w.heap.size w w2) (fun i _ _ => n2 - (intOf i).toNat)
        case atStart => exact ⟨0, rfl, by omega, hid (fun k _ hk => by omega), HB.out⟩
        case round =>
          obtain ⟨k, hi, hk, HK, hb2⟩ := hrel
          subst hi
          have HB2 := hid hb2; clear hb2
          have HTV := hid ((HV.out j _ xs HUU.out HX.out).ext HB2.out)
          by_cases hkn : k < n2
          · have htr2 : Tr wr A2 n2 c2 xs := by
              obtain ⟨A3, n3, c3, e, ht3⟩ := HTV.out
              injection e with e1 e2 e3
              subst e1; subst e2; subst e3
              exact ht3
            obtain ⟨b1, o1, x, A4, c4, rfl, hx, d0, d1, d2, d3, d4, d5, hsx⟩ := htr2.at hkn
            have hxm := hsx.cm
            have hxn := hsx.nc
            have hxl : x.u.length ≤ 9223372036854775807 := by unfold maxLen at hxm; omega
            have HXX := hid hx
            have hz2 := HB2.out.size
            clear hx hsx hxm hxn htr2
            by_cases h70 : x.u.length ≤ 70
            · go_wp2
              go_roundw
              case rel => exact ⟨k + 1, by go_num, by omega, hid (fun t y ht hy => by
                by_cases htk : t < k
                · exact HK.out t y htk hy
                · rw [show t = k by omega, HXX.out] at hy
                  injection hy with hy
                  rw [← hy]; exact h70), HB2.out.alloc hz2 _⟩
              case measure => simp [intOf]; omega
            · have HF := hid (HNO.out (by
                unfold fewT
                rcases hh : xs.all (fun x => decide (x.u.length ≤ 70)) with _ | _
                · rw [Bool.and_false]
                · have := List.all_eq_true.1 hh x (List.mem_of_getElem? HXX.out)
                  exact absurd (of_decide_eq_true this) h70))
              go_wp2
              go_ret
              exact ⟨by rw [HF.out]; rfl, HB2.out.alloc hz2 _⟩
          · have HF := hid (show fewT xs = true by
              unfold fewT
              rw [decide_eq_true (by rw [HLEN.out]; exact h140), Bool.true_and, List.all_eq_true]
              intro x hx
              obtain ⟨t, ht, e⟩ := List.mem_iff_getElem.1 hx
              exact decide_eq_true (HK.out t x (by have := HLEN.out; omega) (by rw [← e]; exact List.getElem?_eq_getElem ht)))
            go_wp2
            go_roundw
            case rel => exact ⟨j + 1, by go_num, by omega, hid (fun t y ht hy => by
              by_cases htj : t < j
              · exact HJ.out t y htj hy
              · rw [show t = j by omega, HX.out] at hy
                injection hy with hy
                rw [← hy]; exact HF.out), HB2.out⟩
            case measure => simp [intOf]; omega
      · have HF := hid (HNO.out (by unfold fewT; rw [decide_eq_false (by rw [HLEN.out]; exact h140)]; rfl))
        go_wp2
        go_ret
        exact ⟨by rw [HF.out]; rfl, HB.out⟩
    · have HF := hid (show ts.all fewT = true from List.all_eq_true.2 fun xs hx => by
        obtain ⟨t, ht, e⟩ := List.mem_iff_getElem.1 hx
        exact HJ.out t xs (by have := HT.out; omega) (by rw [← e]; exact List.getElem?_eq_getElem ht))
      go_wp2
      go_ret
      exact ⟨by rw [HF.out]; rfl, HB.out⟩
end Go.Proofs.YtimdohjlhbpmhaaDoor
