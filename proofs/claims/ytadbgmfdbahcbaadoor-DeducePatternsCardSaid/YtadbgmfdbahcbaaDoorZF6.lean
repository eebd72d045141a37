import Derived.Test.YtadbgmfdbahcbaaDoorZf
/- deduce: Known. -/
namespace Go.Proofs.YtadbgmfdbahcbaaDoor
open Go.RowKit Go.KK Go.Shelf Go.Maps
set_option linter.unusedVariables false
set_option linter.unusedSimpArgs false

theorem bool_cell {w : World} {mb N : Nat} {I : List Bool} (h : w.ownsRow 0 4 1 (.slice (some ⟨mb, 0, none⟩) N N) N (I.map .bool)) (hI : I.length = N) {t : Nat} (ht : t < N) : w.cell? ⟨mb, t, none⟩ = some (.bool (inB I t)) ∧ w.frozen? ⟨mb, t, none⟩ = false ∧ (w.setCell ⟨mb, t, none⟩ (.bool true)).ownsRow 0 4 1 (.slice (some ⟨mb, 0, none⟩) N N) N ((I.set t true).map .bool) := by
  subst hI
  obtain ⟨ib, cap, e, hc, hf⟩ := in_cell h ht
  injection e with e
  injection e with e
  injection e with e
  subst e
  have := (h.stored t (.bool true)).1
  rw [← List.map_set] at this
  exact ⟨hc, hf, this⟩
/-- What Known leaves. -/
def KnownP (W : World) (xs : List ND) (known : List Int) (e : Ending) (w' : World) : Prop :=
  (known.all (hasB xs) = false ∧ e = .returned (.tuple #[.slice none 0 0, .int .i64 1]) ∧ Below W.heap.size W w') ∨
  (known.all (hasB xs) = true ∧ ∃ A c, e = .returned (.tuple #[.slice A (knF xs known).length c, .int .i64 0]) ∧ w'.ownsRow W.heap.size 3 1 (.slice A (knF xs known).length c) (knF xs known).length ((knF xs known).map (.int .i64)) ∧ Below W.heap.size W w')
set_option maxHeartbeats 8000000 in
set_option maxRecDepth 100000 in
theorem known_any (W : World) (st : Nat) (xs : List ND) (A : Option Addr) (n c : Nat) (known : List Int) (hA : ArV W 84 st xs) (hok : Okay xs) (hul : ∀ m, (uses xs m).length ≤ 100000000) (hl : SlA W 1 A n c (known.map (.int .i64))) (hn : n ≤ 1000000) :
    Calls Tryd.prog 17 #[.pointer (some ⟨st, 0, none⟩), .slice A n c] W fun e w' => KnownP W xs known e w' := by
  obtain ⟨i0, hi, hz0, hz1, hz2⟩ := info_parts Tryd.infoInt
  have HCL := hid (closed_any W st xs A n c known hA hok hul hl hn)
  have HOK := hid hok; have HKN := hid hl
  have hln := hid hl.lenI
  have hxn : xs.length ≤ 100000 := hok.len
  have hmk1 : ∀ U : World, (Instr.makeSlice 74 (.int .i64 (xs.length : Int)) (.int .i64 (xs.length : Int))).run Tryd.prog U = .ok (.slice (some ⟨U.heap.size, 0, none⟩) xs.length xs.length) (U.alloc (.cells (madeCells #[.bool false] xs.length) 4)) := by
    obtain ⟨b0, b1, b2, b3, b4⟩ := info_parts infoBool
    exact make1 Tryd.underlying74 b1 b2 b3 b4 (by decide) rfl hxn
  have HBC := hid (made1 (.bool false) xs.length)
  generalize madeCells #[Value.bool false] xs.length = bc at *
  clear hA hok hul hl
  go_enter Tryd.func17, Tryd.ntmps17
  go_wp2_with fail
  refine HCL.out.mono ?_
  rintro e w1 (⟨hall, rfl, hb⟩ | ⟨hall, sp, G, R, lv, uv, J, rfl, hi1, hs, hb, hg⟩)
  · have HF := hid hall
    have HB := hid hb
    clear hall hb HCL
    go_wp2_with fail
    first | go_ret2 | go_ret
    exact (show KnownP _ _ _ _ _ from .inl ⟨HF.out, rfl, HB.out⟩)
  · have HF := hid hall; have HB := hid hb; have HI := hid hi1; have HS := hid hs
    have HH := hid (fun x (hx : x ∈ known) => List.all_eq_true.1 hall x hx)
    obtain ⟨Al, cl, qs, rfl, -⟩ := hs.rdl
    obtain ⟨iv, ov, ⟨c0, c1, c2, c3⟩, -⟩ := hs.cells
    clear hall hb hi1 hs hg HCL
    go_upto_region 5 with fail
    refine forget (R := fun V => V.ownsRow 0 4 1 (.slice (some ⟨w1.heap.size, 0, none⟩) xs.length xs.length) xs.length ((List.replicate xs.length false).map .bool) ∧ Below w1.heap.size w1 V) ?_ ⟨by rw [List.map_replicate]; exact own_mono (own_new HBC.out hxn) (Nat.zero_le _), (Below.refl _ _).alloc (Nat.le_refl _) _⟩
    clear c0 c1 c2 c3 HBC hmk1
    rintro V ⟨hm, hbv⟩
    have HM := hid hm; have HBV := hid hbv
    clear hm hbv
    generalize hmb : w1.heap.size = mb at *
    have HMB := hid hmb
    clear hmb
    go_wp2_with fail
    go_loopw [34] (fun v wr => ∃ j : Nat, v = .int .i64 j ∧ j ≤ n ∧ Hid (wr.ownsRow 0 4 1 (.slice (some ⟨mb, 0, none⟩) xs.length xs.length) xs.length ((setsB (List.replicate xs.length false) (known.take j)).map .bool) ∧ Below mb w1 wr)) (fun v _ => n - (intOf v).toNat)
    case atStart => exact ⟨0, rfl, Nat.zero_le _, hid ⟨HM.out, HBV.out⟩⟩
    case round =>
      clear HM HBV
      obtain ⟨j, hv, hj, HR⟩ := hrel
      subst hv
      have HL := hid (show (setsB (List.replicate xs.length false) (known.take j)).length = xs.length by rw [setsB_len]; simp)
      by_cases hlt : j < n
      · obtain ⟨b1, o1, u, rfl, huj, hcu⟩ := ((HKN.out.ext HB.out).ext (by rw [HMB.out]; exact HR.out.2)).elemI hlt
        have huh := HH.out u (List.mem_of_getElem? huj)
        obtain ⟨q, rfl⟩ := Int.eq_ofNat_of_zero_le (has_iff.1 huh).1
        have hqx : (q : Int) < (xs.length : Int) := (has_iff.1 huh).2
        have hlt' : (j : Int) < (n : Int) := by omega
        have HTK := hid (show setsB (List.replicate xs.length false) (known.take (j + 1)) = (setsB (List.replicate xs.length false) (known.take j)).set q true by rw [take_one huj, setsB_snoc, Int.toNat_natCast])
        obtain ⟨d0, d1, d2⟩ := bool_cell HR.out.1 HL.out (t := q) (by omega)
        have HD := hid d2
        clear huj huh d2
        go_wp2_with fail
        go_roundw
        case rel => exact ⟨j + 1, by go_num, by omega, hid ⟨by rw [HTK.out]; exact HD.out, HR.out.2.setCell (p := ⟨mb, q, none⟩) (Nat.le_refl _) _⟩⟩
        case measure => simp [intOf]; omega
      · have hjn : j = n := by omega
        have HMT := hid (mt_start HH.out)
        have HTK := hid (show known.take j = known from List.take_of_length_le (by have := hln.out; omega))
        have HR2 := hid (show wr.ownsRow 0 4 1 (.slice (some ⟨mb, 0, none⟩) xs.length xs.length) xs.length ((setsB (List.replicate xs.length false) known).map .bool) from by have := HR.out.1; rwa [HTK.out] at this)
        have HRB := hid HR.out.2
        subst hjn
        have hlt' : ¬ ((j : Nat) : Int) < (j : Int) := by omega
        have HSW := hid (HS.out.ext (by rw [HMB.out]; exact HR.out.2))
        obtain ⟨iv2, ov2, ⟨c0, c1, c2, c3⟩, -⟩ := HSW.out.cells
        generalize setsB (List.replicate xs.length false) known = I0 at *
        have hsub : IntKind.i64.wrap ((xs.length : Int) - 1) = (xs.length : Int) - 1 := by rw [IntKind.wrap_i64]; omega
        clear HR hlt HL
        go_wp2_with fail
        go_loopw [11] (fun v wr => ∃ (k : Nat) (I : List Bool), v = .int .i64 ((k : Int) - 1) ∧ k ≤ xs.length ∧ Hid (wr.ownsRow 0 4 1 (.slice (some ⟨mb, 0, none⟩) xs.length xs.length) xs.length (I.map .bool) ∧ Below mb w1 wr ∧ Mt xs known I k)) (fun v _ => (intOf v + 1).toNat)
        case atStart => exact ⟨xs.length, I0, rfl, Nat.le_refl _, hid ⟨HR2.out, HRB.out, HMT.out⟩⟩
        case round =>
          clear HR2 HRB HMT HSW c0 c1 c2 c3
          obtain ⟨k, I, hv, hk, HR⟩ := hrel
          have HW := hid (show Below w1.heap.size w1 wr by rw [HMB.out]; exact HR.out.2.1)
          have HSW := hid (HS.out.ext HW.out)
          obtain ⟨iv2, ov2, ⟨c0, c1, c2, c3⟩, -, own1, -⟩ := HSW.out.cells
          rcases k with _ | k
          · have hv' : u11 = .int .i64 (-1) := by rw [hv]; rfl
            clear hv
            subst hv'
            clear own1
            have HPK := hid (pickB_kn HOK.out HH.out (J := J) HR.out.2.2 fun t ht => HI.out.done HOK.out HH.out ht)
            have HIL := hid HR.out.2.2.len
            have HJL := hid (show J.length = xs.length from HS.out.len)
            have HRO := hid HR.out.1
            have HR2 := hid HR.out.2.1
            have HROF := hid (fun (w2 : World) (hb : Below wr.heap.size wr w2) => own_ext HR.out.1 hb)
            have HSF := hid (fun (w2 : World) (hb : Below wr.heap.size wr w2) => HSW.out.ext hb)
            have HBF := hid (fun (w2 : World) (hb : Below wr.heap.size wr w2) => (show Below W.heap.size W w2 from (HB.out.trans (HW.out.mono HB.out.size)).trans (hb.mono (Nat.le_trans HB.out.size HW.out.size))))
            have HWS := hid (show W.heap.size ≤ wr.heap.size from Nat.le_trans HB.out.size HW.out.size)
            clear HR
            go_wp2_with fail
            go_loopw [75, 14] (fun v o wq => ∃ j : Nat, v = .int .i64 j ∧ j ≤ xs.length ∧ Hid (wq.ownsRow wr.heap.size 3 1 o (pickB I J j).length ((pickB I J j).map (.int .i64)) ∧ Below wr.heap.size wr wq)) (fun v _ _ => xs.length - (intOf v).toNat)
            case atStart => exact ⟨0, rfl, Nat.zero_le _, hid ⟨World.ownsRow_nil _ _ _ _, Below.refl _ _⟩⟩
            case round =>
              clear c0 c1 c2 c3 HSW HW HRO HR2
              obtain ⟨j, hv, hj, HQ⟩ := hrel
              subst hv
              obtain ⟨Ao, co, rfl, -⟩ := SlA.owned HQ.out.1
              by_cases hlt : j < xs.length
              · have hlt' : (j : Int) < (xs.length : Int) := by omega
                obtain ⟨d0, d1, -⟩ := bool_cell (HROF.out _ HQ.out.2) HIL.out (t := j) hlt
                obtain ⟨iv, ov, ⟨c0, c1, c2, c3⟩, -, own1, -⟩ := (HSF.out _ HQ.out.2).cells
                obtain ⟨ib, cap, rfl, hcb, -⟩ := in_cell own1 (t := j) (by show j < J.length; rw [HJL.out]; exact hlt)
                have hcb' : wr.cell? ⟨ib, j, none⟩ = some (.bool (inB J (j : Int))) := hcb
                have hjJ : (j : Int) < (J.length : Int) := by rw [HJL.out]; exact hlt'
                have HPS := hid (pickB_succ I J j)
                have HPL := hid (show (pickB I J j).length ≤ j by
                  unfold pickB
                  rw [List.length_map]
                  exact Nat.le_trans (List.length_filter_le _ _) (by simp))
                clear own1 hcb
                rcases h1 : inB I (j : Int) with _ | _
                · rw [h1] at d0
                  have HP1 := hid (show pickB I J (j + 1) = pickB I J j by rw [HPS.out, h1]; rfl)
                  clear h1
                  go_wp2_with fail
                  go_roundw
                  case rel => exact ⟨j + 1, by go_num, by omega, hid ⟨by rw [HP1.out]; exact HQ.out.1, HQ.out.2⟩⟩
                  case measure => simp [intOf]; omega
                · rw [h1] at d0
                  rcases h2 : inB J (j : Int) with _ | _
                  · rw [h2] at hcb'
                    have HP1 := hid (show pickB I J (j + 1) = pickB I J j by rw [HPS.out, h1, h2]; rfl)
                    clear h1 h2
                    go_wp2_with fail
                    go_roundw
                    case rel => exact ⟨j + 1, by go_num, by omega, hid ⟨by rw [HP1.out]; exact HQ.out.1, HQ.out.2⟩⟩
                    case measure => simp [intOf]; omega
                  · rw [h2] at hcb'
                    have HP1 := hid (show pickB I J (j + 1) = pickB I J j ++ [(j : Int)] by rw [HPS.out, h1, h2]; rfl)
                    have HJ := hid (show j ≤ 100000 by omega)
                    have HOW := hid HQ.out.1
                    have HBL := hid HQ.out.2
                    clear h1 h2 HPS HQ
                    generalize pickB I J j = pj at *
                    go_wp2_with (first
                      | (at_builtin; refine wpList_append_sl _ rfl _ _ 23 rfl _ 3 i0 (.int .i64 0) 1 8 Tryd.underlying23 hi hz0 hz1 hz2 rfl (by decide) (.slice Ao pj.length co) pj.length (pj.map (.int .i64)) rfl (HOW.out.alloc _) _ 1 1 [.int .i64 j] rfl (SlA.lit1 _) (one_int _ _) (by have := HPL.out; have := HJ.out; unfold maxLen; omega) (by have := HPL.out; have := HJ.out; omega) (by have := HBL.out.size; simp; omega) ?_; intro v5 w5 own5 gr5 loc5; have HO5 := hid own5; have HB5 := hid (below_append (HBL.out.alloc HBL.out.size (.cells #[.int .i64 j] 3)) gr5 (HOW.out.alloc _) (Nat.le_refl _) (by have := HBL.out.size; simp; omega)); clear own5 gr5 loc5)
                      | fail)
                    go_roundw
                    case rel => exact ⟨j + 1, by go_num, by omega, hid ⟨by rw [HP1.out, List.length_append, List.map_append]; exact HO5.out, HB5.out⟩⟩
                    case measure => simp [intOf]; omega
              · have hjn : j = xs.length := by omega
                subst hjn
                have hlt' : ¬ ((xs.length : Nat) : Int) < (xs.length : Int) := by omega
                have HRES := hid (show wr.ownsRow W.heap.size 3 1 (.slice Ao (knF xs known).length co) (knF xs known).length ((knF xs known).map (.int .i64)) from by
                  have := own_mono HQ.out.1 HWS.out
                  rw [HPK.out] at this
                  exact this)
                have HEQ := hid (show (pickB I J xs.length).length = (knF xs known).length by rw [HPK.out])
                have HBZ := hid (HBF.out _ HQ.out.2)
                clear hlt
                go_wp2_with fail
                first | go_ret2 | go_ret
                exact (show KnownP _ _ _ _ _ from .inr ⟨HF.out, Ao, co, by rw [← HEQ.out] <;> rfl, HRES.out, HBZ.out⟩)
          · rw [show ((k + 1 : Nat) : Int) - 1 = (k : Int) by omega] at hv
            subst hv
            have hkx : (k : Int) < (xs.length : Int) := by omega
            have hth : hasB xs (k : Int) = true := has_iff.2 ⟨by omega, hkx⟩
            have hx := nodeF_get hth
            rw [Int.toNat_natCast] at hx
            have hsub2 : IntKind.i64.wrap ((k : Int) - 1) = (k : Int) - 1 := by rw [IntKind.wrap_i64]; omega
            have HST := hid (HR.out.2.2.step HOK.out (by omega))
            obtain ⟨d0, d1, -⟩ := bool_cell HR.out.1 HR.out.2.2.len (t := k) (by omega)
            clear own1
            rcases hin : inB I (k : Int) with _ | _
            · rw [hin] at d0
              have HS2 := hid (show Mt xs known I k by have := HST.out; rw [hin] at this; exact this)
              clear hx hth hin HST
              go_wp2_with fail
              go_roundw
              case rel => exact ⟨k, I, by first | rfl | go_num, by omega, hid ⟨HR.out.1, HR.out.2.1, HS2.out⟩⟩
              case measure => simp [intOf]
            · rw [hin] at d0
              have HS2 := hid (show Mt xs known (setsB I (nodeF xs (k : Int)).l) k by have := HST.out; rw [hin] at this; exact this)
              have HXH := hid (ap_has wr G R sp _ uv xs _ k _ HSW.out hx)
              have hxb := ap_bound wr G R sp _ uv xs _ k _ HSW.out hx
              have HIL := hid HR.out.2.2.len
              obtain ⟨bn, on, cn, A', c', e, hcell, hkl⟩ := HS.out.keep hx
              injection e with e _ e3
              subst e; subst e3
              generalize nodeF xs (k : Int) = x at *
              obtain ⟨y0, y1, y2, y3⟩ := hcell wr HW.out.size fun b hb _ => HW.out.block b hb
              have HKL := hid (fun (W2 : World) (hb : Below mb w1 W2) => (show SlA W2 1 A' x.l.length c' (x.l.map (.int .i64)) from hkl.here.ext (by rw [HMB.out]; exact hb)))
              clear hx hth hin HST hcell hkl
              go_wp2_with fail
              go_loopw [65] (fun v wq => ∃ j : Nat, v = .int .i64 j ∧ j ≤ x.l.length ∧ Hid (wq.ownsRow 0 4 1 (.slice (some ⟨mb, 0, none⟩) xs.length xs.length) xs.length ((setsB I (x.l.take j)).map .bool) ∧ Below mb w1 wq)) (fun v _ => x.l.length - (intOf v).toNat)
              case atStart => exact ⟨0, rfl, Nat.zero_le _, hid ⟨HR.out.1, HR.out.2.1⟩⟩
              case round =>
                clear c0 c1 c2 c3 y0 y1 y2 y3 d0 d1 HSW
                obtain ⟨j, hv, hj, HQ⟩ := hrel
                subst hv
                have HL := hid (show (setsB I (x.l.take j)).length = xs.length by rw [setsB_len]; exact HIL.out)
                by_cases hlt : j < x.l.length
                · obtain ⟨b1, o1, u, rfl, huj, hcu⟩ := (HKL.out wr HQ.out.2).elemI hlt
                  have huh := HXH.out u (List.mem_of_getElem? huj)
                  obtain ⟨q, rfl⟩ := Int.eq_ofNat_of_zero_le (has_iff.1 huh).1
                  have hqx : (q : Int) < (xs.length : Int) := (has_iff.1 huh).2
                  have hlt' : (j : Int) < (x.l.length : Int) := by omega
                  have HTK := hid (show setsB I (x.l.take (j + 1)) = (setsB I (x.l.take j)).set q true by rw [take_one huj, setsB_snoc, Int.toNat_natCast])
                  obtain ⟨d0, d1, d2⟩ := bool_cell HQ.out.1 HL.out (t := q) (by omega)
                  have HD := hid d2
                  clear huj huh d2
                  go_wp2_with fail
                  go_roundw
                  case rel => exact ⟨j + 1, by go_num, by omega, hid ⟨by rw [HTK.out]; exact HD.out, HQ.out.2.setCell (p := ⟨mb, q, none⟩) (Nat.le_refl _) _⟩⟩
                  case measure => simp [intOf]; omega
                · have hjn : j = x.l.length := by omega
                  have HTK := hid (show x.l.take j = x.l from List.take_of_length_le (by omega))
                  have HQ2 := hid (show wr.ownsRow 0 4 1 (.slice (some ⟨mb, 0, none⟩) xs.length xs.length) xs.length ((setsB I x.l).map .bool) from by have := HQ.out.1; rwa [HTK.out] at this)
                  have HQB := hid HQ.out.2
                  subst hjn
                  have hlt' : ¬ ((x.l.length : Nat) : Int) < (x.l.length : Int) := by omega
                  clear hlt HQ
                  go_wp2_with fail
                  go_roundw
                  case rel => exact ⟨k, _, by first | rfl | go_num, by omega, hid ⟨HQ2.out, HQB.out, HS2.out⟩⟩
                  case measure => simp [intOf]
end Go.Proofs.YtadbgmfdbahcbaaDoor

