import Derived.Test.YtadbgmfdbahcbaaDoorZS2
/- the document's layer 5: a shower's pattern. -/
namespace Go.Proofs.YtadbgmfdbahcbaaDoor
open Go.RowKit Go.KK Go.Shelf Go.Maps
set_option linter.unusedVariables false
set_option linter.unusedSimpArgs false

set_option maxHeartbeats 8000000 in
set_option maxRecDepth 100000 in
theorem rpat_any (W1 : World) (ss sb mb : Nat) (xs : List ND) (IL : List Bool) (t : Nat) (hA : ArV W1 59 sb xs) (hok : Okay xs) (hx : xs.length ≤ 1000) (hI : BlR W1 mb xs.length IL) (ht : t < xs.length) (hs : ∀ x ∈ xs, x.s.size ≤ 1000000) (hp : ∀ x ∈ (nodeF xs (t : Int)).l, RtD W1 ss sb mb xs (inB IL) x) : RtD W1 ss sb mb xs (inB IL) (t : Int) := by
  intro num w hw hlen
  obtain ⟨Al, cl, ml, h0, -, hnd⟩ := hA.parts
  have HOK := hid hok; have HI := hid hI; have HND := hid hnd; have HW := hid hw
  have hth : hasB xs (t : Int) = true := has_iff.2 ⟨by omega, by omega⟩
  have HTH := hid hth
  have htx : (t : Int) < (xs.length : Int) := by omega
  obtain ⟨bn, on, An, cn, rfl, hcell⟩ := rnode_cells xs hnd ht
  obtain ⟨y0, y1, y2, y3, -⟩ := hcell w hw.low
  have HCN := hid (fun (U : World) (hb : Below W1.heap.size W1 U) => (hcell U hb).2.2.2.2)
  have HC0 := hid (fun (U : World) (hb : Below W1.heap.size W1 U) => (show U.cell? ⟨sb, 0, none⟩ = some (.slice (some ⟨bn, on, none⟩) xs.length cl) from (hb.cell (p := _) (block_lt_of_cell h0)).trans h0))
  have HLN := hid (fun (o : Int) (k : Nat) (ho : (nodeF xs (t : Int)).o = o) (hk : arN o = some k) => len_of hok hth ho hk)
  have HXH := hid (fun x (hx : x ∈ (nodeF xs (t : Int)).l) => has_part hok hth hx)
  have hxl : (nodeF xs (t : Int)).l.length ≤ 64 := nd_le hok hth
  have hor : 1 ≤ (nodeF xs (t : Int)).o ∧ (nodeF xs (t : Int)).o ≤ 12 := op_range (nd_len hok hth)
  have hss := hs _ (List.mem_of_getElem? (nodeF_get hth))
  have HPE := hid (pat_eq hok (inB IL) hth num)
  have HPN := hid (pat_num hok (inB IL) hth num)
  have HNS := hid (nameP_le (nodeF xs (t : Int)).o)
  have c0 := HC0.out w hw.low
  obtain ⟨As, cs, s0, s1, s2, -⟩ := hw.cells
  have hssw := hw.lo.2
  generalize nodeF xs (t : Int) = nx at *
  have HP := hid hp; have HLE0 := hid hlen
  clear hA hok hI hnd hcell hth hw hp hs h0 hlen
  obtain ⟨k, hk⟩ := Int.eq_ofNat_of_zero_le (show 0 ≤ nx.o by omega)
  have HK := hid hk
  rw [hk] at y0 hor
  have HBN := hid (show Below w.heap.size w (w.alloc (.cells #[.int .i64 (k : Int), .int .i64 nx.n, .string nx.s, .slice An nx.l.length cn] 32)) from (Below.refl _ _).alloc (Nat.le_refl _) _)
  go_enter Tryd.func33, Tryd.ntmps33
  go_upto_region 2 with fail
  refine forget (R := fun V => ShS W1 V ss sb mb xs num ∧ FrS ss w V ∧ V.heap[w.heap.size]? = some (.cells #[.int .i64 (k : Int), .int .i64 nx.n, .string nx.s, .slice An nx.l.length cn] 32 (0, 0))) ?_ ⟨HW.out.ext HBN.out, FrS.below HBN.out, heap_alloc_new w _⟩
  clear y0 y1 y2 y3 c0 s0 s1 s2 HBN
  rintro V ⟨hv, hfv, hbx⟩
  have HV := hid hv; have HFV := hid hfv; have HBX := hid hbx
  have HCE := hid (fun (U : World) (hu : FrS ss V U) => (show U.cell? ⟨w.heap.size, 0, none⟩ = some (.int .i64 (k : Int)) ∧ U.cell? ⟨w.heap.size, 2, none⟩ = some (.string nx.s) ∧ U.cell? ⟨w.heap.size, 3, none⟩ = some (.slice An nx.l.length cn) from by
    have hne : w.heap.size ≠ ss := by omega
    refine ⟨hu.cell hbx (by decide) hne ?_, hu.cell hbx (by decide) hne ?_, hu.cell hbx (by decide) hne ?_⟩ <;> (rw [Lib.cell_of_heap hbx]; rfl)))
  obtain ⟨n0, n2, n3⟩ := HCE.out V (FrS.refl _ _)
  obtain ⟨As, cs, s0, s1, s2, -⟩ := hv.cells
  clear hv hfv hbx
  by_cases ho2 : k = 2
  · subst ho2
    have HE := hid (show patT xs (inB IL) num (t : Int) = (34 :: (nx.s.data.toList ++ [34]), num) by rw [HPE.out, if_pos (by rw [hk]; rfl)])
    obtain ⟨S, hS⟩ : ∃ S : ByteArray, S = nx.s := ⟨_, rfl⟩
    rw [← hS] at n2 hss HE
    have hcat1 : ¬ 9223372036854775807 < 1 + S.size := by omega
    have hcat2 : ¬ 9223372036854775807 < 1 + S.size + 1 := by omega
    have hcat3 : ¬ 9223372036854775807 < ((⟨#[34]⟩ : ByteArray) ++ S).size + 1 := by rw [ByteArray.size_append]; have : (⟨#[34]⟩ : ByteArray).size = 1 := rfl; omega
    have n0' : V.cell? ⟨w.heap.size, 0, none⟩ = some (.int .i64 2) := n0
    clear n0 hS hk
    go_wp2_with fail
    go_ret
    refine ⟨?_, by rw [HE.out]; exact HV.out, HFV.out⟩
    rw [HE.out]
    refine congrArg (fun z => Ending.returned (.string z)) ?_
    apply str_ext
    rw [ByteArray.data_append, Array.toList_append, ByteArray.data_append, Array.toList_append]
    simp
  have hk2 : ((k : Int) == 2) = false := beq_eq_false_iff_ne.2 (by omega)
  have hALL := rall_any mb xs.length IL An nx.l.length cn nx.l
  have HALL := hid (fun (U : World) (hb : Below W1.heap.size W1 U) => hALL U (HI.out.ext hb) (HCN.out U hb) (fun x hx => has_iff.1 (HXH.out x hx)) (by omega))
  clear hALL
  have DZ := hid (Below.refl V.heap.size V)
  have HVL := hid (fun (U : World) (hb : Below V.heap.size V U) => (show Below W1.heap.size W1 U from HV.out.low.trans (hb.mono HV.out.low.size)))
  go_upto_region 4 with fail
  go_cut [26] (fun v U => v = .bool ((k : Int) == 3 || ((k : Int) != 1 && nx.l.all (inB IL))) ∧ Below V.heap.size V U)
  case first =>
    by_cases h3 : k = 3
    · have h3' : ((k : Int) == 3) = true := by rw [h3]; rfl
      go_quiet (fail)
      go_wp2_with fail
      go_meet
      exact ⟨by rw [h3', Bool.true_or], by first | exact below_drewN DZ.out _ | exact below_drew DZ.out | exact DZ.out⟩
    · have h3' : ((k : Int) == 3) = false := beq_eq_false_iff_ne.2 (by omega)
      by_cases h1 : k = 1
      · have h1' : ((k : Int) != 1) = false := by rw [h1]; rfl
        go_quiet (fail)
        go_wp2_with fail
        go_meet
        exact ⟨by rw [h3', h1', Bool.false_and, Bool.false_or], by first | exact below_drewN DZ.out _ | exact below_drew DZ.out | exact DZ.out⟩
      · have h1' : ((k : Int) != 1) = true := by rw [bne_iff_ne]; omega
        go_quiet ((go_at_call 51; exact Calls.quiet_of_same (HALL.out _ (HVL.out _ (by first | exact DZ.out | exact below_drewN DZ.out _ | exact below_drew DZ.out)))))
        go_wp2_with fail
        go_meet
        exact ⟨by rw [h3', h1', Bool.true_and, Bool.false_or], by first | exact below_drewN DZ.out _ | exact below_drew DZ.out | exact DZ.out⟩
  obtain ⟨rfl, hb4⟩ := hcut
  obtain ⟨w4, rfl⟩ : ∃ w4, w4 = wc := ⟨_, rfl⟩
  have H4 := hid (HV.out.ext hb4)
  have F4 := hid (FrS.below (ss := ss) hb4)
  clear hb4 DZ HVL HALL n0 n2 n3 s0 s1 s2
  obtain ⟨n0, n2, n3⟩ := HCE.out w4 F4.out
  obtain ⟨As, cs, s0, s1, s2, -⟩ := H4.out.cells
  rcases hc : ((k : Int) == 3 || ((k : Int) != 1 && nx.l.all (inB IL))) with _ | _
  · have HE := hid (show patT xs (inB IL) num (t : Int) = (nameP (k : Int) ++ (35 :: Lib.itoa (numN num (t : Int)) ++ (tailP xs (inB IL) (numA num (t : Int)) nx).1), (tailP xs (inB IL) (numA num (t : Int)) nx).2) by
      have h := HPN.out (by rw [hk]; omega) (by
        rw [hk]
        rintro (e | ⟨e1, e2⟩)
        · rw [show ((k : Int) == 3) = true from beq_iff_eq.2 e, Bool.true_or] at hc
          cases hc
        · rw [show ((k : Int) != 1) = true from bne_iff_ne.2 e1, e2, Bool.true_and, Bool.or_true] at hc
          cases hc)
      rw [hk] at h
      exact h)
    have HLE := hid (show (nameP (k : Int)).length + (1 + (Lib.itoa (numN num (t : Int))).length + (tailP xs (inB IL) (numA num (t : Int)) nx).1.length) ≤ 100000000 by
      have h := HLE0.out
      rw [HE.out] at h
      simp only [List.length_append, List.length_cons] at h
      omega)
    have hk3 : k ≠ 3 := fun e => by rw [e] at hc; simp at hc
    clear hc
    go_wp2_with fail
    refine (rname_any k (by omega) ho2 (by omega) _).mono ?_
    rintro e w5 ⟨rfl, b5⟩
    have H5 := hid (H4.out.ext b5)
    have F5 := hid (F4.out.trans (FrS.below b5))
    clear b5 n0 n2 n3 s0 s1 s2
    go_wp2_with fail
    refine (rnumber_any W1 w5 ss sb mb xs num (t : Int) H5.out HTH.out hx).mono ?_
    rintro e w6 ⟨rfl, h6, f6⟩
    have H6 := hid h6
    have F6 := hid (F5.out.trans f6)
    clear h6 f6
    obtain ⟨O, hO⟩ : ∃ O : ByteArray, O = ⟨(nameP (k : Int) ++ 35 :: Lib.itoa (numN num (t : Int))).toArray⟩ := ⟨_, rfl⟩
    have HO := hid hO
    have HOL := hid (show O.size = (nameP (k : Int)).length + (1 + (Lib.itoa (numN num (t : Int))).length) by rw [hO, mkS]; simp; omega)
    have HOS := hid (show O.size ≤ 100000000 by have h1 := HLE.out; have h2 := HOL.out; omega)
    unfold strV at *
    obtain ⟨NM, hNM⟩ : ∃ NM : ByteArray, NM = ⟨(nameP (k : Int)).toArray⟩ := ⟨_, rfl⟩
    obtain ⟨NU, hNU⟩ : ∃ NU : ByteArray, NU = ⟨(35 :: Lib.itoa (numN num (t : Int))).toArray⟩ := ⟨_, rfl⟩
    have HOO := hid (show NM ++ NU = O by rw [hNM, hNU, hO, cat_list])
    have hcat : ¬ 9223372036854775807 < NM.size + NU.size := by
      rw [hNM, hNU, mkS, mkS]
      have := HLE.out
      simp only [List.length_cons]
      omega
    rw [← hNM, ← hNU]
    clear hNM hNU hO
    obtain ⟨n0, n2, n3⟩ := HCE.out w6 F6.out
    obtain ⟨As, cs, s0, s1, s2, -⟩ := H6.out.cells
    have FW := hid (HFV.out.trans F6.out)
    have c0 := HC0.out w6 H6.out.low
    go_upto_region 8 with fail
    rw [HOO.out]
    by_cases h10 : k = 10
    · subst h10
      obtain ⟨ea, eb, hnl⟩ := two_of_len (HLN.out 10 2 (by rw [hk]; rfl) rfl)
      have HTL := hid (show tailP xs (inB IL) (numA num (t : Int)) nx = parF (patT xs (inB IL)) (numA num (t : Int)) [eb] by
        unfold tailP subO
        rw [hk, if_pos (by rfl), hnl]
        rfl)
      have hsl := HCN.out W1 (Below.refl _ _)
      rw [hnl] at hsl n3
      obtain ⟨ba, oa, z, rfl, -, -⟩ := hsl.elemI (k := 0) (by simp)
      have n3' : w6.cell? ⟨w.heap.size, 3, none⟩ = some (.slice (some ⟨ba, oa, none⟩) 2 cn) := n3
      have n0' : w6.cell? ⟨w.heap.size, 0, none⟩ = some (.int .i64 10) := n0
      have hc4 : 2 ≤ cn := hsl.nc
      have HSS := hid (fun (U : World) (hb : Below W1.heap.size W1 U) => (show SlA U 1 (some ⟨ba, oa + 1, none⟩) 1 (cn - 1) ([eb].map (.int .i64)) from (sla_sub (i := 1) (j := 2) hsl (by decide) (by simp)).ext hb))
      have HPX := hid (fun z (hz : z ∈ [eb]) => HP.out z (by rw [hnl]; simp at hz ⊢; exact .inr hz))
      have hcut := run_cut1 (b := ba) (o := oa) (n := 2) (c := cn) (by omega) (by decide)
      have DZ := hid (Below.refl w6.heap.size w6)
      obtain ⟨T, hT⟩ : ∃ T : ByteArray, T = ⟨(parF (patT xs (inB IL)) (numA num (t : Int)) [eb]).1.toArray⟩ := ⟨_, rfl⟩
      have HTT := hid hT
      have hcatT : ¬ 9223372036854775807 < O.size + T.size := by
        have h1 := HLE.out
        rw [HTL.out] at h1
        have h2 := HOS.out
        have h3 := congrArg ByteArray.size hT
        rw [mkS (parF (patT xs (inB IL)) (numA num (t : Int)) _).1] at h3
        omega
      have HPA := hid (fun (U : World) (hb : Below w6.heap.size w6 U) => rparts_pw W1 U ss sb mb xs (inB IL) (numA num (t : Int)) (some ⟨ba, oa + 1, none⟩) 1 (cn - 1) [eb] (H6.out.ext hb) HSS.out HPX.out (by have h1 := HLE.out; rw [HTL.out] at h1; omega) (by decide))
      unfold strV at HPA
      rw [← hT] at HPA
      clear hT
      clear hsl n3 n0 hnl hk
      go_wp2_with fail
      refine (HPA.out _ DZ.out).mono ?_
      rintro e w9 ⟨rfl, h9, f9⟩
      have H9 := hid h9
      have F9 := hid (FW.out.trans ((FrS.below (by first | exact DZ.out | exact below_drewN DZ.out _ | exact below_drew DZ.out)).trans f9))
      clear h9 f9
      go_wp2_with fail
      go_ret
      refine ⟨?_, by rw [HE.out, HTL.out]; exact H9.out, F9.out⟩
      rw [HE.out, HTL.out, HO.out, HTT.out, cat_list]
      simp [strV]
    by_cases h9 : k = 9
    · subst h9
      obtain ⟨ea, eb, ec, ed, hnl⟩ := four_of_len (HLN.out 9 4 (by rw [hk]; rfl) rfl)
      have HTL0 := hid (show tailP xs (inB IL) (numA num (t : Int)) nx = if inB IL ea = true then parF (patT xs (inB IL)) (numA num (t : Int)) [eb, ec, ed] else ([], numA num (t : Int)) by
        have e : subO xs (inB IL) nx = if inB IL ea = true then some [eb, ec, ed] else none := by
          unfold subO
          rw [hk, if_neg (by decide), if_pos (by decide), hnl]
          rfl
        unfold tailP
        rw [e]
        rcases inB IL ea with _ | _ <;> rfl)
      have hsl := HCN.out W1 (Below.refl _ _)
      rw [hnl] at hsl n3
      obtain ⟨ba, oa, z, rfl, hz, -⟩ := hsl.elemI (k := 0) (by simp)
      injection hz with hz
      subst hz
      have hah := has_iff.1 (HXH.out ea (by rw [hnl]; simp))
      obtain ⟨ka, rfl⟩ := Int.eq_ofNat_of_zero_le hah.1
      have hka : (ka : Int) < (xs.length : Int) := hah.2
      have hca := (HI.out.ext H6.out.low).at (t := ka) (by omega)
      have hs6 := HCN.out w6 H6.out.low
      rw [hnl] at hs6
      obtain ⟨ba', oa', z', e, hz', e0⟩ := hs6.elemI (k := 0) (by simp)
      injection hz' with hz'
      subst hz'
      injection e with e
      injection e with e e'
      subst e; subst e'
      have e0' : w6.cell? ⟨ba, oa, none⟩ = some (.int .i64 (ka : Int)) := e0
      have n3' : w6.cell? ⟨w.heap.size, 3, none⟩ = some (.slice (some ⟨ba, oa, none⟩) 4 cn) := n3
      have n0' : w6.cell? ⟨w.heap.size, 0, none⟩ = some (.int .i64 9) := n0
      have hc4 : 4 ≤ cn := hsl.nc
      have HSS := hid (fun (U : World) (hb : Below W1.heap.size W1 U) => (show SlA U 1 (some ⟨ba, oa + 1, none⟩) 3 (cn - 1) ([eb, ec, ed].map (.int .i64)) from (sla_sub (i := 1) (j := 4) hsl (by decide) (by simp)).ext hb))
      have HPX := hid (fun z (hz : z ∈ [eb, ec, ed]) => HP.out z (by rw [hnl]; exact List.mem_cons_of_mem _ hz))
      have hcut := run_cut1 (b := ba) (o := oa) (n := 4) (c := cn) (by omega) (by decide)
      have DZ := hid (Below.refl w6.heap.size w6)
      clear hsl n3 n0 hnl hk e0 hs6 hah
      rcases hin : inB IL (ka : Int) with _ | _
      · rw [hin] at hca
        have HTF := hid (show tailP xs (inB IL) (numA num (t : Int)) nx = ([], numA num (t : Int)) by rw [HTL0.out, hin]; rfl)
        clear hin HTL0
        go_upto_region 11 with fail
        go_quiet (fail)
        go_wp2_with fail
        go_ret
        refine ⟨?_, by rw [HE.out, HTF.out]; exact H6.out.ext (by first | exact below_drewN DZ.out _ | exact below_drew DZ.out | exact DZ.out), FW.out.trans (FrS.below (by first | exact below_drewN DZ.out _ | exact below_drew DZ.out | exact DZ.out))⟩
        rw [HE.out, HTF.out, HO.out]
        simp [strV]
      · rw [hin] at hca
        have HTL := hid (show tailP xs (inB IL) (numA num (t : Int)) nx = parF (patT xs (inB IL)) (numA num (t : Int)) [eb, ec, ed] by rw [HTL0.out, hin]; rfl)
        clear hin HTL0
        obtain ⟨T, hT⟩ : ∃ T : ByteArray, T = ⟨(parF (patT xs (inB IL)) (numA num (t : Int)) [eb, ec, ed]).1.toArray⟩ := ⟨_, rfl⟩
        have HTT := hid hT
        have hcatT : ¬ 9223372036854775807 < O.size + T.size := by
          have h1 := HLE.out
          rw [HTL.out] at h1
          have h2 := HOS.out
          have h3 := congrArg ByteArray.size hT
          rw [mkS (parF (patT xs (inB IL)) (numA num (t : Int)) _).1] at h3
          omega
        have HPA := hid (fun (U : World) (hb : Below w6.heap.size w6 U) => rparts_pw W1 U ss sb mb xs (inB IL) (numA num (t : Int)) (some ⟨ba, oa + 1, none⟩) 3 (cn - 1) [eb, ec, ed] (H6.out.ext hb) HSS.out HPX.out (by have h1 := HLE.out; rw [HTL.out] at h1; omega) (by decide))
        unfold strV at HPA
        rw [← hT] at HPA
        clear hT
        go_upto_region 11 with fail
        go_quiet (fail)
        go_wp2_with fail
        refine (HPA.out _ (by first | exact below_drewN DZ.out _ | exact below_drew DZ.out | exact DZ.out)).mono ?_
        rintro e w9 ⟨rfl, h9, f9⟩
        have H9 := hid h9
        have F9 := hid (FW.out.trans ((FrS.below (by first | exact DZ.out | exact below_drewN DZ.out _ | exact below_drew DZ.out)).trans f9))
        clear h9 f9
        go_wp2_with fail
        go_ret
        refine ⟨?_, by rw [HE.out, HTL.out]; exact H9.out, F9.out⟩
        rw [HE.out, HTL.out, HO.out, HTT.out, cat_list]
        simp [strV]
    by_cases h8 : k = 8
    · subst h8
      obtain ⟨ea, eb, ec, ed, hnl⟩ := four_of_len (HLN.out 8 4 (by rw [hk]; rfl) rfl)
      have hsl := HCN.out W1 (Below.refl _ _)
      rw [hnl] at hsl n3
      obtain ⟨ba, oa, z, rfl, hz, -⟩ := hsl.elemI (k := 0) (by simp)
      injection hz with hz
      subst hz
      have hah := HXH.out ea (by rw [hnl]; simp)
      have ha2 := has_iff.1 hah
      obtain ⟨ka, rfl⟩ := Int.eq_ofNat_of_zero_le ha2.1
      have hka : ka < xs.length := by omega
      have hkai : (ka : Int) < (xs.length : Int) := ha2.2
      have HTL0 := hid (show tailP xs (inB IL) (numA num (t : Int)) nx = if (nodeF xs (ka : Int)).o = 7 ∧ inB IL ((nodeF xs (ka : Int)).l.getD 0 0) = true then parF (patT xs (inB IL)) (numA num (t : Int)) [eb, ec] else ([], numA num (t : Int)) by
        have e : subO xs (inB IL) nx = if (nodeF xs (ka : Int)).o = 7 ∧ inB IL ((nodeF xs (ka : Int)).l.getD 0 0) = true then some [eb, ec] else none := by
          unfold subO
          rw [hk, if_neg (by decide), if_neg (by decide), if_pos (by decide), hnl]
          rfl
        unfold tailP
        by_cases hc : (nodeF xs (ka : Int)).o = 7 ∧ inB IL ((nodeF xs (ka : Int)).l.getD 0 0) = true
        · rw [e, if_pos hc, if_pos hc]
        · rw [e, if_neg hc, if_neg hc])
      have hs6 := HCN.out w6 H6.out.low
      rw [hnl] at hs6
      obtain ⟨ba', oa', z', e, hz', e0⟩ := hs6.elemI (k := 0) (by simp)
      injection hz' with hz'
      subst hz'
      injection e with e
      injection e with e e'
      subst e; subst e'
      have e0' : w6.cell? ⟨ba, oa, none⟩ = some (.int .i64 (ka : Int)) := e0
      have n3' : w6.cell? ⟨w.heap.size, 3, none⟩ = some (.slice (some ⟨ba, oa, none⟩) 4 cn) := n3
      have n0' : w6.cell? ⟨w.heap.size, 0, none⟩ = some (.int .i64 8) := n0
      have hc4 : 4 ≤ cn := hsl.nc
      have HSS := hid (fun (U : World) (hb : Below W1.heap.size W1 U) => (show SlA U 1 (some ⟨ba, oa + 1, none⟩) 2 (cn - 1) ([eb, ec].map (.int .i64)) from (sla_sub (i := 1) (j := 3) hsl (by decide) (by simp)).ext hb))
      have HPX := hid (fun z (hz : z ∈ [eb, ec]) => HP.out z (by rw [hnl]; simp at hz ⊢; rcases hz with rfl | rfl <;> simp))
      obtain ⟨bz, oz, Ay, cy, e, hcy⟩ := rnode_cells xs HND.out hka
      injection e with e
      injection e with e e'
      subst e; subst e'
      have HYL := hid (fun (ho : (nodeF xs (ka : Int)).o = 7) => len_of HOK.out hah ho (show arN 7 = some 1 from rfl))
      have HYH := hid (fun x (hx : x ∈ (nodeF xs (ka : Int)).l) => has_part HOK.out hah hx)
      have HCY := hid hcy
      generalize nodeF xs (ka : Int) = y at *
      obtain ⟨y0, y1, y2, y3, -⟩ := hcy w6 H6.out.low
      have HPK := hid (fun (U : World) (hb : Below w6.heap.size w6 U) =>
        have up : ∀ {p : Addr} {u : Value}, w6.cell? p = some u → U.cell? p = some u := fun h => (hb.cell (p := _) (block_lt_of_cell h)).trans h
        (show U.cell? ⟨ss, 0, none⟩ = some (.pointer (some ⟨sb, 0, none⟩)) ∧ U.cell? ⟨sb, 0, none⟩ = some (.slice (some ⟨bn, on, none⟩) xs.length cl) ∧ U.cell? ⟨w.heap.size, 3, none⟩ = some (.slice (some ⟨ba, oa, none⟩) 4 cn) ∧ U.cell? ⟨ba, oa, none⟩ = some (.int .i64 ka) ∧ U.cell? ⟨bn, on + ka * 4, none⟩ = some (.int .i64 y.o) ∧ U.cell? ⟨bn, on + ka * 4 + 1, none⟩ = some (.int .i64 y.n) ∧ U.cell? ⟨bn, on + ka * 4 + 2, none⟩ = some (.string y.s) ∧ U.cell? ⟨bn, on + ka * 4 + 3, none⟩ = some (.slice Ay y.l.length cy) from
          ⟨up s0, up c0, up n3', up e0', up y0, up y1, up y2, up y3⟩))
      have DZ := hid (Below.refl w6.heap.size w6)
      have DA := hid (DZ.out.alloc (Nat.le_refl _) (.cells #[.int .i64 0, .int .i64 0, .string ⟨#[]⟩, .slice none 0 0] 32))
      clear hsl n3 n0 hnl hk e0 hs6 hah ha2 hcy h10 h9
      go_upto_region 14 with fail
      go_cut [7] (fun v U => v = .pointer (some ⟨w6.heap.size, 0, none⟩) ∧ Below w6.heap.size w6 U ∧ U.ownsRow w6.heap.size 32 4 (.slice (some ⟨w6.heap.size, 0, none⟩) 1 1) 1 [.int .i64 y.o, .int .i64 y.n, .string y.s, .slice Ay y.l.length cy])
      case first =>
        go_region_held3 (fun U => U.cell? ⟨ss, 0, none⟩ = some (.pointer (some ⟨sb, 0, none⟩)) ∧ U.cell? ⟨sb, 0, none⟩ = some (.slice (some ⟨bn, on, none⟩) xs.length cl) ∧ U.cell? ⟨w.heap.size, 3, none⟩ = some (.slice (some ⟨ba, oa, none⟩) 4 cn) ∧ U.cell? ⟨ba, oa, none⟩ = some (.int .i64 ka) ∧ U.cell? ⟨bn, on + ka * 4, none⟩ = some (.int .i64 y.o) ∧ U.cell? ⟨bn, on + ka * 4 + 1, none⟩ = some (.int .i64 y.n) ∧ U.cell? ⟨bn, on + ka * 4 + 2, none⟩ = some (.string y.s) ∧ U.cell? ⟨bn, on + ka * 4 + 3, none⟩ = some (.slice Ay y.l.length cy)) (first | exact HPK.out _ DZ.out | exact HPK.out _ (below_drew DZ.out) | exact HPK.out _ DA.out | exact HPK.out _ (below_drew DA.out) | exact HPK.out _ (below_drew (DZ.out.alloc (Nat.le_refl _) _)) | go_keep) (first | fail)
        all_goals
          go_wp2_with fail
          go_meet
          first
            | exact ⟨rfl, below_drew ((Below.refl _ _).alloc (Nat.le_refl _) _), own_block boxN fun _ _ => rfl⟩
            | exact ⟨rfl, below_drewN ((Below.refl _ _).alloc (Nat.le_refl _) _) _, own_block boxN fun _ _ => rfl⟩
            | exact ⟨rfl, (Below.refl _ _).alloc (Nat.le_refl _) _, boxN⟩
      obtain ⟨rfl, hb3, hp4⟩ := hcut
      obtain ⟨w7, rfl⟩ : ∃ w7, w7 = wc := ⟨_, rfl⟩
      have H7 := hid (H6.out.ext hb3)
      have FW7 := hid (FW.out.trans (FrS.below hb3))
      have n3u := (hb3.cell (p := ⟨w.heap.size, 3, none⟩) (block_lt_of_cell n3')).trans n3'
      obtain ⟨⟨p0, p1, p2, p3⟩, -⟩ := box4 hp4
      obtain ⟨As7, cs7, s0u, s1u, s2u, -⟩ := H7.out.cells
      have hcut := run_cut13 (b := ba) (o := oa) (n := 4) (c := cn) (by omega)
      clear hb3 hp4 n3' n0' e0' y0 y1 y2 y3 c0 s0 s1 s2 HPK DZ DA
      have DZ := hid (Below.refl w7.heap.size w7)
      by_cases hy7 : y.o = 7
      · obtain ⟨k0, hyl⟩ := one_of_len (HYL.out hy7)
        have hsy := (HCY.out w7 H7.out.low).2.2.2.2
        rw [hyl] at hsy p3
        rw [hy7] at p0
        have p3' : w7.cell? ⟨w6.heap.size, 3, none⟩ = some (.slice Ay 1 cy) := p3
        obtain ⟨bd, od, z0, rfl, hz0, f0⟩ := hsy.elemI (k := 0) (by simp)
        injection hz0 with hz0
        subst hz0
        have hyq := has_iff.1 (HYH.out k0 (by rw [hyl]; simp))
        obtain ⟨ks, rfl⟩ := Int.eq_ofNat_of_zero_le hyq.1
        have hks : (ks : Int) < (xs.length : Int) := hyq.2
        have hcs := (HI.out.ext H7.out.low).at (t := ks) (by omega)
        have f0' : w7.cell? ⟨bd, od, none⟩ = some (.int .i64 (ks : Int)) := f0
        have HTL2 := hid (show tailP xs (inB IL) (numA num (t : Int)) nx = if inB IL (ks : Int) = true then parF (patT xs (inB IL)) (numA num (t : Int)) [eb, ec] else ([], numA num (t : Int)) by
          rw [HTL0.out, hyl, hy7]
          show (if (7 : Int) = 7 ∧ inB IL (ks : Int) = true then _ else _) = _
          simp)
        clear hyq hyl hy7 hsy p3 f0 HTL0
        rcases hin : inB IL (ks : Int) with _ | _
        · rw [hin] at hcs
          have HTF := hid (show tailP xs (inB IL) (numA num (t : Int)) nx = ([], numA num (t : Int)) by rw [HTL2.out, hin]; rfl)
          clear hin HTL2
          go_upto_region 15 with fail
          go_quiet (fail)
          go_wp2_with fail
          go_ret
          refine ⟨?_, by rw [HE.out, HTF.out]; exact H7.out.ext (by first | exact below_drewN DZ.out _ | exact below_drew DZ.out | exact DZ.out), FW7.out.trans (FrS.below (by first | exact below_drewN DZ.out _ | exact below_drew DZ.out | exact DZ.out))⟩
          rw [HE.out, HTF.out, HO.out]
          simp [strV]
        · rw [hin] at hcs
          have HTL := hid (show tailP xs (inB IL) (numA num (t : Int)) nx = parF (patT xs (inB IL)) (numA num (t : Int)) [eb, ec] by rw [HTL2.out, hin]; rfl)
          clear hin HTL2
          obtain ⟨T, hT⟩ : ∃ T : ByteArray, T = ⟨(parF (patT xs (inB IL)) (numA num (t : Int)) [eb, ec]).1.toArray⟩ := ⟨_, rfl⟩
          have HTT := hid hT
          have hcatT : ¬ 9223372036854775807 < O.size + T.size := by
            have h1 := HLE.out
            rw [HTL.out] at h1
            have h2 := HOS.out
            have h3 := congrArg ByteArray.size hT
            rw [mkS (parF (patT xs (inB IL)) (numA num (t : Int)) _).1] at h3
            omega
          have HPA := hid (fun (U : World) (hb : Below w7.heap.size w7 U) => rparts_pw W1 U ss sb mb xs (inB IL) (numA num (t : Int)) (some ⟨ba, oa + 1, none⟩) 2 (cn - 1) [eb, ec] (H7.out.ext hb) HSS.out HPX.out (by have h1 := HLE.out; rw [HTL.out] at h1; omega) (by decide))
          unfold strV at HPA
          rw [← hT] at HPA
          clear hT
          go_upto_region 15 with fail
          go_quiet (fail)
          go_wp2_with fail
          refine (HPA.out _ (by first | exact below_drewN DZ.out _ | exact below_drew DZ.out | exact DZ.out)).mono ?_
          rintro e w9 ⟨rfl, h9, f9⟩
          have H9 := hid h9
          have F9 := hid (FW7.out.trans ((FrS.below (by first | exact DZ.out | exact below_drewN DZ.out _ | exact below_drew DZ.out)).trans f9))
          clear h9 f9
          go_wp2_with fail
          go_ret
          refine ⟨?_, by rw [HE.out, HTL.out]; exact H9.out, F9.out⟩
          rw [HE.out, HTL.out, HO.out, HTT.out, cat_list]
          simp [strV]
      · have hy7' : (y.o == 7) = false := beq_eq_false_iff_ne.2 hy7
        have HTF := hid (show tailP xs (inB IL) (numA num (t : Int)) nx = ([], numA num (t : Int)) by rw [HTL0.out, if_neg fun e => hy7 e.1])
        clear hy7 HTL0
        go_upto_region 15 with fail
        go_quiet (fail)
        go_wp2_with fail
        go_ret
        refine ⟨?_, by rw [HE.out, HTF.out]; exact H7.out.ext (by first | exact below_drewN DZ.out _ | exact below_drew DZ.out | exact DZ.out), FW7.out.trans (FrS.below (by first | exact below_drewN DZ.out _ | exact below_drew DZ.out | exact DZ.out))⟩
        rw [HE.out, HTF.out, HO.out]
        simp [strV]
    have e10 : ((k : Int) == 10) = false := beq_eq_false_iff_ne.2 (by omega)
    have e9 : ((k : Int) == 9) = false := beq_eq_false_iff_ne.2 (by omega)
    have e8 : ((k : Int) == 8) = false := beq_eq_false_iff_ne.2 (by omega)
    have HTF := hid (show tailP xs (inB IL) (numA num (t : Int)) nx = ([], numA num (t : Int)) by
      unfold tailP subO
      rw [hk, if_neg (show ¬ ((k : Int) = 10) by omega), if_neg (show ¬ ((k : Int) = 9) by omega), if_neg (show ¬ ((k : Int) = 8) by omega)])
    clear h10 h9 h8 hk
    go_wp2_with fail
    go_ret
    refine ⟨?_, by rw [HE.out, HTF.out]; exact H6.out, FW.out⟩
    rw [HE.out, HTF.out, HO.out]
    simp [strV]
  · have HE := hid (show patT xs (inB IL) num (t : Int) = (nameP (k : Int) ++ (parF (patT xs (inB IL)) num nx.l).1, (parF (patT xs (inB IL)) num nx.l).2) by
      have h := HPE.out
      rw [if_neg (by rw [hk]; omega), if_pos (by
        rw [hk]
        rw [Bool.or_eq_true, Bool.and_eq_true, beq_iff_eq, bne_iff_ne] at hc
        exact hc), hk] at h
      exact h)
    have HLE := hid (show (nameP (k : Int)).length + (parF (patT xs (inB IL)) num nx.l).1.length ≤ 100000000 by
      have h := HLE0.out
      rw [HE.out] at h
      simp only [List.length_append] at h
      omega)
    clear hc hk
    obtain ⟨T, hT⟩ : ∃ T : ByteArray, T = ⟨(parF (patT xs (inB IL)) num nx.l).1.toArray⟩ := ⟨_, rfl⟩
    obtain ⟨NM, hNM⟩ : ∃ NM : ByteArray, NM = ⟨(nameP (k : Int)).toArray⟩ := ⟨_, rfl⟩
    have HTT := hid hT; have HNM := hid hNM
    have hcatT : ¬ 9223372036854775807 < NM.size + T.size := by
      have h1 := HLE.out
      rw [hT, hNM, mkS, mkS]
      omega
    have HPA := hid (fun (U : World) (hb : Below w4.heap.size w4 U) => rparts_pw W1 U ss sb mb xs (inB IL) num An nx.l.length cn nx.l (H4.out.ext hb) HCN.out HP.out (by have h1 := HLE.out; omega) (by omega))
    unfold strV at HPA
    rw [← hT] at HPA
    have HNA := hid (fun (U : World) => rname_any k (by omega) ho2 (by omega) U)
    unfold strV at HNA
    rw [← hNM] at HNA
    have DZ := hid (Below.refl w4.heap.size w4)
    have HC4 := hid (fun (U : World) (hu : FrS ss w4 U) => (show U.cell? ⟨w.heap.size, 0, none⟩ = some (.int .i64 (k : Int)) ∧ U.cell? ⟨w.heap.size, 3, none⟩ = some (.slice An nx.l.length cn) from ⟨(HCE.out U (F4.out.trans hu)).1, (HCE.out U (F4.out.trans hu)).2.2⟩))
    clear hT hNM s0 s1 s2 n2
    go_upto_region 5 with fail
    go_region_held3 (fun U => U.cell? ⟨w.heap.size, 0, none⟩ = some (.int .i64 (k : Int)) ∧ U.cell? ⟨w.heap.size, 3, none⟩ = some (.slice An nx.l.length cn)) (first | exact HC4.out _ F6.out | exact HC4.out _ (FrS.below D5.out) | exact ⟨n0, n3⟩ | go_keep) (first
      | (go_at_call 52; refine (HNA.out _).mono ?_; rintro e5 w5 ⟨rfl, b5⟩; have D5 := hid (show Below w4.heap.size w4 w5 from (by first | exact DZ.out.trans b5 | exact (below_drew DZ.out).trans b5 | exact (below_drewN DZ.out _).trans b5)); clear b5)
      | (go_at_call 53; refine (HPA.out _ (by first | exact D5.out | exact below_drew D5.out | exact below_drewN D5.out _)).mono ?_; rintro e6 w6 ⟨rfl, h6, f6⟩; have H6 := hid h6; have F6 := hid (show FrS ss w4 w6 from (FrS.below (by first | exact D5.out | exact below_drew D5.out | exact below_drewN D5.out _)).trans f6); clear h6 f6))
    all_goals
      go_wp2_with fail
      go_ret
      refine ⟨?_, by rw [HE.out]; first | exact H6.out | exact H6.out.ext (below_drew (Below.refl _ _)) | exact H6.out.ext (below_drewN (Below.refl _ _) _), by first | exact HFV.out.trans (F4.out.trans F6.out) | exact HFV.out.trans (F4.out.trans (F6.out.trans (FrS.below (below_drew (Below.refl _ _))))) | exact HFV.out.trans (F4.out.trans (F6.out.trans (FrS.below (below_drewN (Below.refl _ _) _))))⟩
      rw [HE.out, HNM.out, HTT.out, cat_list]
      rfl
end Go.Proofs.YtadbgmfdbahcbaaDoor

