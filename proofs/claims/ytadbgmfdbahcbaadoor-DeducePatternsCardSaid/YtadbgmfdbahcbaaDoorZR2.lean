import Derived.Test.YtadbgmfdbahcbaaDoorZR1
import Derived.Test.YtadbgmfdbahcbaaDoorZh
/- the document's layer 5: next. -/
namespace Go.Proofs.YtadbgmfdbahcbaaDoor
open Go.RowKit Go.KK Go.Shelf Go.Maps
set_option linter.unusedVariables false
set_option linter.unusedSimpArgs false

section
variable (sb : Nat) (xs : List ND)
set_option maxHeartbeats 8000000 in
set_option maxRecDepth 100000 in
theorem rnext_any (w : World) (hA : ArV w 59 sb xs) (hok : Okay xs) (mb : Nat) (I : List Bool) (hI : BlR w mb xs.length I) (t : Nat) (ht : t < xs.length) (L : List Int) (hL : L = nextF xs (inB I) (t : Int)) :
    Calls Tryd.prog 50 #[.pointer (some ⟨sb, 0, none⟩), .slice (some ⟨mb, 0, none⟩) xs.length xs.length, .int .i64 t] w (NxP w L) := by
  obtain ⟨Al, cl, ml, h0, -, hnd⟩ := hA.parts
  have HA := hid hA; have HOK := hid hok; have HI := hid hI; have HND := hid hnd
  have hxn : xs.length ≤ 100000 := hok.len
  have hth : hasB xs (t : Int) = true := has_iff.2 ⟨by omega, by omega⟩
  have htx : (t : Int) < (xs.length : Int) := by omega
  obtain ⟨bn, on, An, cn, rfl, hcell⟩ := rnode_cells xs hnd ht
  obtain ⟨y0, y1, y2, y3, ys⟩ := hcell w (Below.refl _ _)
  have HCN := hid (fun (U : World) (hb : Below w.heap.size w U) => (hcell U hb).2.2.2.2)
  have HC0 := hid (fun (U : World) (hb : Below w.heap.size w U) => (show U.cell? ⟨sb, 0, none⟩ = some (.slice (some ⟨bn, on, none⟩) xs.length cl) from (hb.cell (p := _) (block_lt_of_cell h0)).trans h0))
  have HLN := hid (fun (o : Int) (k : Nat) (ho : (nodeF xs (t : Int)).o = o) (hk : arN o = some k) => len_of hok hth ho hk)
  have HXH := hid (fun x (hx : x ∈ (nodeF xs (t : Int)).l) => has_part hok hth hx)
  have hxl : (nodeF xs (t : Int)).l.length ≤ 64 := nd_le hok hth
  have HUB := hid (fun (U : World) (hb : Below w.heap.size w U) (M : List Int) (hM : M = if (nodeF xs (t : Int)).o = 10 ∧ unB xs (inB I) (nodeF xs (t : Int)) = true then [(t : Int)] else []) => runbl_any sb xs U (hA.ext hb) hok mb I (hI.ext hb) t ht M hM)
  have HLL := hid hL
  unfold nextF at HLL
  generalize nodeF xs (t : Int) = nx at *
  clear hA hok hI hnd hcell hth ys hL
  have HB0 := hid (show Below w.heap.size w (w.alloc (.cells #[.int .i64 nx.o, .int .i64 nx.n, .string nx.s, .slice An nx.l.length cn] 32)) from (Below.refl _ _).alloc (Nat.le_refl _) _)
  go_enter Tryd.func50, Tryd.ntmps50
  go_upto_region 2 with fail
  refine forget (R := fun V => Below w.heap.size w V ∧ V.ownsRow w.heap.size 32 4 (.slice (some ⟨w.heap.size, 0, none⟩) 1 1) 1 [.int .i64 nx.o, .int .i64 nx.n, .string nx.s, .slice An nx.l.length cn]) ?_ ⟨HB0.out, boxN⟩
  clear h0 y0 y1 y2 y3 HB0
  rintro V ⟨hv, hx4⟩
  have HV := hid hv
  obtain ⟨⟨n0, n1, n2, n3⟩, -⟩ := box4 hx4
  have hnV := (hx4.lt w.heap.size rfl).2
  have hcb := (HI.out.ext hv).at (t := t) ht
  have HALL := hid (rall_any mb xs.length I An nx.l.length cn nx.l V (HI.out.ext hv) (HCN.out V hv) (fun x hx => has_iff.1 (HXH.out x hx)) (by omega))
  have HSV := hid (HCN.out V hv)
  clear hv hx4
  go_cut [24] (fun v U => v = .bool (nx.o != 1 && nx.l.all (inB I)) ∧ U = V)
  case first =>
    by_cases ho : nx.o = 1
    · have ho' : (nx.o != 1) = false := by rw [ho]; rfl
      clear ho
      go_wp2_with fail
      go_meet
      exact ⟨by rw [ho', Bool.false_and], rfl⟩
    · have ho' : (nx.o != 1) = true := bne_iff_ne.2 ho
      clear ho
      go_wp2_with fail
      refine HALL.out.mono ?_
      rintro e w2 ⟨rfl, hw2⟩
      subst hw2
      go_wp2_with fail
      go_meet
      exact ⟨by rw [ho', Bool.true_and], rfl⟩
  obtain ⟨rfl, rfl⟩ := hcut
  obtain ⟨V, rfl⟩ : ∃ V, V = wc := ⟨_, rfl⟩
  rcases hc1 : (nx.o != 1 && nx.l.all (inB I)) with _ | _
  · have hl1 := HLL.out
    rw [if_neg (show ¬ (nx.o ≠ 1 ∧ nx.l.all (inB I) = true) from fun e => by
      have : (nx.o != 1 && nx.l.all (inB I)) = true := by rw [Bool.and_eq_true, bne_iff_ne]; exact e
      rw [hc1] at this; cases this)] at hl1
    have HL1 := hid hl1
    clear hl1
    clear hc1 HLL HALL
    rcases hin : inB I (t : Int) with _ | _
    · rw [hin] at hcb
      have HL2 := hid (show L = (if nx.o = 10 ∧ unB xs (inB I) nx = true then [(t : Int)] else []) by rw [HL1.out, if_pos hin])
      clear hin HL1
      go_wp2_with fail
      refine (HUB.out _ HV.out L HL2.out).mono ?_
      rintro e w3 ⟨A3, c3, rfl, s3, b3⟩
      have S3 := hid s3; have B3 := hid (HV.out.trans (b3.mono HV.out.size))
      clear s3 b3
      go_wp2_with fail
      go_ret
      exact (show NxP _ _ _ _ from ⟨A3, c3, rfl, S3.out, B3.out⟩)
    · rw [hin] at hcb
      have hl2 := HL1.out
      rw [if_neg (show ¬ inB I (t : Int) = false by rw [hin]; decide)] at hl2
      have HL2 := hid hl2
      clear hl2
      clear hin HL1 HUB
      by_cases h3 : nx.o = 3
      · have HF := hid (show L = nx.l by rw [HL2.out, if_pos h3])
        rw [h3] at n0
        clear h3 HL2
        go_wp2_with fail
        go_ret
        rw [HF.out]
        exact (show NxP _ _ _ _ from ⟨An, cn, rfl, HSV.out, HV.out⟩)
      by_cases h8 : nx.o = 8
      · obtain ⟨ea, eb, ec, ed, hnl⟩ := four_of_len (HLN.out 8 4 h8 rfl)
        have HF := hid (show L = if (nodeF xs ea).o = 7 ∧ inB I ((nodeF xs ea).l.getD 0 0) = true then [eb, ec] else [] by rw [HL2.out, if_neg h3, if_pos h8, hnl]; rfl)
        have hs := HSV.out
        rw [hnl] at hs n3
        obtain ⟨ba, oa, z, rfl, hz, e0⟩ := hs.elemI (k := 0) (by simp)
        injection hz with hz
        subst hz
        have hah := HXH.out ea (by rw [hnl]; simp)
        have ha2 := has_iff.1 hah
        obtain ⟨ka, rfl⟩ := Int.eq_ofNat_of_zero_le ha2.1
        have hka : ka < xs.length := by omega
        have hkai : (ka : Int) < (xs.length : Int) := ha2.2
        have e0' : V.cell? ⟨ba, oa, none⟩ = some (.int .i64 (ka : Int)) := e0
        have n3' : V.cell? ⟨w.heap.size, 3, none⟩ = some (.slice (some ⟨ba, oa, none⟩) 4 cn) := n3
        have hc4 : 4 ≤ cn := hs.nc
        have HSS := hid (fun (U : World) (hb : Below V.heap.size V U) => (show SlA U 1 (some ⟨ba, oa + 1, none⟩) 2 (cn - 1) ([eb, ec].map (.int .i64)) from (sla_sub (i := 1) (j := 3) hs (by decide) (by simp)).ext hb))
        obtain ⟨bz, oz, Ay, cy, e, hcy⟩ := rnode_cells xs HND.out hka
        injection e with e
        injection e with e e'
        subst e; subst e'
        have HYL := hid (fun (ho : (nodeF xs (ka : Int)).o = 7) => len_of HOK.out hah ho (show arN 7 = some 1 from rfl))
        have HYH := hid (fun x (hx : x ∈ (nodeF xs (ka : Int)).l) => has_part HOK.out hah hx)
        have HCY := hid hcy
        generalize nodeF xs (ka : Int) = y at *
        obtain ⟨y0, y1, y2, y3, -⟩ := hcy V HV.out
        have c0 := HC0.out V HV.out
        have HPK := hid (fun (U : World) (hb : Below V.heap.size V U) =>
          have up : ∀ {p : Addr} {u : Value}, V.cell? p = some u → U.cell? p = some u := fun h => (hb.cell (p := _) (block_lt_of_cell h)).trans h
          (show U.cell? ⟨sb, 0, none⟩ = some (.slice (some ⟨bn, on, none⟩) xs.length cl) ∧ U.cell? ⟨w.heap.size, 3, none⟩ = some (.slice (some ⟨ba, oa, none⟩) 4 cn) ∧ U.cell? ⟨ba, oa, none⟩ = some (.int .i64 ka) ∧ U.cell? ⟨bn, on + ka * 4, none⟩ = some (.int .i64 y.o) ∧ U.cell? ⟨bn, on + ka * 4 + 1, none⟩ = some (.int .i64 y.n) ∧ U.cell? ⟨bn, on + ka * 4 + 2, none⟩ = some (.string y.s) ∧ U.cell? ⟨bn, on + ka * 4 + 3, none⟩ = some (.slice Ay y.l.length cy) from
            ⟨up c0, up n3', up e0', up y0, up y1, up y2, up y3⟩))
        have DZ := hid (Below.refl V.heap.size V)
        have DA := hid (DZ.out.alloc (Nat.le_refl _) (.cells #[.int .i64 0, .int .i64 0, .string ⟨#[]⟩, .slice none 0 0] 32))
        rw [h8] at n0
        clear h3 h8 HL2 hs n3 e0 hah ha2 hnl HSV hcy
        go_upto_region 10 with fail
        go_cut [8] (fun v U => v = .pointer (some ⟨V.heap.size, 0, none⟩) ∧ Below V.heap.size V U ∧ U.ownsRow V.heap.size 32 4 (.slice (some ⟨V.heap.size, 0, none⟩) 1 1) 1 [.int .i64 y.o, .int .i64 y.n, .string y.s, .slice Ay y.l.length cy])
        case first =>
          go_region_held3 (fun U => U.cell? ⟨sb, 0, none⟩ = some (.slice (some ⟨bn, on, none⟩) xs.length cl) ∧ U.cell? ⟨w.heap.size, 3, none⟩ = some (.slice (some ⟨ba, oa, none⟩) 4 cn) ∧ U.cell? ⟨ba, oa, none⟩ = some (.int .i64 ka) ∧ U.cell? ⟨bn, on + ka * 4, none⟩ = some (.int .i64 y.o) ∧ U.cell? ⟨bn, on + ka * 4 + 1, none⟩ = some (.int .i64 y.n) ∧ U.cell? ⟨bn, on + ka * 4 + 2, none⟩ = some (.string y.s) ∧ U.cell? ⟨bn, on + ka * 4 + 3, none⟩ = some (.slice Ay y.l.length cy)) (first | exact HPK.out _ DZ.out | exact HPK.out _ (below_drew DZ.out) | exact HPK.out _ DA.out | exact HPK.out _ (below_drew DA.out) | exact HPK.out _ (below_drew (DZ.out.alloc (Nat.le_refl _) _)) | go_keep) (first | fail)
          all_goals
            go_wp2_with fail
            go_meet
            first
              | exact ⟨rfl, below_drew ((Below.refl _ _).alloc (Nat.le_refl _) _), own_block boxN fun _ _ => rfl⟩
              | exact ⟨rfl, below_drewN ((Below.refl _ _).alloc (Nat.le_refl _) _) _, own_block boxN fun _ _ => rfl⟩
              | exact ⟨rfl, (Below.refl _ _).alloc (Nat.le_refl _) _, boxN⟩
        obtain ⟨rfl, hb3, hp4⟩ := hcut
        obtain ⟨w3, rfl⟩ : ∃ w3, w3 = wc := ⟨_, rfl⟩
        have HB3 := hid (HV.out.trans (hb3.mono HV.out.size))
        have HS3 := hid (HSS.out w3 hb3)
        have n3u := (hb3.cell (p := ⟨w.heap.size, 3, none⟩) hnV).trans n3'
        obtain ⟨⟨p0, p1, p2, p3⟩, -⟩ := box4 hp4
        have hcut := run_cut13 (b := ba) (o := oa) (n := 4) (c := cn) (by omega)
        clear hb3 hp4 n3' e0' y0 y1 y2 y3 c0 HPK DZ DA HSS n0 n1 n2
        by_cases hy7 : y.o = 7
        · obtain ⟨k0, hyl⟩ := one_of_len (HYL.out hy7)
          have hsy := (HCY.out w3 HB3.out).2.2.2.2
          rw [hyl] at hsy p3
          rw [hy7] at p0
          have p3' : w3.cell? ⟨V.heap.size, 3, none⟩ = some (.slice Ay 1 cy) := p3
          obtain ⟨bd, od, z0, rfl, hz0, f0⟩ := hsy.elemI (k := 0) (by simp)
          injection hz0 with hz0
          subst hz0
          have hyq := has_iff.1 (HYH.out k0 (by rw [hyl]; simp))
          obtain ⟨ks, rfl⟩ := Int.eq_ofNat_of_zero_le hyq.1
          have hks : (ks : Int) < (xs.length : Int) := hyq.2
          have hcs := (HI.out.ext HB3.out).at (t := ks) (by omega)
          have f0' : w3.cell? ⟨bd, od, none⟩ = some (.int .i64 (ks : Int)) := f0
          have HF2 := hid (show L = if inB I (ks : Int) = true then [eb, ec] else [] by
            rw [HF.out, hyl, hy7]
            show (if (7 : Int) = 7 ∧ inB I (ks : Int) = true then _ else _) = _
            simp)
          clear hyq hyl hy7 hsy p3 f0 HF
          rcases hin : inB I (ks : Int) with _ | _
          · rw [hin] at hcs
            have HG := hid (show L = ([] : List Int) by rw [HF2.out, hin]; rfl)
            clear hin HF2
            go_wp2_with fail
            go_ret
            rw [HG.out]
            exact (show NxP _ _ _ _ from ⟨none, 0, rfl, SlA.nil _ _, HB3.out⟩)
          · rw [hin] at hcs
            have HG := hid (show L = [eb, ec] by rw [HF2.out, hin]; rfl)
            clear hin HF2
            go_wp2_with fail
            go_ret
            rw [HG.out]
            exact (show NxP _ _ _ _ from ⟨_, _, rfl, HS3.out, HB3.out⟩)
        · have hy7' : (y.o == 7) = false := beq_eq_false_iff_ne.2 hy7
          have HG := hid (show L = ([] : List Int) by rw [HF.out, if_neg fun e => hy7 e.1])
          clear hy7 HF
          go_wp2_with fail
          go_ret
          rw [HG.out]
          exact (show NxP _ _ _ _ from ⟨none, 0, rfl, SlA.nil _ _, HB3.out⟩)
      by_cases h9 : nx.o = 9
      · obtain ⟨ea, eb, ec, ed, hnl⟩ := four_of_len (HLN.out 9 4 h9 rfl)
        have HF := hid (show L = if inB I ea = true then [eb, ec, ed] else [] by rw [HL2.out, if_neg h3, if_neg h8, if_pos h9, hnl]; rfl)
        have hs := HSV.out
        rw [hnl] at hs n3
        obtain ⟨b, o, z, rfl, hz, e0⟩ := hs.elemI (k := 0) (by simp)
        injection hz with hz
        subst hz
        have hah := has_iff.1 (HXH.out ea (by rw [hnl]; simp))
        obtain ⟨ka, rfl⟩ := Int.eq_ofNat_of_zero_le hah.1
        have hka : (ka : Int) < (xs.length : Int) := hah.2
        have hca := (HI.out.ext HV.out).at (t := ka) (by omega)
        have e0' : V.cell? ⟨b, o, none⟩ = some (.int .i64 (ka : Int)) := e0
        have n3' : V.cell? ⟨w.heap.size, 3, none⟩ = some (.slice (some ⟨b, o, none⟩) 4 cn) := n3
        have hc4 : 4 ≤ cn := hs.nc
        have HSS := hid (show SlA V 1 (some ⟨b, o + 1, none⟩) 3 (cn - 1) ([eb, ec, ed].map (.int .i64)) from sla_sub (i := 1) (j := 4) hs (by decide) (by simp))
        have hcut := run_cut1 (b := b) (o := o) (n := 4) (c := cn) (by omega) (by decide)
        rw [h9] at n0
        clear h3 h8 h9 HL2 hs n3 e0 hah hnl HSV
        rcases hin : inB I (ka : Int) with _ | _
        · rw [hin] at hca
          have HG := hid (show L = ([] : List Int) by rw [HF.out, hin]; rfl)
          clear hin HF
          go_wp2_with fail
          go_ret
          exact (show NxP _ _ _ _ from HG.out ▸ ⟨none, 0, rfl, SlA.nil _ _, HV.out⟩)
        · rw [hin] at hca
          have HG := hid (show L = [eb, ec, ed] by rw [HF.out, hin]; rfl)
          clear hin HF
          go_wp2_with fail
          go_ret
          exact (show NxP _ _ _ _ from HG.out ▸ ⟨_, _, rfl, HSS.out, HV.out⟩)
      by_cases h10 : nx.o = 10
      · obtain ⟨ea, eb, hnl⟩ := two_of_len (HLN.out 10 2 h10 rfl)
        have HF := hid (show L = [eb] by rw [HL2.out, if_neg h3, if_neg h8, if_neg h9, if_pos h10, hnl]; rfl)
        have hs := HSV.out
        rw [hnl] at hs n3
        obtain ⟨b, o, z, rfl, hz, e0⟩ := hs.elemI (k := 0) (by simp)
        have n3' : V.cell? ⟨w.heap.size, 3, none⟩ = some (.slice (some ⟨b, o, none⟩) 2 cn) := n3
        have hc4 : 2 ≤ cn := hs.nc
        have HSS := hid (show SlA V 1 (some ⟨b, o + 1, none⟩) 1 (cn - 1) ([eb].map (.int .i64)) from sla_sub (i := 1) (j := 2) hs (by decide) (by simp))
        have hcut := run_cut1 (b := b) (o := o) (n := 2) (c := cn) (by omega) (by decide)
        rw [h10] at n0
        clear h3 h8 h9 h10 HL2 hs n3 e0 hz hnl HSV
        go_wp2_with fail
        go_ret
        exact (show NxP _ _ _ _ from HF.out ▸ ⟨_, _, rfl, HSS.out, HV.out⟩)
      by_cases h12 : nx.o = 12
      · obtain ⟨ea, eb, hnl⟩ := two_of_len (HLN.out 12 2 h12 rfl)
        have HF := hid (show L = if inB I eb = true then [ea] else [] by rw [HL2.out, if_neg h3, if_neg h8, if_neg h9, if_neg h10, if_pos h12, hnl]; rfl)
        have hs := HSV.out
        rw [hnl] at hs n3
        obtain ⟨b, o, z, rfl, hz, e1⟩ := hs.elemI (k := 1) (by simp)
        injection hz with hz
        subst hz
        have hah := has_iff.1 (HXH.out eb (by rw [hnl]; simp))
        obtain ⟨ka, rfl⟩ := Int.eq_ofNat_of_zero_le hah.1
        have hka : (ka : Int) < (xs.length : Int) := hah.2
        have hca := (HI.out.ext HV.out).at (t := ka) (by omega)
        have n3' : V.cell? ⟨w.heap.size, 3, none⟩ = some (.slice (some ⟨b, o, none⟩) 2 cn) := n3
        have hc4 : 2 ≤ cn := hs.nc
        have HSS := hid (show SlA V 1 (some ⟨b, o, none⟩) 1 cn ([ea].map (.int .i64)) from sla_takeV (p := 1) hs (by simp))
        have hcut := run_cut_to (P := Tryd.prog) (A := some ⟨b, o, none⟩) (n := 2) (c := cn) Tryd.underlying23 (fun W => Tryd.sizeOf3 W) (p := 1) (by omega)
        have hcut' : ∀ W : World, (Instr.slice 23 (.slice (some ⟨b, o, none⟩) 2 cn) none (some (.int .i64 1)) none).run Tryd.prog W = .ok (.slice (some ⟨b, o, none⟩) 1 cn) W := hcut
        rw [h12] at n0
        clear h3 h8 h9 h10 h12 HL2 hs n3 hah hnl HSV hcut
        rcases hin : inB I (ka : Int) with _ | _
        · rw [hin] at hca
          have HG := hid (show L = ([] : List Int) by rw [HF.out, hin]; rfl)
          clear hin HF
          go_wp2_with fail
          go_ret
          exact (show NxP _ _ _ _ from HG.out ▸ ⟨none, 0, rfl, SlA.nil _ _, HV.out⟩)
        · rw [hin] at hca
          have HG := hid (show L = [ea] by rw [HF.out, hin]; rfl)
          clear hin HF
          go_wp2_with fail
          go_ret
          exact (show NxP _ _ _ _ from HG.out ▸ ⟨_, _, rfl, HSS.out, HV.out⟩)
      have HF := hid (show L = ([] : List Int) by rw [HL2.out, if_neg h3, if_neg h8, if_neg h9, if_neg h10, if_neg h12])
      have e3 : (nx.o == 3) = false := beq_eq_false_iff_ne.2 h3
      have e8 : (nx.o == 8) = false := beq_eq_false_iff_ne.2 h8
      have e9 : (nx.o == 9) = false := beq_eq_false_iff_ne.2 h9
      have e10 : (nx.o == 10) = false := beq_eq_false_iff_ne.2 h10
      have e12 : (nx.o == 12) = false := beq_eq_false_iff_ne.2 h12
      clear h3 h8 h9 h10 h12 HL2
      go_wp2_with fail
      go_ret
      exact (show NxP _ _ _ _ from HF.out ▸ ⟨none, 0, rfl, SlA.nil _ _, HV.out⟩)
  · have HF := hid (show L = [(t : Int)] by
      rw [HLL.out, if_pos (by
        rw [Bool.and_eq_true, bne_iff_ne] at hc1
        exact hc1)])
    clear hc1 HLL HALL
    go_wp2_with fail
    go_ret
    exact (show NxP _ _ _ _ from HF.out ▸ ⟨_, _, rfl, SlA.lit1 _, HV.out.alloc HV.out.size _⟩)
end
end Go.Proofs.YtadbgmfdbahcbaaDoor

