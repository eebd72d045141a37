import Derived.Test.YtgnbiolckhdfeaaDoorZ17
/- token's law: TokenBlind walked. -/
namespace Go.Proofs.YtgnbiolckhdfeaaDoor
open Go.RowKit Go.KK Go.Shelf Go.Maps
set_option linter.unusedVariables false
set_option linter.unusedSimpArgs false

theorem tb_x : ∀ j : Fin 5, 0 ≤ (tbA (tbR j.val) j.val).2.1 ∧ (tbA (tbR j.val) j.val).2.1 ≤ 1000 := by decide +kernel
/-- What one round takes. -/
theorem tb_step (j : Nat) (hj : j < 5) : ∃ X1 n1 e1 X2 x2 X3 s3 m3 X4 t4, makT (tbR j).X (atN (1000 + (j : Int))) = X1 ∧ makI (tbR j).X (atN (1000 + (j : Int))) = n1 ∧ makE (tbR j).X (atN (1000 + (j : Int))) = e1 ∧ askF X1 n1 (2000 + (j : Int)) = (X2, x2, 0) ∧ issF X2 (tbR j).m (1 + (j : Int)) x2 = (X3, s3, m3, 0) ∧ finF X3 s3 (2000 + (j : Int)) = (X4, t4, 0) ∧ I64 x2 ∧
    (tbR (j + 1)).X = X4 ∧ (tbR (j + 1)).m = m3 ∧ (tbR (j + 1)).s = (tbR j).s ++ [1 + (j : Int), x2, s3] ∧ (tbR (j + 1)).n = (tbR j).n ++ [n1] ∧ (tbR (j + 1)).t = (tbR j).t ++ [t4] := by
  obtain ⟨e1, e2, e3⟩ := tb_err j hj
  have hx := tb_x ⟨j, hj⟩
  refine ⟨(tbN (tbR j) j).1, (tbN (tbR j) j).2.1, (tbN (tbR j) j).2.2, (tbA (tbR j) j).1, (tbA (tbR j) j).2.1, (tbI (tbR j) j).1, (tbI (tbR j) j).2.1, (tbI (tbR j) j).2.2.1, (tbF (tbR j) j).1, (tbF (tbR j) j).2.1, rfl, rfl, rfl, ?_, ?_, ?_, ⟨by have := hx.1; simp only at this; omega, by have := hx.2; simp only at this; omega⟩, rfl, rfl, rfl, rfl, rfl⟩
  · show tbA (tbR j) j = _
    rw [← e1]
  · show tbI (tbR j) j = _
    rw [← e2]
  · show tbF (tbR j) j = _
    rw [← e3]
theorem nn_in (x : Int) : ∃ n : Nat, RowKit.wrap64 (2 + (RowKit.wrap64 (x.tmod 4 + 4)).tmod 4) = (n : Int) ∧ 2 ≤ n ∧ n ≤ 5 := by
  have h1 : -4 < x.tmod 4 := Int.lt_tmod_of_pos x (by decide)
  have h2 : x.tmod 4 < 4 := Int.tmod_lt_of_pos x (by decide)
  rw [wrap_id (y := x.tmod 4 + 4) (by omega) (by omega)]
  have h3 : 0 ≤ (x.tmod 4 + 4).tmod 4 := Int.tmod_nonneg _ (by omega)
  have h4 : (x.tmod 4 + 4).tmod 4 < 4 := Int.tmod_lt_of_pos _ (by decide)
  rw [wrap_id (by omega) (by omega)]
  exact ⟨(2 + (x.tmod 4 + 4).tmod 4).toNat, by omega, by omega, by omega⟩
theorem okay_sz {X : List ND} (ok : Okay X) : ∀ x ∈ X, x.s.size ≤ 1000000 := by
  intro x hx
  obtain ⟨i, hi, rfl⟩ := List.mem_iff_getElem.1 hx
  have h := ok.may i _ (List.getElem?_eq_getElem hi)
  unfold mayB shB at h
  simp only [Bool.and_eq_true, decide_eq_true_eq] at h
  omega
theorem tn_new : newF (atoms 12) 0 50 = (⟨0, 50, [], []⟩, 0) := by decide +kernel
set_option maxHeartbeats 8000000 in
set_option maxRecDepth 100000 in
theorem blind_go (more : Int) (w : World) (hT : Tb w.heap.size w) : Calls Tryd.prog 4 #[.int .i64 more] w fun e w' => e = .returned (.bool true) ∧ Below w.heap.size w w' := by
  have HLV := hid (live_any w hT)
  have HT0 := hid hT
  clear hT
  obtain ⟨i0, hi, hz0, hz1, hz2⟩ := info_parts Tryd.infoInt
  have HNN := hid (nn_in more)
  go_enter Tryd.func4, Tryd.ntmps4
  go_wp2_with fail
  refine HLV.out.mono ?_
  rintro e w1 ⟨rfl, b1⟩
  have HB1 := hid b1
  have HT := hid (show Tb w1.heap.size w1 from Tb.up (HT0.out.on b1) b1.size)
  clear b1 HT0 HLV
  go_wp2_with fail
  refine (two_any _ HT.out).mono ?_
  rintro e w2 ⟨sa, sb, rfl, ht⟩
  obtain ⟨Z0, hl⟩ := LA.of_two ht
  have LC := hid hl
  clear hl ht
  go_wp2_with fail
  refine (l_newN LC.out tn_new).mono ?_
  rintro e u1 ⟨rfl, hl, hv⟩
  have LX := hid hl; clear LC hl hv; have LC := LX; clear LX
  go_upto_region 4 with fail
  have L2 := hid (LC.out.alloc (.cells #[.int .i64 0, .int .i64 50, .slice none 0 0, .slice none 0 0] 31))
  have M0 := hid (MB.new (m := ⟨0, 50, [], []⟩) (MtR.mt u1 Z0 0 50) LC.out.ar.zlt LC.out.sz)
  clear LC; have LC := L2; clear L2
  change Hid (MB (u1.alloc (.cells #[.int .i64 0, .int .i64 50, .slice none 0 0, .slice none 0 0] 31)) _ _ u1.heap.size _ _ _) at M0
  generalize hbm : u1.heap.size = bm at *
  generalize u1.alloc (.cells #[.int .i64 0, .int .i64 50, .slice none 0 0, .slice none 0 0] 31) = V2 at *
  clear hbm
  go_upto_region 10 with fail
  obtain ⟨n, hn, hn2, hn5⟩ := HNN.out
  rw [hn]
  clear hn HNN
  have HN2 := hid hn2; have HN5 := hid hn5
  clear hn2 hn5
  have HC0 := hid (show C6 w1 V2 sa bm (tbR 0).X Z0 (tbR 0).m (.slice none 0 0) (.slice none 0 0) (.slice none 0 0) (.slice none 0 0) (.slice none 0 0) (tbR 0).s (tbR 0).n (tbR 0).t from
    ⟨LC.out, M0.out, World.ownsRow_nil _ _ _ _, World.ownsRow_nil _ _ _ _, World.ownsRow_nil _ _ _ _, fun b h => (by cases h), fun b h => (by cases h), fun b h => (by cases h)⟩)
  clear LC M0
  go_loopw [47, 8, 9, 10] (fun v v1 v2 v3 wr => ∃ (j : Nat) (Z : Nat → Prop) (gv pv : Value), v = .int .i64 j ∧ j ≤ n ∧ C6 w1 wr sa bm (tbR j).X Z (tbR j).m gv pv v1 v2 v3 (tbR j).s (tbR j).n (tbR j).t) (fun v _ _ _ _ => n - (intOf v).toNat)
  case atStart => exact ⟨0, _, _, _, rfl, Nat.zero_le _, HC0.out⟩
  case round =>
    clear HC0
    obtain ⟨j, Z, gv, pv, hv, hj, hc⟩ := hrel
    subst hv
    have HC := hid hc
    clear hc
    by_cases hlt : j < n
    · have hlt' : (j : Int) < (n : Int) := by omega
      have hj5 : j < 5 := by have := HN5.out; omega
      have HLT := hid hlt
      obtain ⟨X1, n1, e1, X2, x2, X3, s3, m3, X4, t4, hm1, hm2, hm3, ha, hiss, hfin, hx2, q1, q2, q3, q4, q5⟩ := tb_step j hj5
      obtain ⟨hmo, hmg, hmp⟩ := tb_mto j (by omega)
      obtain ⟨hmo3, hmg3, hmp3⟩ := tb_mto (j + 1) (by omega)
      obtain ⟨hl1, hl2, hl3⟩ := tb_l ⟨j, by omega⟩
      simp only at hl1 hl2 hl3
      generalize hS' : tbR (j + 1) = S' at q1 q2 q3 q4 q5 hmo3 hmg3 hmp3
      have HS' := hid hS'
      clear hS'
      obtain ⟨TX, Tm, Ts, Tn, Tt, Te⟩ := S'
      dsimp only at q1 q2 q3 q4 q5
      subst q1; subst q2; subst q3; subst q4; subst q5
      have HM1 := hid hm1; have HM2 := hid hm2; have HM3 := hid hm3; have HA := hid ha; have HI := hid hiss; have HF := hid hfin; have HX2 := hid hx2
      have HMO := hid hmo; have HG3 := hid hmg3; have HP3 := hid hmp3
      have HL1 := hid hl1; have HL2 := hid hl2; have HL3 := hid hl3
      clear hm1 hm2 hm3 ha hiss hfin hx2 hmo hmg hmp hmo3 hmg3 hmp3 hl1 hl2 hl3
      generalize tbR j = S at *
      obtain ⟨SX, Sm, Ss, Sn, St, Se⟩ := S
      dsimp only at HC HM1 HM2 HM3 HI HMO HL1 HL2 HL3 HS'
      have HK1 := hid (show I64 (1000 + (j : Int)) from ⟨by omega, by omega⟩)
      have HK2 := hid (show I64 (2000 + (j : Int)) from ⟨by omega, by omega⟩)
      have HK3 := hid (show I64 (1 + (j : Int)) from ⟨by omega, by omega⟩)
      go_wp2_with fail
      refine (l_mkA HC.out.la HT.out HK1.out HM1.out HM2.out HM3.out).mono ?_
      rintro e u3 ⟨Z3, rfl, hl3, hv3⟩
      have HC3 := hid (HC.out.mv hl3 hv3)
      clear hl3 hv3 HC HM1 HM2 HM3
      go_wp2_with fail
      refine (l_ask HC3.out.la HT.out HK2.out HA.out).mono ?_
      rintro e u4 ⟨Z4, rfl, hl4, hv4⟩
      have HC4 := hid (HC3.out.mv hl4 hv4)
      clear hl4 hv4 HC3 HA
      obtain ⟨k0, k1, k2, k3⟩ := HC4.out.m.cells
      go_wp2_with fail
      refine (l_iss HC4.out.la HT.out HC4.out.m.mt HMO.out HX2.out HK3.out HI.out).mono ?_
      clear k0 k1 k2 k3
      rintro e u5 ⟨Z5, g5, p5, rfl, hl5, hv5, hm5, hn5⟩
      obtain ⟨a5, c5, b5, d5, rfl, rfl⟩ := hm5.sh (j + 1) 0 HG3.out HP3.out
      have HC5 := hid (HC4.out.mv hl5 hv5)
      have MR := hid hm5
      have HNE := hid (show ∀ b, (Value.slice a5 (j + 1) c5).ownBlock = some b ∨ (Value.slice b5 0 d5).ownBlock = some b → b ≠ bm ∧ u8.ownBlock ≠ some b ∧ u9.ownBlock ≠ some b ∧ u10.ownBlock ≠ some b from fun b hb => by
        have h1 := hn5 b hb
        have h2 := HC4.out.m.lt
        exact ⟨by omega, fun e => by have := (HC4.out.r1.lt b e).2; omega, fun e => by have := (HC4.out.r2.lt b e).2; omega, fun e => by have := (HC4.out.r3.lt b e).2; omega⟩)
      clear hl5 hv5 hm5 hn5 HC4
      obtain ⟨m3k, m3q, m3g, m3p⟩ := Tm
      dsimp only at HI HC5 MR HG3 HP3
      go_upto_region 15 with fail
      have HC6 := hid (HC5.out.alloc (.cells #[.int .i64 m3k, .int .i64 m3q, .slice a5 (j + 1) c5, .slice b5 0 d5] 31))
      have M6 := hid (MB.new (m := ⟨m3k, m3q, m3g, m3p⟩) MR.out HC5.out.la.ar.zlt HC5.out.la.sz)
      change Hid (MB (u5.alloc (.cells #[.int .i64 m3k, .int .i64 m3q, .slice a5 (j + 1) c5, .slice b5 0 d5] 31)) _ _ u5.heap.size _ _ _) at M6
      generalize hbo : u5.heap.size = bo at *
      generalize u5.alloc (.cells #[.int .i64 m3k, .int .i64 m3q, .slice a5 (j + 1) c5, .slice b5 0 d5] 31) = V6 at *
      clear hbo HC5 MR
      go_wp2_with fail
      refine (l_fin HC6.out.la HT.out HK2.out HF.out).mono ?_
      rintro e u7 ⟨Z7, rfl, hl7, hv7⟩
      have HC7 := hid (HC6.out.mv hl7 hv7)
      have M7 := hid (M6.out.mv hv7)
      clear hl7 hv7 HC6 M6
      obtain ⟨k0, k1, k2, k3⟩ := M7.out.cells
      obtain ⟨⟨z0, z1, z2, z3⟩, f0, f1, f2, f3⟩ := box4 HC7.out.m.row
      have HP := hid (HC7.out.put M7.out.mt HNE.out)
      go_upto_region 19 with fail
      refine forget (R := fun W => C6 w1 W sa bm TX Z7 ⟨m3k, m3q, m3g, m3p⟩ (.slice a5 (j + 1) c5) (.slice b5 0 d5) u8 u9 u10 Ss Sn St) ?_ HP.out
      clear HP HC7 M7 k0 k1 k2 k3 f0 f1 f2 f3 z0 z1 z2 z3
      intro W8 h8
      have HC8 := hid h8
      clear h8
      have HK30 := hid (show ∀ u ∈ ([.int .i64 (1 + (j : Int)), .int .i64 x2, .int .i64 s3] : List Value), u.oneCell' = true from ints_one .i64 [1 + (j : Int), x2, s3])
      go_wp2_with (first
        | (at_builtin; refine wpList_append_sl _ rfl _ _ 29 rfl w1.heap.size 3 i0 (.int .i64 0) 1 8 Tryd.underlying29 hi hz0 hz1 hz2 rfl (by decide) u8 Ss.length (Ss.map (.int .i64)) rfl (HC8.out.alloc _).r1 _ 3 3 [.int .i64 (1 + (j : Int)), .int .i64 x2, .int .i64 s3] rfl (sla_row #[.int .i64 (1 + (j : Int)), .int .i64 x2, .int .i64 s3] (by unfold maxLen; simp)) HK30.out (by have := HL1.out; unfold maxLen; omega) (by have := HL1.out; omega) (by have := HC8.out.la.sz; simp; omega) ?_; intro v1 w9 own1 gr1 loc1; have HC9 := hid ((HC8.out.alloc _).app (rowI_snoc3 own1) gr1 loc1); clear own1 gr1 loc1)
        | (at_builtin; refine wpList_append_sl _ rfl _ _ 29 rfl w1.heap.size 3 i0 (.int .i64 0) 1 8 Tryd.underlying29 hi hz0 hz1 hz2 rfl (by decide) u9 Sn.length (Sn.map (.int .i64)) rfl (HC9.out.alloc _).r2 _ 1 1 [.int .i64 n1] rfl (SlA.lit1 _) (one_int _ _) (by have := HL2.out; unfold maxLen; omega) (by have := HL2.out; omega) (by have := HC9.out.la.sz; simp; omega) ?_; intro v2 w10 own1 gr1 loc1; have HC10 := hid ((HC9.out.alloc _).rot.app (rowI_snoc own1) gr1 loc1).rot.rot; clear own1 gr1 loc1)
        | (at_builtin; refine wpList_append_sl _ rfl _ _ 29 rfl w1.heap.size 3 i0 (.int .i64 0) 1 8 Tryd.underlying29 hi hz0 hz1 hz2 rfl (by decide) u10 St.length (St.map (.int .i64)) rfl (HC10.out.alloc _).r3 _ 1 1 [.int .i64 t4] rfl (SlA.lit1 _) (one_int _ _) (by have := HL3.out; unfold maxLen; omega) (by have := HL3.out; omega) (by have := HC10.out.la.sz; simp; omega) ?_; intro v3 w11 own2 gr2 loc2; have HC11 := hid ((HC10.out.alloc _).rot.rot.app (rowI_snoc own2) gr2 loc2).rot; clear own2 gr2 loc2)
        | fail)
      go_roundw
      case rel =>
        refine ⟨j + 1, Z7, .slice a5 (j + 1) c5, .slice b5 0 d5, by go_num, by have := HLT.out; omega, ?_⟩
        rw [HS'.out]
        exact HC11.out
      case measure => have := HLT.out; simp [intOf]; omega
    · obtain rfl : j = n := by omega
      have hok := HC.out.la.ar.ok
      obtain ⟨hl1, hl2, hl3⟩ := tb_l ⟨j, by have := HN5.out; omega⟩
      simp only at hl1 hl2 hl3
      have HALK := hid (fun (i : Nat) (hi : i < j) => tb_alk HN2.out HN5.out hi hok)
      have HDRV := hid (fun (i : Nat) (hi : i < j) => tb_drv HN2.out HN5.out hi hok)
      have HMO := hid (tb_mto j (by have := HN5.out; omega)).1
      have HOK := hid hok
      unfold tbO at HALK
      clear hlt hok
      generalize tbR j = S at *
      obtain ⟨SX, Sm, Ss, Sn, St, Se⟩ := S
      dsimp only at HC HALK HDRV HMO HOK hl1 hl2 hl3
      obtain ⟨A1, c1, rfl, -⟩ := SlA.owned HC.out.r1
      obtain ⟨A2, c2, rfl, -⟩ := SlA.owned HC.out.r2
      obtain ⟨A3, c3, rfl, -⟩ := SlA.owned HC.out.r3
      have HL1 := hid hl1; have HL2 := hid hl2; have HL3 := hid hl3
      obtain ⟨bn, on, x0, rfl, hx0, -⟩ := (SlA.of_own HC.out.r2).2.elemI (show 0 < Sn.length by have := HN2.out; omega)
      obtain ⟨bt, ot, y0, rfl, hy0, -⟩ := (SlA.of_own HC.out.r3).2.elemI (show 0 < St.length by have := HN2.out; omega)
      have HX0 := hid hx0; have HY0 := hid hy0
      clear hx0 hy0 hl1 hl2 hl3
      have HCX := hid (fun (W : World) (hb : Below wr.heap.size wr W) => HC.out.ext hb)
      have hn2' : (0 : Int) < (Sn.length : Int) := by have := HN2.out; have := HL2.out; omega
      have ht2' : (0 : Int) < (St.length : Int) := by have := HN2.out; have := HL3.out; omega
      have hnn : 0 < Sn.length := by omega
      have htn : 0 < St.length := by omega
      have hnd := decide_eq_true hnn
      have htd := decide_eq_true htn
      have hnd2 := decide_eq_true hn2'
      have htd2 := decide_eq_true ht2'
      go_upto_region 23 with fail
      go_cut [21] (fun v W => ∃ A c, v = .slice A (Ss.length + 3) c ∧ Below wr.heap.size wr W ∧ SlA W 1 A (Ss.length + 3) c ((0 :: (Ss ++ [x0, y0])).map (.int .i64)))
      case first =>
        have HS := hid (fun (W : World) (hb : Below wr.heap.size wr W) => (show W.cell? ⟨bn, on, none⟩ = some (.int .i64 x0) ∧ W.cell? ⟨bt, ot, none⟩ = some (.int .i64 y0) from ⟨rowI_at (HCX.out W hb).r2 HX0.out, rowI_at (HCX.out W hb).r3 HY0.out⟩))
        have DZ := hid (Below.refl wr.heap.size wr)
        have HLS := hid (show 0 < Ss.length ∧ Ss.length ≤ 15 by have := HL1.out; have := HN5.out; have := HN2.out; omega)
        obtain ⟨k0, k1⟩ := HS.out _ DZ.out
        go_region_held_law (fun W => W.cell? ⟨bn, on, none⟩ = some (.int .i64 x0) ∧ W.cell? ⟨bt, ot, none⟩ = some (.int .i64 y0)) (first | exact HS.out _ (by repeat (first | with_reducible exact D4.out | with_reducible exact D3.out | with_reducible exact D2.out | with_reducible exact DZ.out | with_reducible refine below_al ?_ | with_reducible refine below_drew ?_)) | go_keep) (first
          | (refine step_append_newd _ (by rfl) (some 113) (by rfl) (.const (.slice none 0 0)) (.tmp 112) 29 (by rfl) 3 i0 (.int .i64 0) 1 8 Tryd.underlying29 hi hz0 hz1 hz2 rfl (by decide) (by rfl) A1 Ss.length c1 (Ss.map (.int .i64)) (by rfl) (SlA.of_own (HCX.out _ (by repeat (first | with_reducible exact D4.out | with_reducible exact D3.out | with_reducible exact D2.out | with_reducible exact DZ.out | with_reducible refine below_al ?_ | with_reducible refine below_drew ?_))).r1).2 (ints_one _ _) (by have := HLS.out; unfold maxLen; omega) (by have := HLS.out; omega) ?_; intro v5 w5 own5 b5; obtain ⟨g5, c5, rfl, hg1, hg2⟩ := own_block1 own5 HLS.out.1; have HO5 := hid own5; have B5 := hid b5; have S5 := hid (And.intro hg1 hg2); have D2 := hid (show Below wr.heap.size wr w5 from bel_step (by repeat (first | with_reducible exact D4.out | with_reducible exact D3.out | with_reducible exact D2.out | with_reducible exact DZ.out | with_reducible refine below_al ?_ | with_reducible refine below_drew ?_)) b5 rfl); clear own5 b5 hg1 hg2)
          | (refine step_append_sld _ (by rfl) (some 121) (by rfl) (.tmp 113) (.tmp 120) 29 (by rfl) _ 3 i0 (.int .i64 0) 1 8 Tryd.underlying29 hi hz0 hz1 hz2 rfl (by decide) (.slice (some ⟨g5, 0, none⟩) Ss.length c5) Ss.length (Ss.map (.int .i64)) (by rfl) (own_ext HO5.out (by repeat (first | with_reducible exact Below.refl _ _ | with_reducible refine below_al ?_ | with_reducible refine below_drew ?_))) (some ⟨_, 0, none⟩) 2 2 [.int .i64 x0, .int .i64 y0] (by rfl) (HasO.sla (T := 3) (vs := #[.int .i64 x0, .int .i64 y0]) (by repeat (first | (with_reducible refine HasO.new' ?_; (try simp only [size_al, size_dr]); done) | with_reducible refine HasO.alloc ?_ | with_reducible refine HasO.drew ?_ | with_reducible refine HasO.bel ?_ B5.out | (with_reducible refine HasO.grown ?_ G6.out ?_; rotate_left; ((try have q2 := D2.out.size); (try have q5 := B5.out.size); (try have q3 := D3.out.size); (try have q4 := S5.out); (try simp only [size_al, size_dr] at q5); (try simp only [size_al, size_dr] at q4); (try simp only [size_al, size_dr]); omega)))) (by simp) (by unfold maxLen; simp)) (ints_one .i64 [x0, y0]) (by have := HLS.out; unfold maxLen; omega) (by have := HLS.out; omega) (by (try have q2 := D2.out.size); (try have q5 := B5.out.size); (try have q3 := D3.out.size); (try have q4 := S5.out); (try simp only [size_al, size_dr] at q5); (try simp only [size_al, size_dr] at q4); (try simp only [size_al, size_dr]); omega) ?_; intro v6 w6 own6 gr6 loc6; obtain ⟨g6, c6, rfl, -, -⟩ := own_block1 own6 (by omega); have HO6 := hid own6; have G6 := hid gr6; have D3 := hid (show Below wr.heap.size wr w6 from below_append (B := wr.heap.size) (by repeat (first | with_reducible exact D4.out | with_reducible exact D3.out | with_reducible exact D2.out | with_reducible exact DZ.out | with_reducible refine below_al ?_ | with_reducible refine below_drew ?_)) gr6 (own_ext HO5.out (by repeat (first | with_reducible exact Below.refl _ _ | with_reducible refine below_al ?_ | with_reducible refine below_drew ?_))) (by (try have q2 := D2.out.size); (try have q5 := B5.out.size); (try have q3 := D3.out.size); (try have q4 := S5.out); (try simp only [size_al, size_dr] at q5); (try simp only [size_al, size_dr] at q4); (try simp only [size_al, size_dr]); omega) (below_sz (a := wr) (by repeat (first | with_reducible exact D4.out | with_reducible exact D3.out | with_reducible exact D2.out | with_reducible exact DZ.out | with_reducible refine below_al ?_ | with_reducible refine below_drew ?_)))); clear own6 gr6 loc6)
          | (refine step_append_sld _ (by rfl) (some 122) (by rfl) (.tmp 111) (.tmp 121) 29 (by rfl) wr.heap.size 3 i0 (.int .i64 0) 1 8 Tryd.underlying29 hi hz0 hz1 hz2 rfl (by decide) (.slice (some ⟨_, 0, none⟩) 1 1) 1 [.int .i64 0] (by rfl) (HasO.own1 (T := 3) (v := .int .i64 0) (by repeat (first | (with_reducible refine HasO.new' ?_; (try simp only [size_al, size_dr]); done) | with_reducible refine HasO.alloc ?_ | with_reducible refine HasO.drew ?_ | with_reducible refine HasO.bel ?_ B5.out | (with_reducible refine HasO.grown ?_ G6.out ?_; rotate_left; ((try have q2 := D2.out.size); (try have q5 := B5.out.size); (try have q3 := D3.out.size); (try have q4 := S5.out); (try simp only [size_al, size_dr] at q5); (try simp only [size_al, size_dr] at q4); (try simp only [size_al, size_dr]); omega)))) (by (try have q2 := D2.out.size); (try have q5 := B5.out.size); (try have q3 := D3.out.size); (try have q4 := S5.out); (try simp only [size_al, size_dr] at q5); (try simp only [size_al, size_dr] at q4); (try simp only [size_al, size_dr]); omega)) (some ⟨g6, 0, none⟩) (Ss.length + 2) c6 (Ss.map (.int .i64) ++ [.int .i64 x0, .int .i64 y0]) (by rfl) ((SlA.of_own HO6.out).2.ext (by repeat (first | with_reducible exact Below.refl _ _ | with_reducible refine below_al ?_ | with_reducible refine below_drew ?_))) (by intro u hu; rcases List.mem_append.1 hu with hu | hu; exact ints_one _ _ u hu; exact ints_one .i64 [x0, y0] u hu) (by have := HLS.out; unfold maxLen; omega) (by have := HLS.out; omega) (below_sz (a := wr) (by repeat (first | with_reducible exact D4.out | with_reducible exact D3.out | with_reducible exact D2.out | with_reducible exact DZ.out | with_reducible refine below_al ?_ | with_reducible refine below_drew ?_))) ?_; intro v7 w7 own7 gr7 loc7; rw [show 1 + (Ss.length + 2) = Ss.length + 3 by omega] at own7; have HO7 := hid own7; have D4 := hid (show Below wr.heap.size wr w7 from below_append (B := wr.heap.size) (by repeat (first | with_reducible exact D4.out | with_reducible exact D3.out | with_reducible exact D2.out | with_reducible exact DZ.out | with_reducible refine below_al ?_ | with_reducible refine below_drew ?_)) gr7 (HasO.own1 (T := 3) (v := .int .i64 0) (by repeat (first | (with_reducible refine HasO.new' ?_; (try simp only [size_al, size_dr]); done) | with_reducible refine HasO.alloc ?_ | with_reducible refine HasO.drew ?_ | with_reducible refine HasO.bel ?_ B5.out | (with_reducible refine HasO.grown ?_ G6.out ?_; rotate_left; ((try have q2 := D2.out.size); (try have q5 := B5.out.size); (try have q3 := D3.out.size); (try have q4 := S5.out); (try simp only [size_al, size_dr] at q5); (try simp only [size_al, size_dr] at q4); (try simp only [size_al, size_dr]); omega)))) (by (try have q2 := D2.out.size); (try have q5 := B5.out.size); (try have q3 := D3.out.size); (try have q4 := S5.out); (try simp only [size_al, size_dr] at q5); (try simp only [size_al, size_dr] at q4); (try simp only [size_al, size_dr]); omega)) (Nat.le_refl _) (below_sz (a := wr) (by repeat (first | with_reducible exact D4.out | with_reducible exact D3.out | with_reducible exact D2.out | with_reducible exact DZ.out | with_reducible refine below_al ?_ | with_reducible refine below_drew ?_)))); obtain ⟨g7, c7, rfl, -, -⟩ := own_block1 own7 (by omega); clear own7 gr7 loc7))
        all_goals
          go_wp2_with fail
          go_meet
          have h7 := (SlA.of_own HO7.out).2
          exact ⟨_, _, rfl, D4.out, by rw [List.map_cons, List.map_append]; exact h7⟩
      case rest =>
        obtain ⟨A4, c4, rfl, hb4, hs4⟩ := hcut
        have HC2 := hid (HCX.out _ hb4); have HS4 := hid hs4
        have HOS := hid (show ∀ x ∈ SX, x.s.size ≤ 1000000 from okay_sz HOK.out)
        have HX00 := hid (show Sn.getD 0 0 = x0 by rw [List.getD_eq_getElem?_getD, HX0.out]; rfl)
        have HY00 := hid (show St.getD 0 0 = y0 by rw [List.getD_eq_getElem?_getD, HY0.out]; rfl)
        rw [HX00.out, HY00.out] at HALK
        have HLS0 := hid (show Ss.length ≤ 15 by have := HL1.out; have := HN5.out; omega)
        have HNT := hid (show St.length = Sn.length by have := HL2.out; have := HL3.out; omega)
        have HNJ := hid (show Sn.length = j ∧ 0 < j by have := HL2.out; have := HN2.out; omega)
        clear hb4 hs4 HCX HC hn2' ht2' hnn htn hnd htd hnd2 htd2 hj HX00 HY00
        go_upto_region 25 with fail
        go_loopw [125] (fun v wq => ∃ i : Nat, v = .int .i64 i ∧ i ≤ Sn.length ∧ Hid (Below wc.heap.size wc wq)) (fun v _ => Sn.length - (intOf v).toNat)
        case atStart => exact ⟨0, rfl, Nat.zero_le _, hid (Below.refl _ _)⟩
        case round =>
          obtain ⟨i, hv, hi0, HBW⟩ := hrel
          subst hv
          by_cases hli : i < Sn.length
          · have hli' : (i : Int) < (Sn.length : Int) := by omega
            have hlt2 : (i : Int) < (St.length : Int) := by have := HNT.out; omega
            have hnn0 : (0 : Int) ≤ (i : Int) := by omega
            have hlb : Sn.length ≤ 5 := by have := HNJ.out; have := HN5.out; omega
            have hld := decide_eq_true hli
            have hld2 := decide_eq_true (show i < St.length by have := HNT.out; omega)
            have hld3 := decide_eq_true hli'
            have hld4 := decide_eq_true hlt2
            have hlt3 : i < St.length := by have := HNT.out; omega
            have HC3 := hid (HC2.out.ext HBW.out)
            have HS5 := hid (HS4.out.ext HBW.out)
            obtain ⟨bn', on', x, e, hx, -⟩ := (SlA.of_own HC3.out.r2).2.elemI hli
            injection e with e
            injection e with e1 e2
            subst e1; subst e2
            obtain ⟨bt', ot', y, e, hy, -⟩ := (SlA.of_own HC3.out.r3).2.elemI hlt3
            injection e with e
            injection e with e1 e2
            subst e1; subst e2
            have HX := hid hx; have HY := hid hy
            obtain ⟨a1, a2, a3, a4⟩ := HALK.out i (by have := HNJ.out; omega)
            obtain ⟨b1, b2, b3, b4⟩ := HALK.out 0 (by have := HNJ.out; omega)
            obtain ⟨d1, d2⟩ := HDRV.out i (by have := HNJ.out; omega)
            rw [show Sn.getD i 0 = x by rw [List.getD_eq_getElem?_getD, hx]; rfl, show St.getD i 0 = y by rw [List.getD_eq_getElem?_getD, hy]; rfl] at a1 a2 a3 a4
            rw [show Sn.getD i 0 = x by rw [List.getD_eq_getElem?_getD, hx]; rfl] at d1 d2
            rw [show Sn.getD 0 0 = x0 by rw [List.getD_eq_getElem?_getD, HX0.out]; rfl, show St.getD 0 0 = y0 by rw [List.getD_eq_getElem?_getD, HY0.out]; rfl] at b3
            have HA1 := hid a1; have HA2 := hid a2; have HA3 := hid a3; have HB3 := hid b3; have HD1 := hid d1; have HD2 := hid d2
            have HSP := hid (show spF SX Sm x y = ((spF SX Sm x y).1, 0) from Prod.ext rfl a4)
            clear a1 a2 a3 a4 b1 b2 b3 b4 d1 d2 hx hy
            have HCX := hid (fun (W : World) (hb : Below wr.heap.size wr W) => HC3.out.ext hb)
            go_upto_region 27 with fail
            go_cut [23] (fun v W => ∃ A c, v = .slice A (Ss.length + 3) c ∧ Below wr.heap.size wr W ∧ SlA W 1 A (Ss.length + 3) c ((0 :: (Ss ++ [x, y])).map (.int .i64)))
            case first =>
              have HS := hid (fun (W : World) (hb : Below wr.heap.size wr W) => (show W.cell? ⟨bn, on + i, none⟩ = some (.int .i64 x) ∧ W.cell? ⟨bt, ot + i, none⟩ = some (.int .i64 y) from ⟨rowI_at (HCX.out W hb).r2 HX.out, rowI_at (HCX.out W hb).r3 HY.out⟩))
              have DZ := hid (Below.refl wr.heap.size wr)
              have HLS := hid (show 0 < Ss.length ∧ Ss.length ≤ 15 by have := HL1.out; have := HN5.out; have := HN2.out; omega)
              obtain ⟨k0, k1⟩ := HS.out _ DZ.out
              go_region_held_law (fun W => W.cell? ⟨bn, on + i, none⟩ = some (.int .i64 x) ∧ W.cell? ⟨bt, ot + i, none⟩ = some (.int .i64 y)) (first | exact HS.out _ (by repeat (first | with_reducible exact D4.out | with_reducible exact D3.out | with_reducible exact D2.out | with_reducible exact DZ.out | with_reducible refine below_al ?_ | with_reducible refine below_drew ?_)) | go_keep) (first
                | (refine step_append_newd _ (by rfl) (some 130) (by rfl) (.const (.slice none 0 0)) (.tmp 129) 29 (by rfl) 3 i0 (.int .i64 0) 1 8 Tryd.underlying29 hi hz0 hz1 hz2 rfl (by decide) (by rfl) A1 Ss.length c1 (Ss.map (.int .i64)) (by rfl) (SlA.of_own (HCX.out _ (by repeat (first | with_reducible exact D4.out | with_reducible exact D3.out | with_reducible exact D2.out | with_reducible exact DZ.out | with_reducible refine below_al ?_ | with_reducible refine below_drew ?_))).r1).2 (ints_one _ _) (by have := HLS.out; unfold maxLen; omega) (by have := HLS.out; omega) ?_; intro v5 w5 own5 b5; obtain ⟨g5, c5, rfl, hg1, hg2⟩ := own_block1 own5 HLS.out.1; have HO5 := hid own5; have B5 := hid b5; have S5 := hid (And.intro hg1 hg2); have D2 := hid (show Below wr.heap.size wr w5 from bel_step (by repeat (first | with_reducible exact D4.out | with_reducible exact D3.out | with_reducible exact D2.out | with_reducible exact DZ.out | with_reducible refine below_al ?_ | with_reducible refine below_drew ?_)) b5 rfl); clear own5 b5 hg1 hg2)
                | (refine step_append_sld _ (by rfl) (some 140) (by rfl) (.tmp 130) (.tmp 139) 29 (by rfl) _ 3 i0 (.int .i64 0) 1 8 Tryd.underlying29 hi hz0 hz1 hz2 rfl (by decide) (.slice (some ⟨g5, 0, none⟩) Ss.length c5) Ss.length (Ss.map (.int .i64)) (by rfl) (own_ext HO5.out (by repeat (first | with_reducible exact Below.refl _ _ | with_reducible refine below_al ?_ | with_reducible refine below_drew ?_))) (some ⟨_, 0, none⟩) 2 2 [.int .i64 x, .int .i64 y] (by rfl) (HasO.sla (T := 3) (vs := #[.int .i64 x, .int .i64 y]) (by repeat (first | (with_reducible refine HasO.new' ?_; (try simp only [size_al, size_dr]); done) | with_reducible refine HasO.alloc ?_ | with_reducible refine HasO.drew ?_ | with_reducible refine HasO.bel ?_ B5.out | (with_reducible refine HasO.grown ?_ G6.out ?_; rotate_left; ((try have q2 := D2.out.size); (try have q5 := B5.out.size); (try have q3 := D3.out.size); (try have q4 := S5.out); (try simp only [size_al, size_dr] at q5); (try simp only [size_al, size_dr] at q4); (try simp only [size_al, size_dr]); omega)))) (by simp) (by unfold maxLen; simp)) (ints_one .i64 [x, y]) (by have := HLS.out; unfold maxLen; omega) (by have := HLS.out; omega) (by (try have q2 := D2.out.size); (try have q5 := B5.out.size); (try have q3 := D3.out.size); (try have q4 := S5.out); (try simp only [size_al, size_dr] at q5); (try simp only [size_al, size_dr] at q4); (try simp only [size_al, size_dr]); omega) ?_; intro v6 w6 own6 gr6 loc6; obtain ⟨g6, c6, rfl, -, -⟩ := own_block1 own6 (by omega); have HO6 := hid own6; have G6 := hid gr6; have D3 := hid (show Below wr.heap.size wr w6 from below_append (B := wr.heap.size) (by repeat (first | with_reducible exact D4.out | with_reducible exact D3.out | with_reducible exact D2.out | with_reducible exact DZ.out | with_reducible refine below_al ?_ | with_reducible refine below_drew ?_)) gr6 (own_ext HO5.out (by repeat (first | with_reducible exact Below.refl _ _ | with_reducible refine below_al ?_ | with_reducible refine below_drew ?_))) (by (try have q2 := D2.out.size); (try have q5 := B5.out.size); (try have q3 := D3.out.size); (try have q4 := S5.out); (try simp only [size_al, size_dr] at q5); (try simp only [size_al, size_dr] at q4); (try simp only [size_al, size_dr]); omega) (below_sz (a := wr) (by repeat (first | with_reducible exact D4.out | with_reducible exact D3.out | with_reducible exact D2.out | with_reducible exact DZ.out | with_reducible refine below_al ?_ | with_reducible refine below_drew ?_)))); clear own6 gr6 loc6)
                | (refine step_append_sld _ (by rfl) (some 141) (by rfl) (.tmp 128) (.tmp 140) 29 (by rfl) wr.heap.size 3 i0 (.int .i64 0) 1 8 Tryd.underlying29 hi hz0 hz1 hz2 rfl (by decide) (.slice (some ⟨_, 0, none⟩) 1 1) 1 [.int .i64 0] (by rfl) (HasO.own1 (T := 3) (v := .int .i64 0) (by repeat (first | (with_reducible refine HasO.new' ?_; (try simp only [size_al, size_dr]); done) | with_reducible refine HasO.alloc ?_ | with_reducible refine HasO.drew ?_ | with_reducible refine HasO.bel ?_ B5.out | (with_reducible refine HasO.grown ?_ G6.out ?_; rotate_left; ((try have q2 := D2.out.size); (try have q5 := B5.out.size); (try have q3 := D3.out.size); (try have q4 := S5.out); (try simp only [size_al, size_dr] at q5); (try simp only [size_al, size_dr] at q4); (try simp only [size_al, size_dr]); omega)))) (by (try have q2 := D2.out.size); (try have q5 := B5.out.size); (try have q3 := D3.out.size); (try have q4 := S5.out); (try simp only [size_al, size_dr] at q5); (try simp only [size_al, size_dr] at q4); (try simp only [size_al, size_dr]); omega)) (some ⟨g6, 0, none⟩) (Ss.length + 2) c6 (Ss.map (.int .i64) ++ [.int .i64 x, .int .i64 y]) (by rfl) ((SlA.of_own HO6.out).2.ext (by repeat (first | with_reducible exact Below.refl _ _ | with_reducible refine below_al ?_ | with_reducible refine below_drew ?_))) (by intro u hu; rcases List.mem_append.1 hu with hu | hu; exact ints_one _ _ u hu; exact ints_one .i64 [x, y] u hu) (by have := HLS.out; unfold maxLen; omega) (by have := HLS.out; omega) (below_sz (a := wr) (by repeat (first | with_reducible exact D4.out | with_reducible exact D3.out | with_reducible exact D2.out | with_reducible exact DZ.out | with_reducible refine below_al ?_ | with_reducible refine below_drew ?_))) ?_; intro v7 w7 own7 gr7 loc7; rw [show 1 + (Ss.length + 2) = Ss.length + 3 by omega] at own7; have HO7 := hid own7; have D4 := hid (show Below wr.heap.size wr w7 from below_append (B := wr.heap.size) (by repeat (first | with_reducible exact D4.out | with_reducible exact D3.out | with_reducible exact D2.out | with_reducible exact DZ.out | with_reducible refine below_al ?_ | with_reducible refine below_drew ?_)) gr7 (HasO.own1 (T := 3) (v := .int .i64 0) (by repeat (first | (with_reducible refine HasO.new' ?_; (try simp only [size_al, size_dr]); done) | with_reducible refine HasO.alloc ?_ | with_reducible refine HasO.drew ?_ | with_reducible refine HasO.bel ?_ B5.out | (with_reducible refine HasO.grown ?_ G6.out ?_; rotate_left; ((try have q2 := D2.out.size); (try have q5 := B5.out.size); (try have q3 := D3.out.size); (try have q4 := S5.out); (try simp only [size_al, size_dr] at q5); (try simp only [size_al, size_dr] at q4); (try simp only [size_al, size_dr]); omega)))) (by (try have q2 := D2.out.size); (try have q5 := B5.out.size); (try have q3 := D3.out.size); (try have q4 := S5.out); (try simp only [size_al, size_dr] at q5); (try simp only [size_al, size_dr] at q4); (try simp only [size_al, size_dr]); omega)) (Nat.le_refl _) (below_sz (a := wr) (by repeat (first | with_reducible exact D4.out | with_reducible exact D3.out | with_reducible exact D2.out | with_reducible exact DZ.out | with_reducible refine below_al ?_ | with_reducible refine below_drew ?_)))); obtain ⟨g7, c7, rfl, -, -⟩ := own_block1 own7 (by omega); clear own7 gr7 loc7))
              all_goals
                go_wp2_with fail
                go_meet
                have h7 := (SlA.of_own HO7.out).2
                exact ⟨_, _, rfl, D4.out, by rw [List.map_cons, List.map_append]; exact h7⟩
            case rest =>
              obtain ⟨A5, c5, rfl, hb5, hs5⟩ := hcut
              have HC6 := hid (HCX.out _ hb5); have HB5 := hid hb5
              have HT6 := hid (show Tb wc.heap.size wc from Tb.up (HT.out.on HC6.out.la.bl) HC6.out.la.bl.size)
              have HAK := hid (alike_any wc sa SX A4 (Ss.length + 3) c4 (0 :: (Ss ++ [x0, y0])) A5 (Ss.length + 3) c5 (0 :: (Ss ++ [x, y])) HC6.out.la.ar.vw HOK.out (uses_small HOK.out) (HS5.out.ext hb5) hs5 (by have := HLS0.out; omega) (by have := HLS0.out; omega) HT6.out HOS.out (fun _ => HB3.out) (fun _ => HA3.out))
              rw [HA1.out, HA2.out] at HAK
              clear hb5 hs5 HA1 HA2 HA3 HB3 HCX HC3
              go_wp2_with fail
              refine HAK.out.mono ?_
              rintro e w7 ⟨rfl, b7⟩
              have HB7 := hid (HB5.out.trans (b7.mono HB5.out.size))
              have HC7 := hid (HC6.out.ext b7)
              clear b7 HAK HC6 HT6
              have HCY := hid (fun (W : World) (hb : Below w7.heap.size w7 W) => HC7.out.ext hb)
              have HSa := hid (fun (W : World) (hb : Below w7.heap.size w7 W) => (show W.cell? ⟨bm, 0, none⟩ = some (.int .i64 Sm.k) ∧ W.cell? ⟨bm, 1, none⟩ = some (.int .i64 Sm.q) ∧ W.cell? ⟨bm, 2, none⟩ = some gv ∧ W.cell? ⟨bm, 3, none⟩ = some pv ∧ W.cell? ⟨bn, on + i, none⟩ = some (.int .i64 x) ∧ W.cell? ⟨bt, ot + i, none⟩ = some (.int .i64 y) from
                have h := (HCY.out W hb).m.cells
                ⟨h.1, h.2.1, h.2.2.1, h.2.2.2, rowI_at (HCY.out W hb).r2 HX.out, rowI_at (HCY.out W hb).r3 HY.out⟩))
              have DZa := hid (Below.refl w7.heap.size w7)
              have D0a := hid (below_drew DZa.out)
              have DAa := hid (below_drew (DZa.out.alloc (Nat.le_refl _) (.cells #[.int .i64 0, .int .i64 0, .slice none 0 0, .slice none 0 0] 31)))
              have MZa := hid (show MB (w7.alloc (.cells #[.int .i64 0, .int .i64 0, .slice none 0 0, .slice none 0 0] 31)).drew Z w1.heap.size w7.heap.size ⟨0, 0, [], []⟩ (.slice none 0 0) (.slice none 0 0) from (MB.new (m := ⟨0, 0, [], []⟩) (MtR.mt w7 Z 0 0) HC7.out.la.ar.zlt HC7.out.la.sz).turn (F := fun _ => False) ⟨rfl, rfl, rfl, Nat.le_refl _, fun _ _ _ => rfl⟩ id (fun _ _ => id))
              obtain ⟨k0a, k1a, k2a, k3a, k4a, k5a⟩ := HSa.out _ DZa.out
              have HMT := hid HC7.out.m.mt
              generalize (spF SX Sm x y).1 = m2 at *
              obtain ⟨m2k, m2q, m2g, m2p⟩ := m2
              go_upto_region 31 with fail
              go_cut [27] (fun e W => e = .int .i64 0 ∧ Below w7.heap.size w7 W)
              case first =>
                go_region_held3 (fun W => W.cell? ⟨bm, 0, none⟩ = some (.int .i64 Sm.k) ∧ W.cell? ⟨bm, 1, none⟩ = some (.int .i64 Sm.q) ∧ W.cell? ⟨bm, 2, none⟩ = some gv ∧ W.cell? ⟨bm, 3, none⟩ = some pv ∧ W.cell? ⟨bn, on + i, none⟩ = some (.int .i64 x) ∧ W.cell? ⟨bt, ot + i, none⟩ = some (.int .i64 y)) (first | exact HSa.out _ D0a.out | exact HSa.out _ DZa.out | exact HSa.out _ DAa.out | exact HSa.out _ D5a.out | exact HSa.out _ D6a.out | exact HSa.out _ (D5a.out.alloc D5a.out.size _) | exact HSa.out _ (st4 D6a.out (Nat.le_refl _) _ _ _ _) | go_keep) (first
                  | (go_at_call 19; refine (l_spB (HCY.out _ D0a.out).la (HCY.out _ D0a.out).m.mt HMO.out HSP.out).mono ?_; rintro e5 w5 ⟨g5, p5, rfl, b5, hm5, hn5⟩; obtain ⟨Ag5, cg5, Ap5, cp5, rfl, rfl⟩ := hm5.sh _ _ rfl rfl; have D5a := hid (D0a.out.trans (b5.mono D0a.out.size)); clear b5 hm5 hn5)
                  | (go_at_call 19; refine (l_spB (HCY.out _ DAa.out).la (HCY.out _ DAa.out).m.mt HMO.out HSP.out).mono ?_; rintro e5 w5 ⟨g5, p5, rfl, b5, hm5, hn5⟩; obtain ⟨Ag5, cg5, Ap5, cp5, rfl, rfl⟩ := hm5.sh _ _ rfl rfl; have D6a := hid (DAa.out.trans (b5.mono DAa.out.size)); have Z6a := hid (MZa.out.ext b5); obtain ⟨⟨y0, y1, y2, y3⟩, fy0, fy1, fy2, fy3⟩ := box4 Z6a.out.row; clear b5 hm5 hn5))
                all_goals
                  go_wp2_with fail
                  go_meet
                  first
                    | exact ⟨rfl, D5a.out.alloc D5a.out.size _⟩
                    | exact ⟨rfl, st4 D6a.out (Nat.le_refl _) _ _ _ _⟩
              case rest =>
                obtain ⟨rfl, hb8⟩ := hcut
                have HB8 := hid (HB7.out.trans (hb8.mono HB7.out.size))
                have HC8 := hid (HC7.out.ext hb8)
                clear hb8 k0a k1a k2a k3a k4a k5a HSa HCY DZa D0a DAa MZa HMT HC7 HB7
                have HCZ := hid (fun (W : World) (hb : Below wc.heap.size wc W) => HC8.out.ext hb)
                have DZ := hid (Below.refl wc.heap.size wc)
                have k0 := rowI_at HC8.out.r2 HX.out
                have HLS := hid (show 0 < Ss.length ∧ Ss.length ≤ 15 by have := HL1.out; have := HN5.out; have := HN2.out; omega)
                go_upto_region 34 with fail
                go_cut [28, 29] (fun v e W => v = .bool false ∧ e = .int .i64 0 ∧ Below wc.heap.size wc W)
                case first =>
                  go_region_held_law (fun W => W.cell? ⟨bn, on + i, none⟩ = some (.int .i64 x)) (first | exact rowI_at (HCZ.out _ (by repeat (first | with_reducible exact D8.out | with_reducible exact D4.out | with_reducible exact DZ.out | with_reducible refine below_al ?_ | with_reducible refine below_drew ?_))).r2 HX.out | go_keep) (first
                    | (refine step_append_sld _ (by rfl) (some 175) (by rfl) (.tmp 173) (.tmp 174) 29 (by rfl) wc.heap.size 3 i0 (.int .i64 0) 1 8 Tryd.underlying29 hi hz0 hz1 hz2 rfl (by decide) (.slice (some ⟨_, 0, none⟩) 1 1) 1 [.int .i64 0] (by rfl) (HasO.own1 (T := 3) (v := .int .i64 0) (by repeat (first | (with_reducible refine HasO.new' ?_; done) | with_reducible refine HasO.drew ?_ | with_reducible exact HasO.new _ _)) (by simp)) A1 Ss.length c1 (Ss.map (.int .i64)) (by rfl) (SlA.of_own (HCZ.out _ (by repeat (first | with_reducible exact D8.out | with_reducible exact D4.out | with_reducible exact DZ.out | with_reducible refine below_al ?_ | with_reducible refine below_drew ?_))).r1).2 (ints_one _ _) (by have := HLS.out; unfold maxLen; omega) (by have := HLS.out; omega) (below_sz (a := wc) (by repeat (first | with_reducible exact D8.out | with_reducible exact D4.out | with_reducible exact DZ.out | with_reducible refine below_al ?_ | with_reducible refine below_drew ?_))) ?_; intro v7 w7 own7 gr7 loc7; have D4 := hid (show Below wc.heap.size wc w7 from below_append (B := wc.heap.size) (by repeat (first | with_reducible exact D8.out | with_reducible exact D4.out | with_reducible exact DZ.out | with_reducible refine below_al ?_ | with_reducible refine below_drew ?_)) gr7 (HasO.own1 (B := wc.heap.size) (T := 3) (v := .int .i64 0) (by repeat (first | with_reducible refine HasO.drew ?_ | with_reducible exact HasO.new _ _)) (by simp)) (Nat.le_refl _) (below_sz (a := wc) (by repeat (first | with_reducible exact D8.out | with_reducible exact D4.out | with_reducible exact DZ.out | with_reducible refine below_al ?_ | with_reducible refine below_drew ?_)))); obtain ⟨g7, c7, rfl, -, -⟩ := own_block1 own7 (by omega); have HO7 := hid own7; clear own7 gr7 loc7)
                    | (go_at_call 27; refine (derives_any _ sa SX (some ⟨g7, 0, none⟩) (1 + Ss.length) c7 (0 :: Ss) x (HCZ.out _ D4.out).la.ar.vw HOK.out (uses_small HOK.out) (SlA.of_own HO7.out).2 (by have := HLS.out; omega)).mono ?_; rintro e8 w8 ⟨rfl, b8⟩; have D8 := hid (D4.out.trans (b8.mono D4.out.size))))
                  all_goals
                    go_wp2_with fail
                    go_meet
                    exact ⟨by rw [HD1.out], by rw [HD2.out], D8.out⟩
                case rest =>
                  obtain ⟨rfl, rfl, hb9⟩ := hcut
                  have HB9 := hid (HB8.out.trans (hb9.mono HB8.out.size))
                  clear hb9 HCZ DZ k0 HC8
                  go_wp2_with fail
                  go_roundw
                  case rel => exact ⟨i + 1, by go_num, by omega, hid (HBW.out.trans (HB9.out.mono HBW.out.size))⟩
                  case measure => simp [intOf]; omega
          · obtain rfl : i = Sn.length := by omega
            have HF := hid (HB1.out.trans ((HC2.out.ext HBW.out).la.bl.mono HB1.out.size))
            go_wp2_with fail
            go_ret
            exact ⟨rfl, HF.out⟩
end Go.Proofs.YtgnbiolckhdfeaaDoor

