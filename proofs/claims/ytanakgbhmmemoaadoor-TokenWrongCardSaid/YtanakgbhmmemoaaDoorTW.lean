/- token's law: TokenWrong, walked. -/
import Derived.Test.YtanakgbhmmemoaaDoorTC
import Derived.Test.YtanakgbhmmemoaaDoorPW
import Derived.Test.YtanakgbhmmemoaaDoorPC
namespace Go.Proofs.YtanakgbhmmemoaaDoor
open Go.RowKit Go.KK Go.Shelf Go.Maps
set_option linter.unusedVariables false
set_option linter.unusedSimpArgs false

theorem wmod5 (x : Int) : 1 ≤ RowKit.wrap64 (1 + (RowKit.wrap64 (x.tmod 5 + 5)).tmod 5) ∧ RowKit.wrap64 (1 + (RowKit.wrap64 (x.tmod 5 + 5)).tmod 5) ≤ 5 := by
  have h1 : -5 < x.tmod 5 := Int.lt_tmod_of_pos x (by decide)
  have h2 : x.tmod 5 < 5 := Int.tmod_lt_of_pos x (by decide)
  rw [wrap_id (y := x.tmod 5 + 5) (by omega) (by omega)]
  have h3 : 0 ≤ (x.tmod 5 + 5).tmod 5 := Int.tmod_nonneg _ (by omega)
  have h4 : (x.tmod 5 + 5).tmod 5 < 5 := Int.tmod_lt_of_pos _ (by decide)
  rw [wrap_id (by omega) (by omega)]
  omega
set_option maxHeartbeats 8000000 in
set_option maxRecDepth 100000 in
/-- From the arenas on. -/
theorem wrong_go (who0 nonce0 draw : Int) (w : World) (hT : Tb w.heap.size w) (h1 : I64 who0) (h2 : I64 nonce0) (h3 : I64 draw) : Calls Tryd.prog 5 #[.int .i64 who0, .int .i64 nonce0, .int .i64 draw] w fun e w' => e = .returned (.bool true) ∧ Below w.heap.size w w' := by
  have HT := hid hT
  have HLV := hid (live_any w hT)
  clear hT
  by_cases hbad : draw < 0 ∨ 1125899906842624 < draw
  · have hq : draw < 0 ∨ (¬ draw < 0 ∧ 1125899906842624 < draw) := by omega
    clear hbad h1 h2 h3
    rcases hq with hq | ⟨hq, hq2⟩
    all_goals
      go_enter Tryd.func5, Tryd.ntmps5
      go_wp2_with fail
      refine HLV.out.mono ?_
      rintro e w1 ⟨rfl, b1⟩
      have HB := hid b1
      clear b1
      go_wp2_with fail
      go_ret
      exact ⟨rfl, HB.out⟩
  have hd0 : ¬ draw < 0 := by omega
  have hd1 : ¬ 1125899906842624 < draw := by omega
  clear hbad
  have hdI := hid (show I64 (draw + 100) from ⟨by omega, by omega⟩)
  have hdI1 := hid (show I64 (draw + 101) from ⟨by omega, by omega⟩)
  have hw5 := wmod5 who0
  have hn5 := wmod5 nonce0
  clear h1 h2 h3
  go_enter Tryd.func5, Tryd.ntmps5
  go_wp2_with fail
  refine HLV.out.mono ?_
  rintro e w1 ⟨rfl, b1⟩
  have HB := hid b1
  clear b1
  go_upto_region 6 with fail
  generalize RowKit.wrap64 (1 + (RowKit.wrap64 (who0.tmod 5 + 5)).tmod 5) = who at *
  generalize RowKit.wrap64 (1 + (RowKit.wrap64 (nonce0.tmod 5 + 5)).tmod 5) = N at *
  obtain ⟨hW1, hW2⟩ := hw5
  obtain ⟨hN1, hN2⟩ := hn5
  have hd12 : 12 ≤ draw + 100 := by omega
  have HE := hid (show draw + 101 = draw + 100 + 1 by omega)
  have HOW := hid (show MtO ⟨0, 3, [(who, 1)], []⟩ from mtO_one (i64_lit (by decide) (by decide)) (i64_lit (by decide) (by decide)) (by decide) .nil (by decide) (fun i h => by simp at h))
  have HWI := hid (show I64 who from ⟨by omega, by omega⟩)
  have HD := hdI; have HD1 := hdI1
  clear hdI hdI1
  go_wp2_with fail
  refine (two_any _ (Tb.up (HT.out.on HB.out) HB.out.size)).mono ?_
  rintro e w2 ⟨sa, sb, rfl, ht⟩
  obtain ⟨Z0, hl⟩ := LA.of_two ht
  have LX := hid (show LA w w2 Z0 sa (atoms 12) from ⟨hl.ar, fun b hb => Nat.le_trans HB.out.size (hl.z b hb), HB.out.trans (hl.bl.mono HB.out.size)⟩)
  have LC := LX
  clear hl ht LX HB
  go_wp2_with fail
  refine (l_new LC.out (m := ⟨0, 3, [], []⟩) w_new0 rfl rfl).mono ?_
  rintro e u11 ⟨g11, p11, rfl, hl, hv, hm, -⟩
  obtain ⟨a11, c11, b11, d11, rfl, rfl⟩ := hm.sh 0 0 rfl rfl
  have LX := hid hl; have MR := hid hm; have MV := hid hv; clear LC hl hm hv; have LC := LX; clear LX
  clear MV
  go_upto_region 8 with fail
  have L12 := hid (LC.out.alloc (.cells #[.int .i64 0, .int .i64 3, .slice a11 0 c11, .slice b11 0 d11] 31))
  have M0 := hid (MB.new (m := ⟨0, 3, [], []⟩) MR.out LC.out.ar.zlt LC.out.sz)
  clear LC MR; have LC := L12; clear L12
  change Hid (MB (u11.alloc (.cells #[.int .i64 0, .int .i64 3, .slice a11 0 c11, .slice b11 0 d11] 31)) _ _ u11.heap.size _ _ _) at M0
  generalize hb12 : u11.heap.size = b0 at *
  generalize u11.alloc (.cells #[.int .i64 0, .int .i64 3, .slice a11 0 c11, .slice b11 0 d11] 31) = V12 at *
  clear hb12
  go_wp2_with fail
  refine (l_new LC.out (m := ⟨9, 3, [], []⟩) w_new9 rfl rfl).mono ?_
  rintro e u13 ⟨g13, p13, rfl, hl, hv, hm, -⟩
  obtain ⟨a13, c13, b13, d13, rfl, rfl⟩ := hm.sh 0 0 rfl rfl
  have LX := hid hl; have MR := hid hm; have MV := hid hv; clear LC hl hm hv; have LC := LX; clear LX
  have M0x := hid (M0.out.mv MV.out); clear M0; have M0 := M0x; clear M0x
  clear MV
  go_upto_region 9 with fail
  have L14 := hid (LC.out.alloc (.cells #[.int .i64 9, .int .i64 3, .slice a13 0 c13, .slice b13 0 d13] 31))
  have M9 := hid (MB.new (m := ⟨9, 3, [], []⟩) MR.out LC.out.ar.zlt LC.out.sz)
  have M0x := hid (M0.out.alloc (.cells #[.int .i64 9, .int .i64 3, .slice a13 0 c13, .slice b13 0 d13] 31)); clear M0; have M0 := M0x; clear M0x
  clear LC MR; have LC := L14; clear L14
  change Hid (MB (u13.alloc (.cells #[.int .i64 9, .int .i64 3, .slice a13 0 c13, .slice b13 0 d13] 31)) _ _ u13.heap.size _ _ _) at M9
  generalize hb14 : u13.heap.size = b9 at *
  generalize u13.alloc (.cells #[.int .i64 9, .int .i64 3, .slice a13 0 c13, .slice b13 0 d13] 31) = V14 at *
  clear hb14
  go_wp2_with fail
  refine (l_ask LC.out HT.out HD.out (w_ask hd12 hN1 hN2)).mono ?_
  rintro e u15 ⟨Z15, rfl, hl, hv⟩
  have LX := hid hl; have MV := hid hv; clear LC hl hv; have LC := LX; clear LX
  have M0x := hid (M0.out.mv MV.out); clear M0; have M0 := M0x; clear M0x
  have M9x := hid (M9.out.mv MV.out); clear M9; have M9 := M9x; clear M9x
  clear MV
  obtain ⟨k0, k1, k2, k3⟩ := M0.out.cells
  go_wp2_with fail
  refine (l_iss LC.out HT.out M0.out.mt (mtO_mt (i64_lit (by decide) (by decide)) (i64_lit (by decide) (by decide))) (i64_lit (by decide) (by decide)) HWI.out (m' := ⟨0, 3, [(who, 1)], []⟩) (w_iss hN1 hN2 hW1 hW2)).mono ?_
  clear k0 k1 k2 k3
  rintro e u16 ⟨Z16, g16, p16, rfl, hl, hv, hm, -⟩
  obtain ⟨a16, c16, b16, d16, rfl, rfl⟩ := hm.sh 1 0 rfl rfl
  have LX := hid hl; have MR := hid hm; have MV := hid hv; clear LC hl hm hv; have LC := LX; clear LX
  have M0x := hid (M0.out.mv MV.out); clear M0; have M0 := M0x; clear M0x
  have M9x := hid (M9.out.mv MV.out); clear M9; have M9 := M9x; clear M9x
  clear MV
  go_upto_region 11 with fail
  have L17 := hid (LC.out.alloc (.cells #[.int .i64 0, .int .i64 3, .slice a16 1 c16, .slice b16 0 d16] 31))
  have MN := hid (MB.new (m := ⟨0, 3, [(who, 1)], []⟩) MR.out LC.out.ar.zlt LC.out.sz)
  have M0x := hid (M0.out.alloc (.cells #[.int .i64 0, .int .i64 3, .slice a16 1 c16, .slice b16 0 d16] 31)); clear M0; have M0 := M0x; clear M0x
  have M9x := hid (M9.out.alloc (.cells #[.int .i64 0, .int .i64 3, .slice a16 1 c16, .slice b16 0 d16] 31)); clear M9; have M9 := M9x; clear M9x
  clear LC MR; have LC := L17; clear L17
  change Hid (MB (u16.alloc (.cells #[.int .i64 0, .int .i64 3, .slice a16 1 c16, .slice b16 0 d16] 31)) _ _ u16.heap.size _ _ _) at MN
  generalize hb17 : u16.heap.size = bn at *
  generalize u16.alloc (.cells #[.int .i64 0, .int .i64 3, .slice a16 1 c16, .slice b16 0 d16] 31) = V17 at *
  clear hb17
  obtain ⟨k0, k1, k2, k3⟩ := M9.out.cells
  go_wp2_with fail
  refine (l_iss LC.out HT.out M9.out.mt (mtO_mt (i64_lit (by decide) (by decide)) (i64_lit (by decide) (by decide))) (i64_lit (by decide) (by decide)) HWI.out (m' := ⟨9, 3, [(who, 1)], []⟩) (w_iss9 hN1 hN2 hW1 hW2)).mono ?_
  clear k0 k1 k2 k3
  rintro e u18 ⟨Z18, g18, p18, rfl, hl, hv, hm, -⟩
  obtain ⟨a18, c18, b18, d18, rfl, rfl⟩ := hm.sh 1 0 rfl rfl
  have LX := hid hl; have MR := hid hm; have MV := hid hv; clear LC hl hm hv; have LC := LX; clear LX
  have M0x := hid (M0.out.mv MV.out); clear M0; have M0 := M0x; clear M0x
  have M9x := hid (M9.out.mv MV.out); clear M9; have M9 := M9x; clear M9x
  have MNx := hid (MN.out.mv MV.out); clear MN; have MN := MNx; clear MNx
  clear MV
  go_upto_region 12 with fail
  have L19 := hid (LC.out.alloc (.cells #[.int .i64 9, .int .i64 3, .slice a18 1 c18, .slice b18 0 d18] 31))
  have MR9 := hid (MB.new (m := ⟨9, 3, [(who, 1)], []⟩) MR.out LC.out.ar.zlt LC.out.sz)
  have M0x := hid (M0.out.alloc (.cells #[.int .i64 9, .int .i64 3, .slice a18 1 c18, .slice b18 0 d18] 31)); clear M0; have M0 := M0x; clear M0x
  have M9x := hid (M9.out.alloc (.cells #[.int .i64 9, .int .i64 3, .slice a18 1 c18, .slice b18 0 d18] 31)); clear M9; have M9 := M9x; clear M9x
  have MNx := hid (MN.out.alloc (.cells #[.int .i64 9, .int .i64 3, .slice a18 1 c18, .slice b18 0 d18] 31)); clear MN; have MN := MNx; clear MNx
  clear LC MR; have LC := L19; clear L19
  change Hid (MB (u18.alloc (.cells #[.int .i64 9, .int .i64 3, .slice a18 1 c18, .slice b18 0 d18] 31)) _ _ u18.heap.size _ _ _) at MR9
  generalize hb19 : u18.heap.size = br at *
  generalize u18.alloc (.cells #[.int .i64 9, .int .i64 3, .slice a18 1 c18, .slice b18 0 d18] 31) = V19 at *
  clear hb19
  go_wp2_with fail
  refine (l_fin LC.out HT.out HD.out (w_fin hd12 hN1 hN2)).mono ?_
  rintro e u20 ⟨Z20, rfl, hl, hv⟩
  have LX := hid hl; have MV := hid hv; clear LC hl hv; have LC := LX; clear LX
  have M0x := hid (M0.out.mv MV.out); clear M0; have M0 := M0x; clear M0x
  have M9x := hid (M9.out.mv MV.out); clear M9; have M9 := M9x; clear M9x
  have MNx := hid (MN.out.mv MV.out); clear MN; have MN := MNx; clear MNx
  have MR9x := hid (MR9.out.mv MV.out); clear MR9; have MR9 := MR9x; clear MR9x
  clear MV
  go_wp2_with fail
  refine (l_fin LC.out HT.out HD.out (w_fin9 hd12 hN1 hN2)).mono ?_
  rintro e u21 ⟨Z21, rfl, hl, hv⟩
  have LX := hid hl; have MV := hid hv; clear LC hl hv; have LC := LX; clear LX
  have M0x := hid (M0.out.mv MV.out); clear M0; have M0 := M0x; clear M0x
  have M9x := hid (M9.out.mv MV.out); clear M9; have M9 := M9x; clear M9x
  have MNx := hid (MN.out.mv MV.out); clear MN; have MN := MNx; clear MNx
  have MR9x := hid (MR9.out.mv MV.out); clear MR9; have MR9 := MR9x; clear MR9x
  clear MV
  obtain ⟨k0, k1, k2, k3⟩ := MN.out.cells
  go_wp2_with fail
  refine (l_spend LC.out MN.out.mt HOW.out (m' := ⟨0, 0, [], []⟩) (w_sp1 hN1 hN2)).mono ?_
  clear k0 k1 k2 k3
  rintro e u22 ⟨g22, p22, rfl, hl, hv, hm, -⟩
  obtain ⟨a22, c22, b22, d22, rfl, rfl⟩ := hm.sh 0 0 rfl rfl
  have LX := hid hl; have MR := hid hm; have MV := hid hv; clear LC hl hm hv; have LC := LX; clear LX
  have M0x := hid (M0.out.mv MV.out); clear M0; have M0 := M0x; clear M0x
  have M9x := hid (M9.out.mv MV.out); clear M9; have M9 := M9x; clear M9x
  have MNx := hid (MN.out.mv MV.out); clear MN; have MN := MNx; clear MNx
  have MR9x := hid (MR9.out.mv MV.out); clear MR9; have MR9 := MR9x; clear MR9x
  clear MV
  go_upto_region 17 with fail
  have L23 := hid (LC.out.alloc (.cells #[.int .i64 0, .int .i64 0, .slice a22 0 c22, .slice b22 0 d22] 31))
  have MZ1 := hid (MB.new (m := ⟨0, 0, [], []⟩) MR.out LC.out.ar.zlt LC.out.sz)
  have M0x := hid (M0.out.alloc (.cells #[.int .i64 0, .int .i64 0, .slice a22 0 c22, .slice b22 0 d22] 31)); clear M0; have M0 := M0x; clear M0x
  have M9x := hid (M9.out.alloc (.cells #[.int .i64 0, .int .i64 0, .slice a22 0 c22, .slice b22 0 d22] 31)); clear M9; have M9 := M9x; clear M9x
  have MNx := hid (MN.out.alloc (.cells #[.int .i64 0, .int .i64 0, .slice a22 0 c22, .slice b22 0 d22] 31)); clear MN; have MN := MNx; clear MNx
  have MR9x := hid (MR9.out.alloc (.cells #[.int .i64 0, .int .i64 0, .slice a22 0 c22, .slice b22 0 d22] 31)); clear MR9; have MR9 := MR9x; clear MR9x
  clear LC MR; have LC := L23; clear L23
  change Hid (MB (u22.alloc (.cells #[.int .i64 0, .int .i64 0, .slice a22 0 c22, .slice b22 0 d22] 31)) _ _ u22.heap.size _ _ _) at MZ1
  generalize hb23 : u22.heap.size = bz1 at *
  generalize u22.alloc (.cells #[.int .i64 0, .int .i64 0, .slice a22 0 c22, .slice b22 0 d22] 31) = V23 at *
  clear hb23
  obtain ⟨k0, k1, k2, k3⟩ := MN.out.cells
  go_wp2_with fail
  refine (l_spend LC.out MN.out.mt HOW.out (m' := ⟨0, 0, [], []⟩) (w_sp2 hN1 hN2)).mono ?_
  clear k0 k1 k2 k3
  rintro e u24 ⟨g24, p24, rfl, hl, hv, hm, -⟩
  obtain ⟨a24, c24, b24, d24, rfl, rfl⟩ := hm.sh 0 0 rfl rfl
  have LX := hid hl; have MR := hid hm; have MV := hid hv; clear LC hl hm hv; have LC := LX; clear LX
  have M0x := hid (M0.out.mv MV.out); clear M0; have M0 := M0x; clear M0x
  have M9x := hid (M9.out.mv MV.out); clear M9; have M9 := M9x; clear M9x
  have MNx := hid (MN.out.mv MV.out); clear MN; have MN := MNx; clear MNx
  have MR9x := hid (MR9.out.mv MV.out); clear MR9; have MR9 := MR9x; clear MR9x
  have MZ1x := hid (MZ1.out.mv MV.out); clear MZ1; have MZ1 := MZ1x; clear MZ1x
  clear MV
  go_upto_region 18 with fail
  have L25 := hid (LC.out.alloc (.cells #[.int .i64 0, .int .i64 0, .slice a24 0 c24, .slice b24 0 d24] 31))
  have MZ2 := hid (MB.new (m := ⟨0, 0, [], []⟩) MR.out LC.out.ar.zlt LC.out.sz)
  have M0x := hid (M0.out.alloc (.cells #[.int .i64 0, .int .i64 0, .slice a24 0 c24, .slice b24 0 d24] 31)); clear M0; have M0 := M0x; clear M0x
  have M9x := hid (M9.out.alloc (.cells #[.int .i64 0, .int .i64 0, .slice a24 0 c24, .slice b24 0 d24] 31)); clear M9; have M9 := M9x; clear M9x
  have MNx := hid (MN.out.alloc (.cells #[.int .i64 0, .int .i64 0, .slice a24 0 c24, .slice b24 0 d24] 31)); clear MN; have MN := MNx; clear MNx
  have MR9x := hid (MR9.out.alloc (.cells #[.int .i64 0, .int .i64 0, .slice a24 0 c24, .slice b24 0 d24] 31)); clear MR9; have MR9 := MR9x; clear MR9x
  have MZ1x := hid (MZ1.out.alloc (.cells #[.int .i64 0, .int .i64 0, .slice a24 0 c24, .slice b24 0 d24] 31)); clear MZ1; have MZ1 := MZ1x; clear MZ1x
  clear LC MR; have LC := L25; clear L25
  change Hid (MB (u24.alloc (.cells #[.int .i64 0, .int .i64 0, .slice a24 0 c24, .slice b24 0 d24] 31)) _ _ u24.heap.size _ _ _) at MZ2
  generalize hb25 : u24.heap.size = bz2 at *
  generalize u24.alloc (.cells #[.int .i64 0, .int .i64 0, .slice a24 0 c24, .slice b24 0 d24] 31) = V25 at *
  clear hb25
  obtain ⟨k0, k1, k2, k3⟩ := MN.out.cells
  go_wp2_with fail
  refine (l_spend LC.out MN.out.mt HOW.out (m' := ⟨0, 0, [], []⟩) (w_sp3 hN1 hN2)).mono ?_
  clear k0 k1 k2 k3
  rintro e u26 ⟨g26, p26, rfl, hl, hv, hm, -⟩
  obtain ⟨a26, c26, b26, d26, rfl, rfl⟩ := hm.sh 0 0 rfl rfl
  have LX := hid hl; have MR := hid hm; have MV := hid hv; clear LC hl hm hv; have LC := LX; clear LX
  have M0x := hid (M0.out.mv MV.out); clear M0; have M0 := M0x; clear M0x
  have M9x := hid (M9.out.mv MV.out); clear M9; have M9 := M9x; clear M9x
  have MNx := hid (MN.out.mv MV.out); clear MN; have MN := MNx; clear MNx
  have MR9x := hid (MR9.out.mv MV.out); clear MR9; have MR9 := MR9x; clear MR9x
  have MZ1x := hid (MZ1.out.mv MV.out); clear MZ1; have MZ1 := MZ1x; clear MZ1x
  have MZ2x := hid (MZ2.out.mv MV.out); clear MZ2; have MZ2 := MZ2x; clear MZ2x
  clear MV
  go_upto_region 19 with fail
  have L27 := hid (LC.out.alloc (.cells #[.int .i64 0, .int .i64 0, .slice a26 0 c26, .slice b26 0 d26] 31))
  have MZ3 := hid (MB.new (m := ⟨0, 0, [], []⟩) MR.out LC.out.ar.zlt LC.out.sz)
  have M0x := hid (M0.out.alloc (.cells #[.int .i64 0, .int .i64 0, .slice a26 0 c26, .slice b26 0 d26] 31)); clear M0; have M0 := M0x; clear M0x
  have M9x := hid (M9.out.alloc (.cells #[.int .i64 0, .int .i64 0, .slice a26 0 c26, .slice b26 0 d26] 31)); clear M9; have M9 := M9x; clear M9x
  have MNx := hid (MN.out.alloc (.cells #[.int .i64 0, .int .i64 0, .slice a26 0 c26, .slice b26 0 d26] 31)); clear MN; have MN := MNx; clear MNx
  have MR9x := hid (MR9.out.alloc (.cells #[.int .i64 0, .int .i64 0, .slice a26 0 c26, .slice b26 0 d26] 31)); clear MR9; have MR9 := MR9x; clear MR9x
  have MZ1x := hid (MZ1.out.alloc (.cells #[.int .i64 0, .int .i64 0, .slice a26 0 c26, .slice b26 0 d26] 31)); clear MZ1; have MZ1 := MZ1x; clear MZ1x
  have MZ2x := hid (MZ2.out.alloc (.cells #[.int .i64 0, .int .i64 0, .slice a26 0 c26, .slice b26 0 d26] 31)); clear MZ2; have MZ2 := MZ2x; clear MZ2x
  clear LC MR; have LC := L27; clear L27
  change Hid (MB (u26.alloc (.cells #[.int .i64 0, .int .i64 0, .slice a26 0 c26, .slice b26 0 d26] 31)) _ _ u26.heap.size _ _ _) at MZ3
  generalize hb27 : u26.heap.size = bz3 at *
  generalize u26.alloc (.cells #[.int .i64 0, .int .i64 0, .slice a26 0 c26, .slice b26 0 d26] 31) = V27 at *
  clear hb27
  go_wp2_with fail
  refine (l_fin LC.out HT.out HD1.out (w_fin1' HE.out hd12 hN1 hN2)).mono ?_
  rintro e u28 ⟨Z28, rfl, hl, hv⟩
  have LX := hid hl; have MV := hid hv; clear LC hl hv; have LC := LX; clear LX
  have M0x := hid (M0.out.mv MV.out); clear M0; have M0 := M0x; clear M0x
  have M9x := hid (M9.out.mv MV.out); clear M9; have M9 := M9x; clear M9x
  have MNx := hid (MN.out.mv MV.out); clear MN; have MN := MNx; clear MNx
  have MR9x := hid (MR9.out.mv MV.out); clear MR9; have MR9 := MR9x; clear MR9x
  have MZ1x := hid (MZ1.out.mv MV.out); clear MZ1; have MZ1 := MZ1x; clear MZ1x
  have MZ2x := hid (MZ2.out.mv MV.out); clear MZ2; have MZ2 := MZ2x; clear MZ2x
  have MZ3x := hid (MZ3.out.mv MV.out); clear MZ3; have MZ3 := MZ3x; clear MZ3x
  clear MV
  obtain ⟨k0, k1, k2, k3⟩ := MN.out.cells
  go_wp2_with fail
  refine (l_spend LC.out MN.out.mt HOW.out (m' := ⟨0, 3, [(who, 1)], [N]⟩) (w_sp4 hN1 hN2)).mono ?_
  clear k0 k1 k2 k3
  rintro e u29 ⟨g29, p29, rfl, hl, hv, hm, -⟩
  obtain ⟨a29, c29, b29, d29, rfl, rfl⟩ := hm.sh 1 1 rfl rfl
  have LX := hid hl; have MR := hid hm; have MV := hid hv; clear LC hl hm hv; have LC := LX; clear LX
  have M0x := hid (M0.out.mv MV.out); clear M0; have M0 := M0x; clear M0x
  have M9x := hid (M9.out.mv MV.out); clear M9; have M9 := M9x; clear M9x
  have MNx := hid (MN.out.mv MV.out); clear MN; have MN := MNx; clear MNx
  have MR9x := hid (MR9.out.mv MV.out); clear MR9; have MR9 := MR9x; clear MR9x
  have MZ1x := hid (MZ1.out.mv MV.out); clear MZ1; have MZ1 := MZ1x; clear MZ1x
  have MZ2x := hid (MZ2.out.mv MV.out); clear MZ2; have MZ2 := MZ2x; clear MZ2x
  have MZ3x := hid (MZ3.out.mv MV.out); clear MZ3; have MZ3 := MZ3x; clear MZ3x
  clear MV
  go_upto_region 21 with fail
  have L30 := hid (LC.out.alloc (.cells #[.int .i64 0, .int .i64 3, .slice a29 1 c29, .slice b29 1 d29] 31))
  have MF := hid (MB.new (m := ⟨0, 3, [(who, 1)], [N]⟩) MR.out LC.out.ar.zlt LC.out.sz)
  have M0x := hid (M0.out.alloc (.cells #[.int .i64 0, .int .i64 3, .slice a29 1 c29, .slice b29 1 d29] 31)); clear M0; have M0 := M0x; clear M0x
  have M9x := hid (M9.out.alloc (.cells #[.int .i64 0, .int .i64 3, .slice a29 1 c29, .slice b29 1 d29] 31)); clear M9; have M9 := M9x; clear M9x
  have MNx := hid (MN.out.alloc (.cells #[.int .i64 0, .int .i64 3, .slice a29 1 c29, .slice b29 1 d29] 31)); clear MN; have MN := MNx; clear MNx
  have MR9x := hid (MR9.out.alloc (.cells #[.int .i64 0, .int .i64 3, .slice a29 1 c29, .slice b29 1 d29] 31)); clear MR9; have MR9 := MR9x; clear MR9x
  have MZ1x := hid (MZ1.out.alloc (.cells #[.int .i64 0, .int .i64 3, .slice a29 1 c29, .slice b29 1 d29] 31)); clear MZ1; have MZ1 := MZ1x; clear MZ1x
  have MZ2x := hid (MZ2.out.alloc (.cells #[.int .i64 0, .int .i64 3, .slice a29 1 c29, .slice b29 1 d29] 31)); clear MZ2; have MZ2 := MZ2x; clear MZ2x
  have MZ3x := hid (MZ3.out.alloc (.cells #[.int .i64 0, .int .i64 3, .slice a29 1 c29, .slice b29 1 d29] 31)); clear MZ3; have MZ3 := MZ3x; clear MZ3x
  clear LC MR; have LC := L30; clear L30
  change Hid (MB (u29.alloc (.cells #[.int .i64 0, .int .i64 3, .slice a29 1 c29, .slice b29 1 d29] 31)) _ _ u29.heap.size _ _ _) at MF
  generalize hb30 : u29.heap.size = bf at *
  generalize u29.alloc (.cells #[.int .i64 0, .int .i64 3, .slice a29 1 c29, .slice b29 1 d29] 31) = V30 at *
  clear hb30
  obtain ⟨k0, k1, k2, k3⟩ := MN.out.cells
  go_wp2_with fail
  refine (l_had (m := ⟨0, 3, [(who, 1)], []⟩) (MN.out.alloc (.cells #[.int .i64 who] 3)).mt HOW.out (l := [who]) (sla_row #[.int .i64 who] (by unfold maxLen; simp)) (by simp) w_had1).mono ?_
  rintro e uf ⟨rfl, hb⟩
  have hbf := ((Below.refl _ _).alloc (Nat.le_refl _) (.cells #[.int .i64 who] 3)).trans (hb.mono (by simp))
  have HB := hid (LC.out.bl.trans (hbf.mono LC.out.sz))
  have M0x := hid (M0.out.ext hbf)
  clear hb hbf k0 k1 k2 k3
  obtain ⟨k0, k1, k2, k3⟩ := M0x.out.cells
  go_wp2_with fail
  refine (l_had (m := ⟨0, 3, [], []⟩) (M0x.out.alloc (.cells #[.int .i64 who] 3)).mt (mtO_mt (i64_lit (by decide) (by decide)) (i64_lit (by decide) (by decide))) (l := [who]) (sla_row #[.int .i64 who] (by unfold maxLen; simp)) (by simp) w_had0).mono ?_
  rintro e ug ⟨rfl, hb⟩
  have HB2 := hid (HB.out.trans ((((Below.refl _ _).alloc (Nat.le_refl _) (.cells #[.int .i64 who] 3)).trans (hb.mono (by simp))).mono HB.out.size))
  clear hb k0 k1 k2 k3
  go_wp2_with fail
  go_ret
  exact ⟨rfl, HB2.out⟩
end Go.Proofs.YtanakgbhmmemoaaDoor
