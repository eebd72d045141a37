/- token's law: live. -/
import Derived.Test.YtanakgbhmmemoaaDoorTB
namespace Go.Proofs.YtanakgbhmmemoaaDoor
open Go.RowKit Go.KK Go.Shelf Go.Maps
set_option linter.unusedVariables false
set_option linter.unusedSimpArgs false

def lvA : List ND := atoms 12 ++ [atN 50, ndN 12 [1, 12]]
def lvB : List ND := lvA ++ [ndN 10 [0, 13]]
def lvC : List ND := lvB ++ [ndN 10 [0, 1]]
theorem lv_new : newF (atoms 12) 0 1 = (⟨0, 1, [], []⟩, 0) := by decide +kernel
theorem lv_ask : askF (atoms 12) 1 50 = (lvA, 13, 0) := by decide +kernel
theorem lv_iss : issF lvA ⟨0, 1, [], []⟩ 2 13 = (lvB, 14, ⟨0, 1, [(2, 1)], []⟩, 0) := by decide +kernel
theorem lv_iss2 : issF lvB ⟨0, 1, [(2, 1)], []⟩ 2 13 = (lvB, 0, ⟨0, 0, [], []⟩, 82) := by decide +kernel
theorem lv_fin : finF lvB 14 50 = (lvC, 15, 0) := by decide +kernel
theorem lv_sp : spF lvC ⟨0, 1, [(2, 1)], []⟩ 1 15 = (⟨0, 1, [(2, 1)], [1]⟩, 0) := by decide +kernel
theorem lv_sp2 : spF lvC ⟨0, 1, [(2, 1)], [1]⟩ 1 15 = (⟨0, 0, [], []⟩, 81) := by decide +kernel
theorem lv_had : hadF [(2, 1)] [2, 2] = 2 := by decide +kernel
theorem lm1 : MtO ⟨0, 1, [(2, 1)], []⟩ := mtO_one (i64_lit (by decide) (by decide)) (i64_lit (by decide) (by decide)) (by decide) .nil (by decide) (fun i h => by simp at h)
theorem lm2 : MtO ⟨0, 1, [(2, 1)], [1]⟩ := mtO_one (i64_lit (by decide) (by decide)) (i64_lit (by decide) (by decide)) (by decide) (.cons (fun c h => by simp at h) .nil) (by decide) (fun i h => by simp only [List.mem_singleton] at h; subst h; exact i64_lit (by decide) (by decide))
set_option maxHeartbeats 4000000 in
set_option maxRecDepth 100000 in
theorem live_any (w : World) (hT : Tb w.heap.size w) : Calls Tryd.prog 8 #[] w fun e w' => e = .returned (.bool true) ∧ Below w.heap.size w w' := by
  have HT := hid hT
  clear hT
  go_enter Tryd.func8, Tryd.ntmps8
  go_wp2_with fail
  refine (two_any w HT.out).mono ?_
  rintro e w1 ⟨sa, sb, rfl, ht⟩
  obtain ⟨Z0, hl⟩ := LA.of_two ht
  have LC := hid hl
  clear hl ht
  go_wp2_with fail
  refine (l_new LC.out (m := ⟨0, 1, [], []⟩) lv_new rfl rfl).mono ?_
  rintro e u1 ⟨g1, p1, rfl, hl, hv, hm, -⟩
  obtain ⟨a1, c1, b1, d1, rfl, rfl⟩ := hm.sh 0 0 rfl rfl
  have LX := hid hl; have MR := hid hm; have MV := hid hv; clear LC hl hm hv; have LC := LX; clear LX
  clear MV
  go_upto_region 5 with fail
  have L2 := hid (LC.out.alloc (.cells #[.int .i64 0, .int .i64 1, .slice a1 0 c1, .slice b1 0 d1] 31))
  have M0 := hid (MB.new (m := ⟨0, 1, [], []⟩) MR.out LC.out.ar.zlt LC.out.sz)
  clear LC MR; have LC := L2; clear L2
  change Hid (MB (u1.alloc (.cells #[.int .i64 0, .int .i64 1, .slice a1 0 c1, .slice b1 0 d1] 31)) _ _ u1.heap.size _ _ _) at M0
  generalize hb2 : u1.heap.size = b0 at *
  generalize u1.alloc (.cells #[.int .i64 0, .int .i64 1, .slice a1 0 c1, .slice b1 0 d1] 31) = V2 at *
  clear hb2
  go_wp2_with fail
  refine (l_ask LC.out HT.out (i64_lit (by decide) (by decide)) lv_ask).mono ?_
  rintro e u3 ⟨Z3, rfl, hl, hv⟩
  have LX := hid hl; have MV := hid hv; clear LC hl hv; have LC := LX; clear LX
  have M0x := hid (M0.out.mv MV.out); clear M0; have M0 := M0x; clear M0x
  clear MV
  obtain ⟨k0, k1, k2, k3⟩ := M0.out.cells
  go_wp2_with fail
  refine (l_iss LC.out HT.out M0.out.mt (mtO_mt (i64_lit (by decide) (by decide)) (i64_lit (by decide) (by decide))) (i64_lit (by decide) (by decide)) (i64_lit (by decide) (by decide)) (m' := ⟨0, 1, [(2, 1)], []⟩) lv_iss).mono ?_
  clear k0 k1 k2 k3
  rintro e u4 ⟨Z4, g4, p4, rfl, hl, hv, hm, -⟩
  obtain ⟨a4, c4, b4, d4, rfl, rfl⟩ := hm.sh 1 0 rfl rfl
  have LX := hid hl; have MR := hid hm; have MV := hid hv; clear LC hl hm hv; have LC := LX; clear LX
  have M0x := hid (M0.out.mv MV.out); clear M0; have M0 := M0x; clear M0x
  clear MV
  go_upto_region 7 with fail
  have L5 := hid (LC.out.alloc (.cells #[.int .i64 0, .int .i64 1, .slice a4 1 c4, .slice b4 0 d4] 31))
  have M1 := hid (MB.new (m := ⟨0, 1, [(2, 1)], []⟩) MR.out LC.out.ar.zlt LC.out.sz)
  have M0x := hid (M0.out.alloc (.cells #[.int .i64 0, .int .i64 1, .slice a4 1 c4, .slice b4 0 d4] 31)); clear M0; have M0 := M0x; clear M0x
  clear LC MR; have LC := L5; clear L5
  change Hid (MB (u4.alloc (.cells #[.int .i64 0, .int .i64 1, .slice a4 1 c4, .slice b4 0 d4] 31)) _ _ u4.heap.size _ _ _) at M1
  generalize hb5 : u4.heap.size = b1 at *
  generalize u4.alloc (.cells #[.int .i64 0, .int .i64 1, .slice a4 1 c4, .slice b4 0 d4] 31) = V5 at *
  clear hb5
  obtain ⟨k0, k1, k2, k3⟩ := M1.out.cells
  go_wp2_with fail
  refine (l_iss LC.out HT.out M1.out.mt lm1 (i64_lit (by decide) (by decide)) (i64_lit (by decide) (by decide)) (m' := ⟨0, 0, [], []⟩) lv_iss2).mono ?_
  clear k0 k1 k2 k3
  rintro e u6 ⟨Z6, g6, p6, rfl, hl, hv, hm, -⟩
  obtain ⟨a6, c6, b6, d6, rfl, rfl⟩ := hm.sh 0 0 rfl rfl
  have LX := hid hl; have MR := hid hm; have MV := hid hv; clear LC hl hm hv; have LC := LX; clear LX
  have M0x := hid (M0.out.mv MV.out); clear M0; have M0 := M0x; clear M0x
  have M1x := hid (M1.out.mv MV.out); clear M1; have M1 := M1x; clear M1x
  clear MV
  go_upto_region 8 with fail
  have L7 := hid (LC.out.alloc (.cells #[.int .i64 0, .int .i64 0, .slice a6 0 c6, .slice b6 0 d6] 31))
  have M2 := hid (MB.new (m := ⟨0, 0, [], []⟩) MR.out LC.out.ar.zlt LC.out.sz)
  have M0x := hid (M0.out.alloc (.cells #[.int .i64 0, .int .i64 0, .slice a6 0 c6, .slice b6 0 d6] 31)); clear M0; have M0 := M0x; clear M0x
  have M1x := hid (M1.out.alloc (.cells #[.int .i64 0, .int .i64 0, .slice a6 0 c6, .slice b6 0 d6] 31)); clear M1; have M1 := M1x; clear M1x
  clear LC MR; have LC := L7; clear L7
  change Hid (MB (u6.alloc (.cells #[.int .i64 0, .int .i64 0, .slice a6 0 c6, .slice b6 0 d6] 31)) _ _ u6.heap.size _ _ _) at M2
  generalize hb7 : u6.heap.size = b2 at *
  generalize u6.alloc (.cells #[.int .i64 0, .int .i64 0, .slice a6 0 c6, .slice b6 0 d6] 31) = V7 at *
  clear hb7
  go_wp2_with fail
  refine (l_fin LC.out HT.out (i64_lit (by decide) (by decide)) lv_fin).mono ?_
  rintro e u8 ⟨Z8, rfl, hl, hv⟩
  have LX := hid hl; have MV := hid hv; clear LC hl hv; have LC := LX; clear LX
  have M0x := hid (M0.out.mv MV.out); clear M0; have M0 := M0x; clear M0x
  have M1x := hid (M1.out.mv MV.out); clear M1; have M1 := M1x; clear M1x
  have M2x := hid (M2.out.mv MV.out); clear M2; have M2 := M2x; clear M2x
  clear MV
  obtain ⟨k0, k1, k2, k3⟩ := M1.out.cells
  go_wp2_with fail
  refine (l_spend LC.out M1.out.mt lm1 (m' := ⟨0, 1, [(2, 1)], [1]⟩) lv_sp).mono ?_
  clear k0 k1 k2 k3
  rintro e u9 ⟨g9, p9, rfl, hl, hv, hm, -⟩
  obtain ⟨a9, c9, b9, d9, rfl, rfl⟩ := hm.sh 1 1 rfl rfl
  have LX := hid hl; have MR := hid hm; have MV := hid hv; clear LC hl hm hv; have LC := LX; clear LX
  have M0x := hid (M0.out.mv MV.out); clear M0; have M0 := M0x; clear M0x
  have M1x := hid (M1.out.mv MV.out); clear M1; have M1 := M1x; clear M1x
  have M2x := hid (M2.out.mv MV.out); clear M2; have M2 := M2x; clear M2x
  clear MV
  go_upto_region 10 with fail
  have L10 := hid (LC.out.alloc (.cells #[.int .i64 0, .int .i64 1, .slice a9 1 c9, .slice b9 1 d9] 31))
  have M3 := hid (MB.new (m := ⟨0, 1, [(2, 1)], [1]⟩) MR.out LC.out.ar.zlt LC.out.sz)
  have M0x := hid (M0.out.alloc (.cells #[.int .i64 0, .int .i64 1, .slice a9 1 c9, .slice b9 1 d9] 31)); clear M0; have M0 := M0x; clear M0x
  have M1x := hid (M1.out.alloc (.cells #[.int .i64 0, .int .i64 1, .slice a9 1 c9, .slice b9 1 d9] 31)); clear M1; have M1 := M1x; clear M1x
  have M2x := hid (M2.out.alloc (.cells #[.int .i64 0, .int .i64 1, .slice a9 1 c9, .slice b9 1 d9] 31)); clear M2; have M2 := M2x; clear M2x
  clear LC MR; have LC := L10; clear L10
  change Hid (MB (u9.alloc (.cells #[.int .i64 0, .int .i64 1, .slice a9 1 c9, .slice b9 1 d9] 31)) _ _ u9.heap.size _ _ _) at M3
  generalize hb10 : u9.heap.size = b3 at *
  generalize u9.alloc (.cells #[.int .i64 0, .int .i64 1, .slice a9 1 c9, .slice b9 1 d9] 31) = V10 at *
  clear hb10
  obtain ⟨k0, k1, k2, k3⟩ := M3.out.cells
  go_wp2_with fail
  refine (l_spend LC.out M3.out.mt lm2 (m' := ⟨0, 0, [], []⟩) lv_sp2).mono ?_
  clear k0 k1 k2 k3
  rintro e u11 ⟨g11, p11, rfl, hl, hv, hm, -⟩
  obtain ⟨a11, c11, b11, d11, rfl, rfl⟩ := hm.sh 0 0 rfl rfl
  have LX := hid hl; have MR := hid hm; have MV := hid hv; clear LC hl hm hv; have LC := LX; clear LX
  have M0x := hid (M0.out.mv MV.out); clear M0; have M0 := M0x; clear M0x
  have M1x := hid (M1.out.mv MV.out); clear M1; have M1 := M1x; clear M1x
  have M2x := hid (M2.out.mv MV.out); clear M2; have M2 := M2x; clear M2x
  have M3x := hid (M3.out.mv MV.out); clear M3; have M3 := M3x; clear M3x
  clear MV
  go_upto_region 11 with fail
  have L12 := hid (LC.out.alloc (.cells #[.int .i64 0, .int .i64 0, .slice a11 0 c11, .slice b11 0 d11] 31))
  have M4 := hid (MB.new (m := ⟨0, 0, [], []⟩) MR.out LC.out.ar.zlt LC.out.sz)
  have M0x := hid (M0.out.alloc (.cells #[.int .i64 0, .int .i64 0, .slice a11 0 c11, .slice b11 0 d11] 31)); clear M0; have M0 := M0x; clear M0x
  have M1x := hid (M1.out.alloc (.cells #[.int .i64 0, .int .i64 0, .slice a11 0 c11, .slice b11 0 d11] 31)); clear M1; have M1 := M1x; clear M1x
  have M2x := hid (M2.out.alloc (.cells #[.int .i64 0, .int .i64 0, .slice a11 0 c11, .slice b11 0 d11] 31)); clear M2; have M2 := M2x; clear M2x
  have M3x := hid (M3.out.alloc (.cells #[.int .i64 0, .int .i64 0, .slice a11 0 c11, .slice b11 0 d11] 31)); clear M3; have M3 := M3x; clear M3x
  clear LC MR; have LC := L12; clear L12
  change Hid (MB (u11.alloc (.cells #[.int .i64 0, .int .i64 0, .slice a11 0 c11, .slice b11 0 d11] 31)) _ _ u11.heap.size _ _ _) at M4
  generalize hb12 : u11.heap.size = b4 at *
  generalize u11.alloc (.cells #[.int .i64 0, .int .i64 0, .slice a11 0 c11, .slice b11 0 d11] 31) = V12 at *
  clear hb12
  obtain ⟨k0, k1, k2, k3⟩ := M3.out.cells
  go_wp2_with fail
  refine (l_had (m := ⟨0, 1, [(2, 1)], [1]⟩) (M3.out.alloc (.cells #[.int .i64 2, .int .i64 2] 3)).mt lm2 (l := [2, 2]) (sla_row #[.int .i64 2, .int .i64 2] (by unfold maxLen; simp)) (by decide) lv_had).mono ?_
  rintro e uf ⟨rfl, hb⟩
  have HB := hid (LC.out.bl.trans ((((Below.refl _ _).alloc (Nat.le_refl _) (.cells #[.int .i64 2, .int .i64 2] 3)).trans (hb.mono (by simp))).mono LC.out.sz))
  clear hb k0 k1 k2 k3
  go_wp2_with fail
  go_ret
  exact ⟨rfl, HB.out⟩
end Go.Proofs.YtanakgbhmmemoaaDoor
