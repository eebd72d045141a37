/- term's law: TermOnce walked. -/
import Derived.Test.YtadbgmfdbahcbaaGreatDoorL1
import Derived.Test.YtadbgmfdbahcbaaGreatDoorW3
import Derived.Deep.DeepCutAuto
namespace Go.Proofs.YtadbgmfdbahcbaaGreatDoor
open Go.RowKit Go.KK Go.Shelf Go.Maps
set_option linter.unusedVariables false
set_option linter.unusedSimpArgs false

theorem ndI_w {x : ND} (h : NdW x) : NdI x := ⟨h.o, h.n, h.l⟩
theorem box_new {w : World} {v0 v1 v2 v3 : Value} {T : TypeId} : (w.alloc (.cells #[v0, v1, v2, v3] T)).ownsRow w.heap.size T 4 (.slice (some ⟨w.heap.size, 0, none⟩) 1 1) 1 [v0, v1, v2, v3] :=
  ⟨by simp, .inr ⟨w.heap.size, 1, _, rfl, Nat.le_refl _, heap_alloc_new w _, Nat.le_refl _, by decide, rfl, by simp⟩⟩
/-- A variable of the call's own stays, where another arena's blocks have turned. -/
theorem box_mv {W W' : World} {Z Z' : Nat → Prop} {base e g : Nat} {cs : List Value} (h : W.ownsRow base e 4 (.slice (some ⟨g, 0, none⟩) 1 1) 1 cs) (hz : ∀ b, Z b → b < base) (hv : Mv Z W Z' W') : W'.ownsRow base e 4 (.slice (some ⟨g, 0, none⟩) 1 1) 1 cs :=
  own_block h fun b hb => hv.t.block b (h.lt b hb).2 fun h' => by have := hz b h'; have := (h.lt b hb).1; omega
theorem told_i64 {xs : List ND} {x : ND} (h : Okay xs) : -1 ≤ toldI xs x ∧ toldI xs x ≤ 100000 := by
  unfold toldI makI
  have := h.len
  split
  · split
    · split
      · rename_i hx
        have := List.idxOf_lt_length_of_mem hx
        omega
      · split <;> omega
    · omega
  · omega
set_option maxHeartbeats 8000000 in
set_option maxRecDepth 100000 in
theorem once_go (A : Option Addr) (n c : Nat) (l : List ND) (w : World) (hl : NdA w A n c l) (hI : ∀ x ∈ l, NdW x) (hT : Tb w.heap.size w) : Calls Tryz.prog 3 #[.slice A n c] w fun e w' => e = .returned (.bool true) ∧ Below w.heap.size w w' := by
  have hln := hl.len
  have HT := hid hT; have HL := hid hl; have HI := hid hI
  have HLV := hid (live_any w hT)
  have HN := hid (show ∀ x ∈ l, x.n < 9223372036854775808 from fun x hx => by have := (hI x hx).n.2; omega)
  clear hT hl hI
  obtain ⟨i0, hi, hz0, hz1, hz2⟩ := info_parts Tryz.infoInt
  go_enter Tryz.func3, Tryz.ntmps3
  go_wp2_with fail
  refine HLV.out.mono ?_
  rintro e w1 ⟨rfl, b1⟩
  have HB1 := hid b1
  clear b1
  go_wp2_with fail
  refine (few_any A n c l _ (HL.out.ext HB1.out)).mono ?_
  rintro e w2 ⟨rfl, b2⟩
  have HB2 := hid (HB1.out.trans (b2.mono HB1.out.size))
  clear b2 HB1
  rcases hf : fewB l with _ | _
  · go_wp2_with fail
    go_ret
    exact ⟨rfl, HB2.out⟩
  by_cases hbig : 60 < n
  · have hb' : (60 : Int) < (n : Int) := by omega
    clear hbig
    go_wp2_with fail
    go_ret
    exact ⟨rfl, HB2.out⟩
  have hb' : ¬ (60 : Int) < (n : Int) := by omega
  have hn60 : n ≤ 60 := by omega
  have HFW := hid (few_iff.1 hf).2
  clear hbig hf
  go_wp2_with fail
  refine (new_any _).mono ?_
  rintro e w3 ⟨Z0, sa, rfl, h1, h2, h3⟩
  have LC := hid (show LA w w3 Z0 sa [] from ⟨h1, fun b hb => Nat.le_trans HB2.out.size (h2 b hb), HB2.out.trans (h3.mono HB2.out.size)⟩)
  clear h1 h2 h3 HB2
  go_wp2_with fail
  go_loopw [31, 5] (fun v nv wr => ∃ (j : Nat) (Z : Nat → Prop), v = .int .i64 j ∧ j ≤ n ∧ T1 w wr sa Z (mksT [] (l.take j)) nv (mksR [] (l.take j))) (fun v _ _ => n - (intOf v).toNat)
  case atStart => exact ⟨0, Z0, rfl, Nat.zero_le _, t1_nil LC.out⟩
  case round =>
    clear LC
    obtain ⟨j, Z, hv, hj, ht⟩ := hrel
    subst hv
    have HTT := hid ht
    clear ht
    by_cases hlt : j < n
    · obtain ⟨b, off, x, A', c', rfl, hx, y0, y1, y2, y3, ys⟩ := (HL.out.ext HTT.out.la.bl).at hlt
      have HX := hid hx
      have HS := hid ys
      have HXI := hid (ndI_w (HI.out x (List.mem_of_getElem? hx)))
      have HM1 := hid (mksT_take (xs := []) hx)
      have HM2 := hid (mksR_take (xs := []) hx)
      have HRL := hid (show (mksR [] (l.take j)).length ≤ 60 by rw [mksR_len, List.length_take]; omega)
      clear hx ys
      have hlt' : (j : Int) < (n : Int) := by omega
      go_wp2_with fail
      refine (l_mke (HTT.out.la.alloc _) HT.out (x := x) (HS.out.alloc _) HXI.out).mono ?_
      rintro e w4 ⟨Z4, rfl, hl4, hv4⟩
      have HT4 := hid (T1.mv (HTT.out.ext ((Below.refl _ _).alloc (Nat.le_refl _) (.cells #[.int .i64 x.o, .int .i64 x.n, .string x.s, .slice A' x.l.length c'] 29))) hl4 hv4)
      clear hl4 hv4 HTT y0 y1 y2 y3
      have HTO := hid (told_cases (mksT [] (l.take j)) x)
      rw [← HM1.out] at HT4
      generalize toldI (mksT [] (l.take j)) x = told at *
      generalize makE (mksT [] (l.take j)) x = me at *
      generalize makI (mksT [] (l.take j)) x = mi at *
      generalize mksR [] (l.take j) = R at *
      rcases HTO.out with ⟨he, hto, h0⟩ | ⟨he, hto⟩
      all_goals
        subst hto
        clear HTO
        first
          | (subst he)
          | (have hne : (me != 0) = true := bne_iff_ne.2 he; clear he)
        go_wp2_with (first
          | (at_builtin; refine wpList_append_sl _ rfl _ _ 27 rfl w.heap.size 3 i0 (.int .i64 0) 1 8 Tryz.underlying27 hi hz0 hz1 hz2 rfl (by decide) u5 R.length (R.map (.int .i64)) rfl (HT4.out.nr.alloc _) _ 1 1 _ rfl (SlA.lit1 _) (one_int _ _) (by have := HRL.out; unfold maxLen; omega) (by have := HRL.out; omega) (by have := HT4.out.la.sz; simp; omega) ?_; intro v1 w5 own1 gr1 loc1; have HT5 := hid ((HT4.out.ext ((Below.refl _ _).alloc (Nat.le_refl _) _)).app (rowI_snoc own1) gr1 loc1); clear own1 gr1 loc1)
          | fail)
        rw [← HM2.out] at HT5
        go_roundw
        case rel => exact ⟨j + 1, Z4, by go_num, by omega, HT5.out⟩
        case measure => simp [intOf]; omega
    · obtain rfl : j = n := by omega
      have HTK := hid (show l.take j = l from List.take_of_length_le (by omega))
      rw [HTK.out] at HTT
      have hlt' : ¬ (j : Int) < (j : Int) := by omega
      have HRL := hid (show (mksR [] l).length = j by rw [mksR_len]; exact hln)
      obtain ⟨An, cn, rfl, -⟩ := SlA.owned HTT.out.nr
      go_wp2_with fail
      refine (len_any sa _ _ HTT.out.la.ar.vw).mono ?_
      rintro e w5 ⟨rfl, hw⟩
      subst hw
      have HPRE := hid (mks_pre l (mksT [] l))
      have hXl : (mksT [] l).length ≤ 60 := by have := mks_len [] l; simp at this; omega
      go_wp2_with fail
      go_loopw [52] (fun v wr => ∃ (j2 : Nat) (Z : Nat → Prop), v = .int .i64 j2 ∧ j2 ≤ j ∧ T1 w wr sa Z (mksT (mksT [] l) (l.take j2)) (.slice An (mksR [] l).length cn) (mksR [] l)) (fun v _ => j - (intOf v).toNat)
      case atStart => exact ⟨0, Z, rfl, Nat.zero_le _, HTT.out⟩
      case round =>
        clear HTT
        obtain ⟨i, Z, hv, hij, ht⟩ := hrel
        subst hv
        have HTT := hid ht
        clear ht
        by_cases hlt : i < j
        · obtain ⟨b, off, x, A', c', rfl, hx, y0', y1', y2', y3', ys⟩ := HL.out.at hlt
          have up : ∀ {p : Addr} {u : Value}, w.cell? p = some u → wr.cell? p = some u := fun h => (HTT.out.la.bl.cell (p := _) (block_lt_of_cell h)).trans h
          have y0 := up y0'; have y1 := up y1'; have y2 := up y2'; have y3 := up y3'
          clear up y0' y1' y2' y3'
          have HX := hid hx
          have HS := hid ys
          have HXI := hid (ndI_w (HI.out x (List.mem_of_getElem? hx)))
          have hxl80 : x.l.length ≤ 80 := (HFW.out x (List.mem_of_getElem? hx)).2
          have HM1 := hid (mksT_take (xs := mksT [] l) hx)
          have HRA := hid (mksR_at l [] i x hx)
          have HON := hid (fun h0 => once_at HN.out hx h0)
          obtain ⟨bn, on, r, rfl, hr, -⟩ := (SlA.of_own HTT.out.nr).2.elemI (k := i) (by rw [HRL.out]; exact hlt)
          have hrt : toldI (mksT [] (l.take i)) x = r := by
            have := HRA.out.symm.trans hr
            injection this
          rw [hrt] at HON HRA
          clear hx ys hr hrt
          have hlt' : (i : Int) < (j : Int) := by omega
          have hltR : (i : Int) < ((mksR [] l).length : Int) := by rw [HRL.out]; omega
          go_wp2_with fail
          refine (l_mke (HTT.out.la.alloc _) HT.out (x := x) ((HS.out.ext HTT.out.la.bl).alloc _) HXI.out).mono ?_
          rintro e w4 ⟨Z4, rfl, hl4, hv4⟩
          have X4 := hid (box_mv (box_new (w := wr) (v0 := .int .i64 x.o) (v1 := .int .i64 x.n) (v2 := .string x.s) (v3 := .slice A' x.l.length c') (T := 29)) HTT.out.la.ar.zlt hv4)
          have HT4 := hid (T1.mv (HTT.out.ext ((Below.refl _ _).alloc (Nat.le_refl _) (.cells #[.int .i64 x.o, .int .i64 x.n, .string x.s, .slice A' x.l.length c'] 29))) hl4 hv4)
          clear hl4 hv4 HTT y0 y1 y2 y3
          rw [← HM1.out] at HT4
          generalize wr.heap.size = nb at *
          have hci := rowI_at HT4.out.nr HRA.out
          by_cases hr0 : r < 0
          · go_wp2_with fail
            go_roundw
            case rel => exact ⟨i + 1, Z4, by go_num, by omega, HT4.out⟩
            case measure => simp [intOf]; omega
          · obtain ⟨he, hm, heq, hls⟩ := HON.out (by omega)
            rw [he, hm]
            have HEQ := hid heq; have HLS := hid hls
            clear heq hls he hm HON
            have hrr : (r != r) = false := by simp
            go_wp2_with fail
            go_loopw [79] (fun v wq => ∃ k : Nat, v = .int .i64 k ∧ k ≤ i ∧ Below w4.heap.size w4 wq) (fun v _ => i - (intOf v).toNat)
            case atStart => exact ⟨0, rfl, Nat.zero_le _, Below.refl _ _⟩
            case round =>
              obtain ⟨k, hv, hki, hbq⟩ := hrel
              subst hv
              have BQ := hid hbq
              clear hbq hci
              by_cases hlk : k < i
              · have hlk' : (k : Int) < (i : Int) := by omega
                have hkR : (k : Int) < ((mksR [] l).length : Int) := by rw [HRL.out]; omega
                have hkj : (k : Int) < (j : Int) := by omega
                have HT5 := hid (HT4.out.ext BQ.out)
                obtain ⟨b2, off2, x2, A2, c2, e2, hx2, z0, z1, z2, z3, zs⟩ := (HL.out.ext HT5.out.la.bl).at (j := k) (by omega)
                injection e2 with e2
                injection e2 with e2 e3
                subst e2; subst e3
                have HX2 := hid hx2
                have hr2 := mksR_at l [] k x2 hx2
                have HEK := hid (HEQ.out k x2 hlk hx2)
                obtain ⟨r2, hr2e⟩ : ∃ r2, r2 = toldI (mksT [] (l.take k)) x2 := ⟨_, rfl⟩
                rw [← hr2e] at hr2 HEK
                have hck := rowI_at HT5.out.nr hr2
                have hx2l : x2.l.length ≤ 80 := (HFW.out x2 (List.mem_of_getElem? hx2)).2
                clear hr2 hr2e hx2
                obtain ⟨⟨n0, n1, n2, n3⟩, -⟩ := box4 (own_ext X4.out BQ.out)
                have HZS := hid zs
                clear zs
                by_cases hr20 : 0 ≤ r2
                · have HRE := hid (HEK.out hr20)
                  have D0 := hid (below_drew (Below.refl wr.heap.size wr))
                  have HSM := hid (fun (W : World) (hb : Below wr.heap.size wr W) => same_node x2 x A2 A' c2 c' W (HZS.out.ext hb) ((HS.out.ext (HT5.out.la.bl)).ext hb) (by omega) (by omega))
                  have hd : decide (0 ≤ r2) = true := decide_eq_true hr20
                  have HSX := hid (fun (W : World) (hb : Below wr.heap.size wr W) =>
                    have up : ∀ {p : Addr} {u : Value}, wr.cell? p = some u → W.cell? p = some u := fun h => (hb.cell (p := _) (block_lt_of_cell h)).trans h
                    (show W.cell? ⟨bn, on + k, none⟩ = some (.int .i64 r2) ∧ (W.cell? ⟨b, off + k * 4, none⟩ = some (.int .i64 x2.o) ∧ W.cell? ⟨b, off + k * 4 + 1, none⟩ = some (.int .i64 x2.n) ∧ W.cell? ⟨b, off + k * 4 + 2, none⟩ = some (.string x2.s) ∧ W.cell? ⟨b, off + k * 4 + 3, none⟩ = some (.slice A2 x2.l.length c2)) ∧ W.cell? ⟨nb, 0, none⟩ = some (.int .i64 x.o) ∧ W.cell? ⟨nb, 1, none⟩ = some (.int .i64 x.n) ∧ W.cell? ⟨nb, 2, none⟩ = some (.string x.s) ∧ W.cell? ⟨nb, 3, none⟩ = some (.slice A' x.l.length c') from
                      ⟨up hck, ⟨up z0, up z1, up z2, up z3⟩, up n0, up n1, up n2, up n3⟩))
                  rcases hde : decide (x2 = x) with _ | _
                  all_goals
                    rw [hde] at HRE
                    have hre := HRE.out
                    go_upto_region 25 with fail
                    go_cut [101] (fun v W => v = .bool false ∧ Below w4.heap.size w4 W)
                    case first =>
                      go_region_held3 (fun W => W.cell? ⟨bn, on + k, none⟩ = some (.int .i64 r2) ∧ (W.cell? ⟨b, off + k * 4, none⟩ = some (.int .i64 x2.o) ∧ W.cell? ⟨b, off + k * 4 + 1, none⟩ = some (.int .i64 x2.n) ∧ W.cell? ⟨b, off + k * 4 + 2, none⟩ = some (.string x2.s) ∧ W.cell? ⟨b, off + k * 4 + 3, none⟩ = some (.slice A2 x2.l.length c2)) ∧ W.cell? ⟨nb, 0, none⟩ = some (.int .i64 x.o) ∧ W.cell? ⟨nb, 1, none⟩ = some (.int .i64 x.n) ∧ W.cell? ⟨nb, 2, none⟩ = some (.string x.s) ∧ W.cell? ⟨nb, 3, none⟩ = some (.slice A' x.l.length c')) (first | exact HSX.out _ D8.out | exact ⟨hck, ⟨z0, z1, z2, z3⟩, n0, n1, n2, n3⟩ | go_keep) (first
                        | (go_at_call 14; refine (HSM.out _ D0.out).mono ?_; rintro e7 w7 ⟨rfl, b7⟩; rw [hde]; have D8 := hid (D0.out.trans (b7.mono D0.out.size)); have D7 := hid (BQ.out.trans (D8.out.mono BQ.out.size)); clear b7))
                      all_goals
                        go_wp2_with fail
                        go_meet
                        exact ⟨rfl, D7.out⟩
                    case rest =>
                      obtain ⟨rfl, hbc⟩ := hcut
                      have BC := hid hbc
                      clear hbc
                      go_wp2_with fail
                      go_roundw
                      case rel => exact ⟨k + 1, by go_num, by omega, BC.out⟩
                      case measure => simp [intOf]; omega
                · have hd : decide (0 ≤ r2) = false := decide_eq_false hr20
                  go_upto_region 25 with fail
                  go_quiet (fail)
                  go_wp2_with fail
                  go_roundw
                  case rel => exact ⟨k + 1, by go_num, by omega, by first | exact below_drew BQ.out | exact below_drewN BQ.out _⟩
                  case measure => simp [intOf]; omega
              · obtain rfl : k = i := by omega
                have hlk' : ¬ (k : Int) < (k : Int) := by omega
                have HT5 := hid (HT4.out.ext BQ.out)
                have X5 := hid (own_ext X4.out BQ.out)
                have HS5 := hid (HS.out.ext HT5.out.la.bl)
                obtain ⟨⟨n0, n1, n2, n3⟩, -⟩ := box4 X5.out
                go_wp2_with fail
                go_loopw [106] (fun v wq => ∃ q : Nat, v = .int .i64 q ∧ q ≤ x.l.length ∧ wq = wr) (fun v _ => x.l.length - (intOf v).toNat)
                case atStart => exact ⟨0, rfl, Nat.zero_le _, rfl⟩
                case round =>
                  obtain ⟨q, hv, hq, hw⟩ := hrel
                  subst hv; subst hw
                  by_cases hlq : q < x.l.length
                  · obtain ⟨b6, o6, y, rfl, hy, hcy⟩ := HS5.out.elemI hlq
                    have hyr : y < r := HLS.out y (List.mem_of_getElem? hy)
                    have hyr' : ¬ r ≤ y := by omega
                    have hlq' : (q : Int) < (x.l.length : Int) := by omega
                    clear hy
                    go_wp2_with fail
                    go_roundw
                    case rel => exact ⟨q + 1, by go_num, by omega, by first | rfl | trivial⟩
                    case measure => simp [intOf]; omega
                  · obtain rfl : q = x.l.length := by omega
                    have hlq' : ¬ (x.l.length : Int) < (x.l.length : Int) := by omega
                    go_wp2_with fail
                    go_roundw
                    case rel => exact ⟨k + 1, Z4, by go_num, by omega, HT5.out⟩
                    case measure => simp [intOf]; omega
        · obtain rfl : i = j := by omega
          have hlt' : ¬ (i : Int) < (i : Int) := by omega
          rw [HTK.out] at HTT
          obtain ⟨m, hm⟩ := HPRE.out
          have hge : ((mksT [] l).length : Int) ≤ ((mksT (mksT [] l) l).length : Int) := by rw [hm, List.length_append]; omega
          clear hm HPRE
          go_wp2_with fail
          refine (len_any sa _ _ HTT.out.la.ar.vw).mono ?_
          rintro e w6 ⟨rfl, hw⟩
          subst hw
          go_wp2_with fail
          go_ret
          exact ⟨rfl, HTT.out.la.bl⟩
end Go.Proofs.YtadbgmfdbahcbaaGreatDoor
