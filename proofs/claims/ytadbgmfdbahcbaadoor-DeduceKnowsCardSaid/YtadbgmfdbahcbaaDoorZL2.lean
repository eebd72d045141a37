import Derived.Test.YtadbgmfdbahcbaaDoorZh
import Derived.Test.YtadbgmfdbahcbaaDoorZF6
/- deduce's law: DeduceMore walked. -/
namespace Go.KK
open Go.RowKit
set_option linter.unusedVariables false
set_option linter.unusedSimpArgs false
theorem kn_all {xs : List ND} {l : List Int} : (knF xs l).all (hasB xs) = true := List.all_eq_true.2 fun _ h => (knF_mem.1 h).1
theorem kn_len (xs : List ND) (l : List Int) : (knF xs l).length ≤ xs.length := by
  unfold knF
  rw [List.length_map]
  exact Nat.le_trans (List.length_filter_le _ _) (by simp)
end Go.KK
namespace Go.Proofs.YtadbgmfdbahcbaaDoor
open Go.RowKit Go.KK Go.Shelf Go.Maps

theorem mem_any (A : Option Addr) (n c : Nat) (l : List Int) (x : Int) (w : World) (h : SlA w 1 A n c (l.map (.int .i64))) (hn : n ≤ 2147483648) :
    Calls Tryd.prog 22 #[.slice A n c, .int .i64 x] w fun e w' => e = .returned (.bool (decide (x ∈ l))) ∧ w' = w := by
  have HL := hid h.lenI; have HS := hid h
  clear h
  go_enter Tryd.func22, Tryd.ntmps22
  go_wp2
  go_loop [9, 4] (fun i _ => ∃ j : Nat, i = .int .i64 j ∧ j ≤ n ∧ Hid (decide (x ∈ l) = decide (x ∈ l.drop j))) (fun i _ => n - (intOf i).toNat)
  case atStart => exact ⟨0, rfl, by omega, hid rfl⟩
  case round =>
    obtain ⟨j, hi, hj, HJ⟩ := hrel
    subst hi
    by_cases hlt : j < n
    · obtain ⟨b, o, z, rfl, hz, hc⟩ := HS.out.elemI hlt
      have HD := hid (show l.drop j = z :: l.drop (j + 1) by
        obtain ⟨hk, rfl⟩ := List.getElem?_eq_some_iff.1 hz
        exact List.drop_eq_getElem_cons hk)
      clear hz
      by_cases hzx : z = x
      · have HF := hid (show decide (x ∈ l) = true by rw [HJ.out, HD.out, hzx]; simp)
        have hzx' : (z == x) = true := beq_iff_eq.2 hzx
        clear hzx
        go_wp2
        go_ret
        exact ⟨by rw [HF.out]; rfl, rfl⟩
      · have HF := hid (show decide (x ∈ l) = decide (x ∈ l.drop (j + 1)) by
          rw [HJ.out, HD.out, decide_eq_decide, List.mem_cons]
          exact ⟨fun h => h.elim (fun e => absurd e.symm hzx) id, .inr⟩)
        have hzx' : (z == x) = false := beq_eq_false_iff_ne.2 hzx
        clear hzx
        go_wp2
        go_round
        case rel => exact ⟨j + 1, by go_num, by omega, HF⟩
        case measure => simp [intOf]; omega
    · have HF := hid (show decide (x ∈ l) = false by rw [HJ.out, List.drop_of_length_le (by have := HL.out; omega)]; simp)
      go_wp2
      go_ret
      exact ⟨by rw [HF.out]; rfl, rfl⟩
set_option maxHeartbeats 8000000 in
set_option maxRecDepth 100000 in
theorem more_go (A : Option Addr) (n c : Nat) (l : List ND) (A1 : Option Addr) (n1 c1 : Nat) (x : List Int) (A2 : Option Addr) (n2 c2 : Nat) (y : List Int) (w : World) (hl : NdA w A n c l) (hI : ∀ x ∈ l, NdW x) (hx : SlA w 1 A1 n1 c1 (x.map (.int .i64))) (hxi : ∀ i ∈ x, I64 i) (hy : SlA w 1 A2 n2 c2 (y.map (.int .i64))) (hyi : ∀ i ∈ y, I64 i) (hT : Tb w.heap.size w) :
    Calls Tryd.prog 7 #[.slice A n c, .slice A1 n1 c1, .slice A2 n2 c2] w fun e w' => e = .returned (.bool true) ∧ Below w.heap.size w w' := by
  have hln := hl.len
  have hxn := hx.lenI
  have hyn := hy.lenI
  have HT := hid hT; have HL := hid hl; have HI := hid hI; have HX := hid hx; have HY := hid hy
  have HLV := hid (live_any w hT)
  clear hT hl hI hx hy hxi hyi
  obtain ⟨i0, hi, hz0, hz1, hz2⟩ := info_parts Tryd.infoInt
  go_enter Tryd.func7, Tryd.ntmps7
  go_wp2_with fail
  refine HLV.out.mono ?_
  rintro e w1 ⟨rfl, b1⟩
  have HB1 := hid b1
  clear b1 HLV
  go_wp2_with fail
  refine (few2_any A n c l A1 n1 c1 A2 n2 c2 w1 (HL.out.ext HB1.out)).mono ?_
  rintro e w2 ⟨rfl, b2⟩
  have HB2 := hid (HB1.out.trans (b2.mono HB1.out.size))
  clear b2 HB1
  rcases hf : few5B l [n1, n2] with _ | _
  · clear hf
    go_wp2_with fail
    go_ret
    exact ⟨rfl, HB2.out⟩
  have hfw := few5_iff.1 hf
  have hn40 : n ≤ 40 := by have := hfw.1; omega
  have h20 : n1 ≤ 20 := hfw.2.2 n1 (by simp)
  have h21 : n2 ≤ 20 := hfw.2.2 n2 (by simp)
  have HSZ := hid (szL_le (k := 60) fun z hz => (hfw.2.1 z hz).1)
  clear hf hfw
  go_wp2_with fail
  refine (two_any A n c l _ (HL.out.ext HB2.out) HI.out (Tb.up (HT.out.on HB2.out) HB2.out.size) (by omega)).mono ?_
  rintro e w3 ⟨sa, sb, Z, Z', rfl, ht⟩
  have HAA := hid ht.a.vw; have HAB := hid ht.b.vw; have HOK := hid ht.a.ok
  have HB3 := hid (HB2.out.trans (ht.bl.mono HB2.out.size))
  clear ht HB2
  have hX40 : (mksT [] l).length ≤ 40 := by have := mks_len [] l; simp at this; omega
  generalize mksT [] l = X at *
  have HXU := hid (fun (U : World) (hb : Below w3.heap.size w3 U) => HX.out.ext (HB3.out.trans (hb.mono HB3.out.size)))
  have HYU := hid (fun (U : World) (hb : Below w3.heap.size w3 U) => HY.out.ext (HB3.out.trans (hb.mono HB3.out.size)))
  have HKN := hid (fun (U : World) (hb : Below w3.heap.size w3 U) (B1 : Option Addr) (m1 d1 : Nat) (u : List Int) (hu : SlA U 1 B1 m1 d1 (u.map (.int .i64))) (h1 : m1 ≤ 1000000) => known_any U sa X B1 m1 d1 u (HAA.out.ext hb) HOK.out (uses_small HOK.out) hu h1)
  have HDR := hid (fun (U : World) (hb : Below w3.heap.size w3 U) (B1 : Option Addr) (m1 d1 : Nat) (u : List Int) (t : Int) (hu : SlA U 1 B1 m1 d1 (u.map (.int .i64))) (h1 : m1 ≤ 1000000) => derives_any U sa X B1 m1 d1 u t (HAA.out.ext hb) HOK.out (uses_small HOK.out) hu h1)
  clear HX HY HSZ
  have HR3 := hid (Below.refl w3.heap.size w3)
  go_wp2_with fail
  refine (HKN.out w3 HR3.out A1 n1 c1 x (HXU.out _ HR3.out) (by omega)).mono ?_
  rintro e w4 (⟨hall, rfl, b4⟩ | ⟨hall, AK, cK, rfl, rK, b4⟩)
  · have HBF := hid (HB3.out.trans (b4.mono HB3.out.size))
    clear hall b4
    go_wp2_with fail
    go_ret
    exact ⟨rfl, HBF.out⟩
  have HH := hid (List.all_eq_true.1 hall)
  have HB4 := hid b4
  have HUP := hid (fun (U : World) (hb : Below w4.heap.size w4 U) => (show Below w3.heap.size w3 U from b4.trans (hb.mono b4.size)))
  have HX4 := hid (fun (U : World) (hb : Below w4.heap.size w4 U) => HXU.out U (HUP.out U hb))
  have HY4 := hid (fun (U : World) (hb : Below w4.heap.size w4 U) => HYU.out U (HUP.out U hb))
  have HSK := hid (fun (U : World) (hb : Below w4.heap.size w4 U) => (SlA.of_own rK).2.ext hb)
  have hKl := kn_len X x
  have HKA := hid (kn_all (xs := X) (l := x))
  have HMORE := hid (fun (t : Int) (ht : t ∈ knF X x) => kn_more HOK.out (m := y) HH.out ht)
  have HAPP := hid (kn_app HOK.out HH.out)
  have HDK := hid (fun (t : Int) => (show drvB X (knF X x) t = drvB X x t by
    unfold drvB
    rw [kn_all, hall, derB_kn HOK.out HH.out]))
  have HALLK := hid (show (x ++ knF X x).all (hasB X) = true by rw [List.all_append, hall, kn_all]; rfl)
  clear b4 rK HXU HYU
  generalize hK : knF X x = K at *
  clear hK
  generalize hKn : K.length = k at *
  have HKL := hid hKn
  clear hKn hall
  have HR4 := hid (Below.refl w4.heap.size w4)
  go_wp2_with (first
      | (at_builtin; refine wpList_append_new _ rfl _ _ 23 rfl 3 i0 (.int .i64 0) 1 8 Tryd.underlying23 hi hz0 hz1 hz2 rfl (by decide) rfl A1 n1 c1 (x.map (.int .i64)) rfl (HX4.out _ HR4.out) (ints_one _ _) (by unfold maxLen; omega) (by omega) ?_; intro v5 w5 own5 b5; have HO5 := hid own5; have HB5 := hid (show Below w4.heap.size w4 w5 from HR4.out.trans (b5.mono HR4.out.size)); have HS5 := hid b5.size; clear own5 b5)
      | (at_builtin; refine wpList_append_sl _ rfl _ _ 23 rfl w4.heap.size 3 i0 (.int .i64 0) 1 8 Tryd.underlying23 hi hz0 hz1 hz2 rfl (by decide) v5 n1 (x.map (.int .i64)) rfl HO5.out A2 n2 c2 (y.map (.int .i64)) rfl (HY4.out _ HB5.out) (ints_one _ _) (by unfold maxLen; omega) (by omega) HS5.out ?_; intro v6 w6 own6 gr6 loc6; obtain ⟨A6, c6, rfl, -⟩ := SlA.owned own6; have HS6 := hid (show SlA w6 1 A6 (n1 + n2) c6 ((x ++ y).map (.int .i64)) by rw [List.map_append]; exact (SlA.of_own own6).2); have HB6 := hid (below_append HB5.out gr6 HO5.out HR4.out.size HB5.out.size); clear own6 gr6 loc6)
      | fail)
  refine (HKN.out w6 (HUP.out _ HB6.out) A6 (n1 + n2) c6 (x ++ y) HS6.out (by omega)).mono ?_
  rintro e w7 (⟨hall, rfl, b7⟩ | ⟨hall, AY, cY, rfl, rY, b7⟩)
  · have HBF := hid (HB3.out.trans ((HUP.out _ (HB6.out.trans (b7.mono HB6.out.size))).mono HB3.out.size))
    clear hall b7
    go_wp2_with fail
    go_ret
    exact ⟨rfl, HBF.out⟩
  have HB7 := hid (HB6.out.trans (b7.mono HB6.out.size))
  have HSY := hid (SlA.of_own rY).2
  have hYl := kn_len X (x ++ y)
  have HMEM := hid (fun (t : Int) (ht : t ∈ K) => (show decide (t ∈ knF X (x ++ y)) = true from decide_eq_true (HMORE.out t ht)))
  have HSK7 := hid (HSK.out w7 HB7.out)
  clear hall b7 rY HMORE HO5 HB5 HS5 HS6 HB6
  generalize knF X (x ++ y) = Y at *
  generalize Y.length = yk at *
  go_wp2_with fail
  go_loopw [68] (fun v wr => ∃ j : Nat, v = .int .i64 j ∧ j ≤ k ∧ wr = w7) (fun v _ => k - (intOf v).toNat)
  case atStart => exact ⟨0, rfl, Nat.zero_le _, rfl⟩
  case round =>
    obtain ⟨j, hv, hj, hw⟩ := hrel
    subst hv; subst hw
    by_cases hlt : j < k
    · have hlt' : (j : Int) < (k : Int) := by omega
      obtain ⟨b1, o1, t, rfl, htj, hct⟩ := HSK7.out.elemI hlt
      have HTM := hid (HMEM.out t (List.mem_of_getElem? htj))
      clear htj
      go_wp2_with fail
      refine (mem_any AY yk cY Y t _ HSY.out (by omega)).mono ?_
      rintro e w8 ⟨rfl, hw8⟩
      subst hw8
      rw [HTM.out]
      go_wp2_with fail
      go_roundw
      case rel => exact ⟨j + 1, by go_num, by omega, by first | rfl | trivial⟩
      case measure => simp [intOf]; omega
    · have hjk : j = k := by omega
      subst hjk
      have hlt' : ¬ ((j : Nat) : Int) < (j : Int) := by omega
      clear hlt HMEM HSY
      go_wp2_with (first
        | (at_builtin; refine wpList_append_new _ rfl _ _ 23 rfl 3 i0 (.int .i64 0) 1 8 Tryd.underlying23 hi hz0 hz1 hz2 rfl (by decide) rfl A1 n1 c1 (x.map (.int .i64)) rfl (HX4.out _ HB7.out) (ints_one _ _) (by unfold maxLen; omega) (by omega) ?_; intro v9 w9 own5 b5; have HO9 := hid own5; have HB9 := hid (show Below w4.heap.size w4 w9 from HB7.out.trans (b5.mono HB7.out.size)); have HS9 := hid b5.size; clear own5 b5)
        | (at_builtin; refine wpList_append_sl _ rfl _ _ 23 rfl wr.heap.size 3 i0 (.int .i64 0) 1 8 Tryd.underlying23 hi hz0 hz1 hz2 rfl (by decide) v9 n1 (x.map (.int .i64)) rfl HO9.out AK j cK (K.map (.int .i64)) rfl (HSK.out _ HB9.out) (ints_one _ _) (by unfold maxLen; omega) (by omega) HS9.out ?_; intro v10 w10 own6 gr6 loc6; obtain ⟨A10, c10, rfl, -⟩ := SlA.owned own6; have HS10 := hid (show SlA w10 1 A10 (n1 + j) c10 ((x ++ K).map (.int .i64)) by rw [List.map_append]; exact (SlA.of_own own6).2); have HB10 := hid (below_append HB9.out gr6 HO9.out HB7.out.size HB9.out.size); clear own6 gr6 loc6)
        | fail)
      refine (HKN.out w10 (HUP.out _ HB10.out) A10 (n1 + j) c10 (x ++ K) HS10.out (by omega)).mono ?_
      rintro e w11 (⟨hall, -, -⟩ | ⟨-, AZ, cZ, rfl, rZ, b11⟩)
      · exact absurd (HALLK.out.symm.trans hall) (by decide)
      rw [HAPP.out, HKL.out] at rZ
      rw [HAPP.out, HKL.out]
      have HB11 := hid (HB10.out.trans (b11.mono HB10.out.size))
      have HSZ := hid (SlA.of_own rZ).2
      clear rZ b11 HO9 HB9 HS9 HS10 HB10
      go_wp2_with fail
      refine (same_ints AK j cK K AZ j cZ K _ (HSK.out _ HB11.out) HSZ.out (by omega) (by omega)).mono ?_
      rintro e w12 ⟨rfl, q, rfl⟩
      rw [show (K == K) = true from beq_self_eq_true K]
      have HB12 := hid (below_drewN HB11.out q)
      have HABB := hid (fun (U : World) (hb : Below w4.heap.size w4 U) => HAB.out.ext (HUP.out U hb))
      go_wp2_with fail
      refine (rlen_any sb X _ (HABB.out _ HB12.out)).mono ?_
      rintro e w13 ⟨rfl, hw13⟩
      subst hw13
      go_wp2_with fail
      go_loopw [96] (fun v wq => ∃ t : Nat, v = .int .i64 t ∧ t ≤ X.length ∧ Hid (Below w4.heap.size w4 wq)) (fun v _ => X.length - (intOf v).toNat)
      case atStart => exact ⟨0, rfl, Nat.zero_le _, HB12⟩
      case round =>
        obtain ⟨t, hv, ht, HQ⟩ := hrel
        subst hv
        by_cases hltt : t < X.length
        · have hltt' : (t : Int) < (X.length : Int) := by omega
          have HD1 := hid (HDK.out (t : Int))
          generalize hd1 : drvB X x (t : Int) = d1 at *
          have HD0 := hid hd1
          clear hd1
          go_wp2_with fail
          refine (HDR.out _ (HUP.out _ HQ.out) A1 n1 c1 x (t : Int) (HX4.out _ HQ.out) (by omega)).mono ?_
          rintro e w14 ⟨rfl, b14⟩
          rw [HD0.out]
          have HB14 := hid (HQ.out.trans (b14.mono HQ.out.size))
          clear b14
          generalize drvE X x (t : Int) = e1 at *
          go_wp2_with fail
          refine (HDR.out _ (HUP.out _ HB14.out) AK j cK K (t : Int) (HSK.out _ HB14.out) (by omega)).mono ?_
          rintro e w15 ⟨rfl, b15⟩
          rw [HD1.out]
          have HB15 := hid (HB14.out.trans (b15.mono HB14.out.size))
          clear b15
          generalize drvE X K (t : Int) = e2 at *
          have hdd : (d1 != d1) = false := by simp
          go_wp2_with fail
          go_roundw
          case rel => exact ⟨t + 1, by go_num, by omega, HB15⟩
          case measure => simp [intOf]; omega
        · have htx : t = X.length := by omega
          subst htx
          have hltt' : ¬ (X.length : Int) < (X.length : Int) := by omega
          have HBF := hid (HB3.out.trans ((HUP.out _ HQ.out).mono HB3.out.size))
          clear hltt
          go_wp2_with fail
          go_ret
          exact ⟨rfl, HBF.out⟩
end Go.Proofs.YtadbgmfdbahcbaaDoor

