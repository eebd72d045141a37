/- term's law: TermParts walked. -/
import Derived.Test.YtadbgmfdbahcbaaGreatDoorL3
import Derived.Test.YtadbgmfdbahcbaaGreatDoorY4
import Derived.Test.YtadbgmfdbahcbaaGreatDoorM9
namespace Go.Proofs.YtadbgmfdbahcbaaGreatDoor
open Go.RowKit Go.KK Go.Shelf Go.Maps
set_option linter.unusedVariables false
set_option linter.unusedSimpArgs false

set_option maxHeartbeats 8000000 in
set_option maxRecDepth 100000 in
theorem parts_go (A : Option Addr) (n c : Nat) (l : List ND) (t : Int) (w : World) (hl : NdA w A n c l) (hI : ∀ x ∈ l, NdW x) (hT : Tb w.heap.size w) : Calls Tryz.prog 7 #[.slice A n c, .int .i64 t] w fun e w' => e = .returned (.bool true) ∧ Below w.heap.size w w' := by
  have hln := hl.len
  have HT := hid hT; have HL := hid hl; have HI := hid hI
  have HLV := hid (live_any w hT)
  clear hT hl hI
  go_enter Tryz.func7, Tryz.ntmps7
  go_wp2_with fail
  refine HLV.out.mono ?_
  rintro e w1 ⟨rfl, b1⟩
  have HB1 := hid b1
  clear b1
  go_wp2_with fail
  refine (few_any A n c l _ (HL.out.ext HB1.out)).mono ?_
  rintro e w2 ⟨rfl, b2⟩
  have HB2 := hid (HB1.out.trans (b2.mono HB1.out.size))
  clear b2 HB1
  rcases hf : fewB l with _ | _
  · go_wp2_with fail
    go_ret
    exact ⟨rfl, HB2.out⟩
  have hn300 : n ≤ 300 := by have := (few_iff.1 hf).1; omega
  clear hf
  go_wp2_with fail
  refine (new_any _).mono ?_
  rintro e w3 ⟨Z0, sa, rfl, h1, h2, h3⟩
  go_wp2_with fail
  refine (rnew_any _).mono ?_
  rintro e w4 ⟨Z1, sb, rfl, k1, k2, k3⟩
  have LC := hid (show Tw w w4 sa sb Z0 Z1 [] from ⟨h1.ext k3, k1, fun b hb hb' => by have := h1.zlt b hb; have := k2 b hb'; omega, fun b hb => Nat.le_trans HB2.out.size (h2 b hb), fun b hb => Nat.le_trans (Nat.le_trans HB2.out.size h3.size) (k2 b hb), (HB2.out.trans (h3.mono HB2.out.size)).trans (k3.mono (Nat.le_trans HB2.out.size h3.size))⟩)
  clear h1 h2 h3 k1 k2 k3 HB2
  go_wp2_with fail
  go_loopw [25] (fun v wr => ∃ (j : Nat) (Z Z' : Nat → Prop), v = .int .i64 j ∧ j ≤ n ∧ Tw w wr sa sb Z Z' (mksT [] (l.take j))) (fun v _ => n - (intOf v).toNat)
  case atStart => exact ⟨0, Z0, Z1, rfl, Nat.zero_le _, LC.out⟩
  case round =>
    clear LC
    obtain ⟨j, Z, Z', hv, hj, ht⟩ := hrel
    subst hv
    have HTT := hid ht
    clear ht
    by_cases hlt : j < n
    · obtain ⟨b, off, x, A', c', rfl, hx, y0', y1', y2', y3', ys⟩ := HL.out.at hlt
      have up : ∀ {p : Addr} {u : Value}, w.cell? p = some u → wr.cell? p = some u := fun h => (HTT.out.bl.cell (p := _) (block_lt_of_cell h)).trans h
      have y0 := up y0'; have y1 := up y1'; have y2 := up y2'; have y3 := up y3'
      clear up y0' y1' y2' y3'
      have HS := hid ys
      have HXI := hid (ndI_w (HI.out x (List.mem_of_getElem? hx)))
      have HM1 := hid (mksT_take (xs := []) hx)
      clear hx ys
      have hlt' : (j : Int) < (n : Int) := by omega
      have hal : Below wr.heap.size wr (wr.alloc (.cells #[.int .i64 x.o, .int .i64 x.n, .string x.s, .slice A' x.l.length c'] 29)) := (Below.refl _ _).alloc (Nat.le_refl _) _
      have HT1 := hid (HTT.out.ext hal)
      have HXB := hid (box_new (w := wr) (v0 := .int .i64 x.o) (v1 := .int .i64 x.n) (v2 := .string x.s) (v3 := .slice A' x.l.length c') (T := 29))
      have HZ1 := hid HTT.out.a.zlt
      clear hal HTT
      go_wp2_with fail
      refine (mke_any Z sa _ w.heap.size _ x A' c' HT1.out.a (HS.out.ext HT1.out.bl) (HT.out.on HT1.out.bl) HT1.out.sz HXI.out).mono ?_
      rintro e W7 ⟨rfl, hs7⟩
      obtain ⟨Z7, a7, q7, d7, z7, n7, t7, b7⟩ := HT1.out.mkA hs7
      have HX2 := hid (own_block HXB.out (w' := W7) fun b hb => t7.block b (HXB.out.lt b hb).2 fun k => by have := HZ1.out b k; have := (HXB.out.lt b hb).1; omega)
      have A7 := hid a7; have Q7 := hid q7; have D7 := hid d7; have ZZ7 := hid z7; have B7 := hid b7
      have ZB := hid HT1.out.zb
      clear a7 q7 d7 z7 n7 t7 b7 hs7 HT1 HXB y0 y1 y2 y3
      obtain ⟨⟨p0, p1, p2, p3⟩, -⟩ := box4 HX2.out
      go_wp2_with fail
      refine (rmke_any Z' sb _ W7 x A' c' Q7.out (HS.out.ext B7.out) HXI.out).mono ?_
      rintro e W8 ⟨rfl, hs8⟩
      obtain ⟨Z8, t8, -, -⟩ := Tw.mkB A7.out Q7.out D7.out ZZ7.out ZB.out B7.out hs8
      rw [← HM1.out] at t8
      have T8 := hid t8
      clear t8 hs8 p0 p1 p2 p3 HX2 A7 Q7 D7 ZZ7 B7 ZB
      go_wp2_with fail
      go_roundw
      case rel => exact ⟨j + 1, Z7, Z8, by go_num, by omega, T8.out⟩
      case measure => simp [intOf]; omega
    · obtain rfl : j = n := by omega
      have hlt' : ¬ (j : Int) < (j : Int) := by omega
      rw [show l.take j = l from List.take_of_length_le (by omega)] at HTT
      have hXl : (mksT [] l).length ≤ 300 := by have := mks_len [] l; simp at this; omega
      generalize mksT [] l = X at *
      go_wp2_with fail
      refine (rlen_any sb _ _ HTT.out.b.vw).mono ?_
      rintro e W10 ⟨rfl, hw⟩
      subst hw
      go_wp2_with fail
      refine (rlen_any sb _ _ HTT.out.b.vw).mono ?_
      rintro e W10 ⟨rfl, hw⟩
      subst hw
      go_wp2_with fail
      have HROW := hid (sla_row (w := W10) (T := 3) #[.int .i64 t, .int .i64 ((X.length : Int) - 1), .int .i64 ((X.length : Int) / 2)] (by unfold maxLen; simp))
      have HT0 := hid (HTT.out.ext ((Below.refl _ _).alloc (Nat.le_refl _) (.cells #[.int .i64 t, .int .i64 ((X.length : Int) - 1), .int .i64 ((X.length : Int) / 2)] 3)))
      refine forget (R := fun W => SlA W 1 (some ⟨W10.heap.size, 0, none⟩) 3 3 (([t, (X.length : Int) - 1, (X.length : Int) / 2] : List Int).map (.int .i64)) ∧ Tw w W sa sb Z Z' X) ?_ ⟨HROW.out, HT0.out⟩
      clear HROW HT0 HTT
      rintro W ⟨hrow, htw⟩
      have HTT := hid htw; have HROW := hid hrow
      clear hrow htw
      generalize ([t, (X.length : Int) - 1, (X.length : Int) / 2] : List Int) = vs at *
      have hvl := HROW.out.lenI
      have HVL := hid hvl
      clear hvl
      go_loopw [45] (fun v wq => ∃ q : Nat, v = .int .i64 q ∧ q ≤ 3 ∧ Tw w wq sa sb Z Z' X ∧ SlA wq 1 (some ⟨W10.heap.size, 0, none⟩) 3 3 (vs.map (.int .i64))) (fun v _ => 3 - (intOf v).toNat)
      case atStart => exact ⟨0, rfl, Nat.zero_le _, HTT.out, HROW.out⟩
      case round =>
        clear HTT HROW
        obtain ⟨q, hv, hq, htt, hrow⟩ := hrel
        subst hv
        have HTT := hid htt; have HROW := hid hrow
        clear htt hrow
        by_cases hlq : q < 3
        · obtain ⟨bq, oq, p, e, hp, hcp⟩ := HROW.out.elemI (k := q) hlq
          injection e with e
          injection e with e1 e2
          subst e1; subst e2
          rw [Nat.zero_add] at hcp
          have hlq' : (q : Int) < 3 := by omega
          clear hp
          have HSA := hid (fun (U : World) (h : Tw w U sa sb Z Z' X) => show_full sa X U h.a.vw (Tb.up (HT.out.on h.bl) h.sz) p)
          have HSB := hid (fun (U : World) (h : Tw w U sa sb Z Z' X) => rshow_any sb X U h.b.vw h.a.ok p)
          have HZA := hid (fun (U : World) (h : Tw w U sa sb Z Z' X) => size_any sa X p U h.a.vw)
          have HZB := hid (fun (U : World) (h : Tw w U sa sb Z Z' X) => rsize_any sb X U h.b.vw h.a.ok p)
          have HAA := hid (fun (U : World) (h : Tw w U sa sb Z Z' X) => atoms_any sa X p U h.a.vw)
          have HAB := hid (fun (U : World) (h : Tw w U sa sb Z Z' X) => ratoms_any sb X U h.b.vw h.a.ok p)
          have hal := atF_len X p
          have HAL := hid (show (atF X p).length ≤ 300 by omega)
          clear hal
          generalize atF X p = at' at *
          generalize (showF X p).2 = ee at *
          generalize (⟨(showF X p).1.toArray⟩ : ByteArray) = SS at *
          go_wp2_with fail
          refine (HSA.out _ HTT.out).mono ?_
          rintro e w1 ⟨rfl, b1⟩
          have T1 := hid (HTT.out.ext b1); have R1 := hid (HROW.out.ext b1)
          clear b1 HTT HROW hcp
          go_wp2_with fail
          refine (HSB.out _ T1.out).mono ?_
          rintro e w2 ⟨rfl, b2⟩
          have T2 := hid (T1.out.ext b2); have R2 := hid (R1.out.ext b2)
          clear b2 T1 R1
          have h1 : (!(SS.toList == SS.toList)) = false := by simp
          have h2 : (ee != ee) = false := by simp
          go_wp2_with fail
          refine (HZA.out _ T2.out).mono ?_
          rintro e w3 ⟨n3, rfl, hn3, b3⟩
          have HN3 := hid hn3
          have T3 := hid (T2.out.ext b3); have R3 := hid (R2.out.ext b3)
          clear b3 T2 R2 hn3
          go_wp2_with fail
          refine (HZB.out _ T3.out).mono ?_
          rintro e w4 ⟨n4, rfl, hn4, b4⟩
          have T4 := hid (T3.out.ext b4); have R4 := hid (R3.out.ext b4)
          obtain rfl : n4 = n3 := size_uniq hn4 HN3.out
          have h3 : ((n4 : Int) != (n4 : Int)) = false := by simp
          clear b4 T3 R3 hn4 HN3
          go_wp2_with fail
          refine (HAA.out _ T4.out).mono ?_
          rintro e w5 ⟨v5, rfl, o5, b5⟩
          obtain ⟨A5, c5, rfl, -⟩ := SlA.owned o5
          have S5 := hid (SlA.of_own o5).2
          have T5 := hid (T4.out.ext b5); have R5 := hid (R4.out.ext b5)
          clear o5 b5 T4 R4
          go_wp2_with fail
          refine (HAB.out _ T5.out).mono ?_
          rintro e w6 ⟨v6, rfl, o6, b6⟩
          obtain ⟨A6, c6, rfl, -⟩ := SlA.owned o6
          have S6 := hid (SlA.of_own o6).2
          have S5' := hid (S5.out.ext b6)
          have T6 := hid (T5.out.ext b6); have R6 := hid (R5.out.ext b6)
          clear o6 b6 T5 R5 S5
          go_wp2_with fail
          refine (same_ints A5 _ c5 at' A6 _ c6 at' _ S5'.out S6.out (by have := HAL.out; omega) (by have := HAL.out; omega)).mono ?_
          rintro e w7 ⟨rfl, q7, rfl⟩
          have T7 := hid (T6.out.ext (below_drewN (Below.refl _ _) q7)); have R7 := hid (R6.out.ext (below_drewN (Below.refl _ _) q7))
          rw [show (at' == at') = true by simp]
          clear T6 R6
          go_wp2_with fail
          go_roundw
          case rel => exact ⟨q + 1, by go_num, by omega, T7.out, R7.out⟩
          case measure => simp [intOf]; omega
        · have hq3 : q = 3 := by omega
          subst hq3
          have hlq' : ¬ (3 : Int) < 3 := by omega
          go_wp2_with fail
          go_ret
          exact ⟨rfl, HTT.out.bl⟩
end Go.Proofs.YtadbgmfdbahcbaaGreatDoor
