import Derived.Test.YtkgobglmkhkbbaaGreatDoorZ14
import Derived.Test.YtkgobglmkhkbbaaGreatDoorZ16
/- transcript's law: TranscriptReads walked. -/
namespace Go.KK
open Go.RowKit
set_option linter.unusedVariables false
set_option linter.unusedSimpArgs false

theorem rdO_five (X : List ND) (t : Int) : ∃ p0 p1 p2 p3 p4, (rdO X t).getD [0, 0, 0, 0, 0] = [p0, p1, p2, p3, p4] := by
  unfold rdO
  split
  · split
    · rcases numO (nodeF X ((nodeF X t).l.getD 2 0)).s with _ | k
      · exact ⟨0, 0, 0, 0, 0, rfl⟩
      · exact ⟨_, _, _, _, _, rfl⟩
    · exact ⟨0, 0, 0, 0, 0, rfl⟩
  · exact ⟨0, 0, 0, 0, 0, rfl⟩
end Go.KK
namespace Go.Proofs.YtkgobglmkhkbbaaGreatDoor
open Go.RowKit Go.KK Go.Shelf Go.Maps

set_option maxHeartbeats 8000000 in
set_option maxRecDepth 100000 in
theorem reads_go (head digits : ByteArray) (A : Option Addr) (n c : Nat) (l : List Int) (x : Int) (w : World) (hl : SlA w 1 A n c (l.map (.int .i64))) (hli : ∀ i ∈ l, I64 i) (hx : I64 x) (hT : Tb w.heap.size w) (hE : EvS w.heap.size w) :
    Calls Tryz.prog 9 #[.string head, .string digits, .slice A n c, .int .i64 x] w fun e w' => e = .returned (.bool true) ∧ Below w.heap.size w w' := by
  have HLV := hid (live12_any w hT hE)
  have HT := hid hT; have HL := hid hl; have HLI := hid hli; have HE := hid hE
  clear hT hE hl hli
  go_enter Tryz.func9, Tryz.ntmps9
  go_wp2_with fail
  refine HLV.out.mono ?_
  rintro e w1 ⟨rfl, b1⟩
  have HB1 := hid b1
  have HT1 := hid (show Tb w1.heap.size w1 from Tb.up (HT.out.on b1) b1.size)
  have HE1 := hid (show EvS w1.heap.size w1 from EvS.up (EvS.on HE.out b1 (Nat.le_refl _)) b1.size)
  have HL1 := hid (HL.out.ext b1)
  clear b1 HLV HT HL HE
  by_cases bh : 100 < head.size
  · have ch : (100 : Int) < (head.size : Int) := by omega
    clear bh
    go_wp2_with fail
    go_ret
    exact ⟨rfl, HB1.out⟩
  have ch : ¬ (100 : Int) < (head.size : Int) := by omega
  have dh := bh
  clear bh
  by_cases bd : 100 < digits.size
  · have cd : (100 : Int) < (digits.size : Int) := by omega
    clear bd
    go_wp2_with fail
    go_ret
    exact ⟨rfl, HB1.out⟩
  have cd : ¬ (100 : Int) < (digits.size : Int) := by omega
  have dd := bd
  clear bd
  by_cases bn : 20 < n
  · have cn : (20 : Int) < (n : Int) := by omega
    clear bn
    go_wp2_with fail
    go_ret
    exact ⟨rfl, HB1.out⟩
  have cn : ¬ (20 : Int) < (n : Int) := by omega
  have dn := bn
  clear bn
  go_wp2_with fail
  refine (two12_any w1 HT1.out).mono ?_
  rintro e w2 ⟨sa, sb, Z, Z', rfl, htw⟩
  have TX := hid ((Tx.of htw).alloc (.cells #[.string head, .string digits] 9))
  have HEB := hid (heap_alloc_new w2 (.cells #[.string head, .string digits] 9))
  have HZB := hid (show w2.heap.size < (w2.alloc (.cells #[.string head, .string digits] 9)).heap.size ∧ ¬ Z w2.heap.size ∧ ¬ Z' w2.heap.size from ⟨by simp, fun hz => by have := (Tx.of htw).a.ar.zlt _ hz; omega, fun hz => by have := (Tx.of htw).b.ar.zlt _ hz; omega⟩)
  clear htw
  obtain ⟨R1, hR1⟩ : ∃ R1 : Rs, R1 = mk (atoms 10) (txN head) := ⟨_, rfl⟩
  obtain ⟨R2, hR2⟩ : ∃ R2 : Rs, R2 = mk R1.1 (txN digits) := ⟨_, rfl⟩
  obtain ⟨R3, hR3⟩ : ∃ R3 : Rs, R3 = mk R2.1 (ndN 3 l) := ⟨_, rfl⟩
  have HR1 := hid hR1; have HR2 := hid hR2; have HR3 := hid hR3
  clear hR1 hR2 hR3
  go_wp2_with fail
  generalize w2.alloc (.cells #[.string head, .string digits] 9) = w3 at *
  generalize w2.heap.size = sbk at *
  go_loopw [44] (fun v wr => ∃ (k : Nat) (Zr Zr' : Nat → Prop), v = .int .i64 k ∧ Hid (wr.heap[sbk]? = some (.cells #[.string head, .string digits] 9 (0, 0)) ∧ ¬ Zr sbk ∧ ¬ Zr' sbk) ∧ ((k = 0 ∧ Hid (Tx w1 wr sa sb Zr Zr' (atoms 10) (atoms 10))) ∨ (k = 1 ∧ Hid (Tx w1 wr sa sb Zr Zr' R1.1 R1.1)) ∨ (k = 2 ∧ Hid (Tx w1 wr sa sb Zr Zr' R2.1 R2.1)))) (fun v _ => 2 - (intOf v).toNat)
  case atStart => exact ⟨0, Z, Z', rfl, hid ⟨HEB.out, HZB.out.2.1, HZB.out.2.2⟩, .inl ⟨rfl, TX⟩⟩
  case round =>
    clear TX HEB HZB
    obtain ⟨k, Zr, Zr', hv, HEB, hk⟩ := hrel
    have g0 : wr.cell? ⟨sbk, 0, none⟩ = some (.string head) := by rw [cell_of_row wr sbk 0 _ _ (0, 0) HEB.out.1]; rfl
    have g1 : wr.cell? ⟨sbk, 1, none⟩ = some (.string digits) := by rw [cell_of_row wr sbk 1 _ _ (0, 0) HEB.out.1]; rfl
    rcases hk with ⟨rfl, TX⟩ | ⟨rfl, TX⟩ | ⟨rfl, TX⟩
    · have hv' : u44 = .int .i64 0 := hv
      clear hv
      subst hv'
      have HA := hid (l_text TX.out.a HT1.out head)
      rw [← HR1.out] at HA
      go_wp2_with fail
      refine HA.out.mono ?_
      rintro e w4 ⟨Z4, rfl, l4, m4⟩
      have T4 := hid (TX.out.onA l4 m4)
      have HE4 := hid (Mv.cellE HEB.out.1 m4 HEB.out.2.1)
      have HZ4 := hid (show ¬ Z4 sbk from fun hz => (m4.n _ hz).elim HEB.out.2.1 fun h => by have := (Array.getElem?_eq_some_iff.1 HEB.out.1).1; omega)
      have HB := hid (q_text T4.out.b head)
      rw [← HR1.out] at HB
      clear l4 m4 HA TX g0 g1
      go_wp2_with fail
      refine HB.out.mono ?_
      rintro e w5 ⟨Z5, rfl, l5, m5⟩
      have T5 := hid (T4.out.onB l5 m5)
      have HE5 := hid (show w5.heap[sbk]? = some (.cells #[.string head, .string digits] 9 (0, 0)) ∧ ¬ Z4 sbk ∧ ¬ Z5 sbk from ⟨Mv.cellE HE4.out m5 HEB.out.2.2, HZ4.out, fun hz => (m5.n _ hz).elim HEB.out.2.2 fun h => by have := (Array.getElem?_eq_some_iff.1 HE4.out).1; omega⟩)
      clear l5 m5 HB T4 HEB HE4 HZ4
      go_wp2_with fail
      go_roundw
      case rel => exact ⟨1, Z4, Z5, rfl, HE5, .inr (.inl ⟨rfl, T5⟩)⟩
      case measure => simp [intOf]
    · have hv' : u44 = .int .i64 1 := hv
      clear hv
      subst hv'
      have HA := hid (l_text TX.out.a HT1.out digits)
      rw [← HR2.out] at HA
      go_wp2_with fail
      refine HA.out.mono ?_
      rintro e w4 ⟨Z4, rfl, l4, m4⟩
      have T4 := hid (TX.out.onA l4 m4)
      have HE4 := hid (Mv.cellE HEB.out.1 m4 HEB.out.2.1)
      have HZ4 := hid (show ¬ Z4 sbk from fun hz => (m4.n _ hz).elim HEB.out.2.1 fun h => by have := (Array.getElem?_eq_some_iff.1 HEB.out.1).1; omega)
      have HB := hid (q_text T4.out.b digits)
      rw [← HR2.out] at HB
      clear l4 m4 HA TX g0 g1
      go_wp2_with fail
      refine HB.out.mono ?_
      rintro e w5 ⟨Z5, rfl, l5, m5⟩
      have T5 := hid (T4.out.onB l5 m5)
      have HE5 := hid (show w5.heap[sbk]? = some (.cells #[.string head, .string digits] 9 (0, 0)) ∧ ¬ Z4 sbk ∧ ¬ Z5 sbk from ⟨Mv.cellE HE4.out m5 HEB.out.2.2, HZ4.out, fun hz => (m5.n _ hz).elim HEB.out.2.2 fun h => by have := (Array.getElem?_eq_some_iff.1 HE4.out).1; omega⟩)
      clear l5 m5 HB T4 HEB HE4 HZ4
      go_wp2_with fail
      go_roundw
      case rel => exact ⟨2, Z4, Z5, rfl, HE5, .inr (.inr ⟨rfl, T5⟩)⟩
      case measure => simp [intOf]
    · have hv' : u44 = .int .i64 2 := hv
      clear hv
      subst hv'
      have HA := hid (l_list TX.out.a HT1.out (HL1.out.ext TX.out.a.bl) HLI.out)
      rw [← HR3.out] at HA
      clear g0 g1 HEB
      go_wp2_with fail
      refine HA.out.mono ?_
      rintro e w4 ⟨Z4, rfl, l4, m4⟩
      have T4 := hid (TX.out.onA l4 m4)
      have HB := hid (q_list T4.out.b (HL1.out.ext T4.out.a.bl) HLI.out)
      rw [← HR3.out] at HB
      clear l4 m4 HA TX
      go_wp2_with fail
      refine HB.out.mono ?_
      rintro e w5 ⟨Z5, rfl, l5, m5⟩
      have T5 := hid (T4.out.onB l5 m5)
      clear l5 m5 HB T4
      obtain ⟨X, hX⟩ : ∃ X, X = R3.1 := ⟨_, rfl⟩
      rw [← hX] at T5
      clear hX HR1 HR2 HR3
      have hXl := T5.out.a.ar.ok.len
      go_wp2_with fail
      refine (rlen_any sb X w5 T5.out.b.ar.vw).mono ?_
      rintro e w6 ⟨rfl, hw⟩
      subst hw
      have T6 := hid (T5.out.alloc (.cells #[.int .i64 x, .int .i64 ((X.length : Int) - 1)] 3))
      have HE6 := hid (heap_alloc_new w6 (.cells #[.int .i64 x, .int .i64 ((X.length : Int) - 1)] 3))
      clear T5
      go_wp2_with fail
      generalize w6.alloc (.cells #[.int .i64 x, .int .i64 ((X.length : Int) - 1)] 3) = w7 at *
      generalize w6.heap.size = kbk at *
      go_loopw [67] (fun v wr2 => ∃ k : Nat, v = .int .i64 k ∧ k ≤ 2 ∧ Hid (Below w7.heap.size w7 wr2)) (fun v _ => 2 - (intOf v).toNat)
      case atStart => exact ⟨0, rfl, by omega, hid (Below.refl _ _)⟩
      case round =>
        obtain ⟨k, hv, hk2, HBW⟩ := hrel
        by_cases hlt : k < 2
        · have TW := hid (T6.out.ext HBW.out)
          have HEW := hid ((HBW.out.block _ (Array.getElem?_eq_some_iff.1 HE6.out).1).trans HE6.out)
          rcases (show k = 0 ∨ k = 1 by omega) with rfl | rfl
          · have hv' : u67 = .int .i64 0 := hv
            clear hv
            subst hv'
            have g0 : wr.cell? ⟨kbk, 0, none⟩ = some (.int .i64 x) := by rw [cell_of_row wr kbk 0 _ _ (0, 0) HEW.out]; rfl
            have HRA := hid (read_any sa X x wr TW.out.a.ar.vw (Tb.up (HT1.out.on TW.out.a.bl) TW.out.a.sz) (EvS.up (EvS.on HE1.out TW.out.a.bl (Nat.le_refl _)) TW.out.a.sz))
            have HRB := hid (fun U (hu : ArV U 104 sb X) => rread_any sb X x U hu)
            unfold RdS at HRA HRB
            obtain ⟨p0, p1, p2, p3, p4, hp⟩ := rdO_five X x
            have hv5 : v5 (rd5 (rdO X x)) = .agg #[.int .i64 p0, .int .i64 p1, .int .i64 p2, .int .i64 p3, .int .i64 p4] := by unfold rd5; rw [hp]; rfl
            rw [hv5] at HRA HRB
            obtain ⟨er, her⟩ : ∃ er, er = rdE (rdO X x) := ⟨_, rfl⟩
            rw [← her] at HRA HRB
            have hnq : ∀ U, (binOp .neq 58 (.agg #[.int .i64 p0, .int .i64 p1, .int .i64 p2, .int .i64 p3, .int .i64 p4]) (.agg #[.int .i64 p0, .int .i64 p1, .int .i64 p2, .int .i64 p3, .int .i64 p4])).run Tryz.prog U = .ok (.bool false) U := fun U => by
              rw [run_neq_struct]
              have := run_equalIn_arr (P := Tryz.prog) U 9998 5 Tryz.underlying58 Tryz.underlying3 (fun W => Tryz.sizeOf3 W) [p0, p1, p2, p3, p4] [p0, p1, p2, p3, p4] rfl rfl
              rw [beq_self_eq_true] at this
              exact (congrArg (fun r : Result Bool => r.andThen _) this).trans rfl
            clear her hp hv5
            go_wp2_with fail
            refine (rlen_any sb X wr TW.out.b.ar.vw).mono ?_
            rintro e wa ⟨rfl, hw⟩
            subst hw
            go_wp2_with fail
            refine HRA.out.mono ?_
            rintro e wb ⟨rfl, hbb⟩
            have HB8 := hid (hbb.alloc hbb.size (.cells #[.int .i64 p0, .int .i64 p1, .int .i64 p2, .int .i64 p3, .int .i64 p4] 58))
            have HN8 := hid (heap_alloc_new wb (.cells #[.int .i64 p0, .int .i64 p1, .int .i64 p2, .int .i64 p3, .int .i64 p4] 58))
            clear hbb HRA g0
            go_wp2_with fail
            refine (HRB.out _ (TW.out.ext HB8.out).b.ar.vw).mono ?_
            rintro e wd ⟨rfl, hbd⟩
            have HB9 := hid (HB8.out.trans ((hbd.alloc hbd.size (.cells #[.int .i64 p0, .int .i64 p1, .int .i64 p2, .int .i64 p3, .int .i64 p4] 58)).mono HB8.out.size))
            have HN9 := hid (((hbd.alloc hbd.size (.cells #[.int .i64 p0, .int .i64 p1, .int .i64 p2, .int .i64 p3, .int .i64 p4] 58)).block _ (Array.getElem?_eq_some_iff.1 HN8.out).1).trans HN8.out)
            obtain ⟨za, zb, zc, zd, ze⟩ := five_cells HN9.out
            clear hbd HRB HN8
            have T9 := hid (TW.out.ext HB9.out)
            go_wp2_with fail
            refine (len_any sa X _ T9.out.a.ar.vw).mono ?_
            rintro e we ⟨rfl, hw⟩
            subst hw
            go_wp2_with fail
            go_roundw
            case rel => exact ⟨1, by go_num, by omega, hid (HBW.out.trans (HB9.out.mono HBW.out.size))⟩
            case measure => simp [intOf]
          · have hv' : u67 = .int .i64 1 := hv
            clear hv
            subst hv'
            have g0 : wr.cell? ⟨kbk, 1, none⟩ = some (.int .i64 ((X.length : Int) - 1)) := by rw [cell_of_row wr kbk 1 _ _ (0, 0) HEW.out]; rfl
            have HRA := hid (read_any sa X ((X.length : Int) - 1) wr TW.out.a.ar.vw (Tb.up (HT1.out.on TW.out.a.bl) TW.out.a.sz) (EvS.up (EvS.on HE1.out TW.out.a.bl (Nat.le_refl _)) TW.out.a.sz))
            have HRB := hid (fun U (hu : ArV U 104 sb X) => rread_any sb X ((X.length : Int) - 1) U hu)
            unfold RdS at HRA HRB
            obtain ⟨p0, p1, p2, p3, p4, hp⟩ := rdO_five X ((X.length : Int) - 1)
            have hv5 : v5 (rd5 (rdO X ((X.length : Int) - 1))) = .agg #[.int .i64 p0, .int .i64 p1, .int .i64 p2, .int .i64 p3, .int .i64 p4] := by unfold rd5; rw [hp]; rfl
            rw [hv5] at HRA HRB
            obtain ⟨er, her⟩ : ∃ er, er = rdE (rdO X ((X.length : Int) - 1)) := ⟨_, rfl⟩
            rw [← her] at HRA HRB
            have hnq : ∀ U, (binOp .neq 58 (.agg #[.int .i64 p0, .int .i64 p1, .int .i64 p2, .int .i64 p3, .int .i64 p4]) (.agg #[.int .i64 p0, .int .i64 p1, .int .i64 p2, .int .i64 p3, .int .i64 p4])).run Tryz.prog U = .ok (.bool false) U := fun U => by
              rw [run_neq_struct]
              have := run_equalIn_arr (P := Tryz.prog) U 9998 5 Tryz.underlying58 Tryz.underlying3 (fun W => Tryz.sizeOf3 W) [p0, p1, p2, p3, p4] [p0, p1, p2, p3, p4] rfl rfl
              rw [beq_self_eq_true] at this
              exact (congrArg (fun r : Result Bool => r.andThen _) this).trans rfl
            clear her hp hv5
            go_wp2_with fail
            refine (rlen_any sb X wr TW.out.b.ar.vw).mono ?_
            rintro e wa ⟨rfl, hw⟩
            subst hw
            go_wp2_with fail
            refine HRA.out.mono ?_
            rintro e wb ⟨rfl, hbb⟩
            have HB8 := hid (hbb.alloc hbb.size (.cells #[.int .i64 p0, .int .i64 p1, .int .i64 p2, .int .i64 p3, .int .i64 p4] 58))
            have HN8 := hid (heap_alloc_new wb (.cells #[.int .i64 p0, .int .i64 p1, .int .i64 p2, .int .i64 p3, .int .i64 p4] 58))
            clear hbb HRA g0
            go_wp2_with fail
            refine (HRB.out _ (TW.out.ext HB8.out).b.ar.vw).mono ?_
            rintro e wd ⟨rfl, hbd⟩
            have HB9 := hid (HB8.out.trans ((hbd.alloc hbd.size (.cells #[.int .i64 p0, .int .i64 p1, .int .i64 p2, .int .i64 p3, .int .i64 p4] 58)).mono HB8.out.size))
            have HN9 := hid (((hbd.alloc hbd.size (.cells #[.int .i64 p0, .int .i64 p1, .int .i64 p2, .int .i64 p3, .int .i64 p4] 58)).block _ (Array.getElem?_eq_some_iff.1 HN8.out).1).trans HN8.out)
            obtain ⟨za, zb, zc, zd, ze⟩ := five_cells HN9.out
            clear hbd HRB HN8
            have T9 := hid (TW.out.ext HB9.out)
            go_wp2_with fail
            refine (len_any sa X _ T9.out.a.ar.vw).mono ?_
            rintro e we ⟨rfl, hw⟩
            subst hw
            go_wp2_with fail
            go_roundw
            case rel => exact ⟨2, by go_num, by omega, hid (HBW.out.trans (HB9.out.mono HBW.out.size))⟩
            case measure => simp [intOf]
        · obtain rfl : k = 2 := by omega
          have hv' : u67 = .int .i64 2 := hv
          clear hv
          subst hv'
          go_wp2_with fail
          go_ret
          exact ⟨rfl, HB1.out.trans ((T6.out.a.bl.trans (HBW.out.mono T6.out.a.sz)).mono HB1.out.size)⟩
end Go.Proofs.YtkgobglmkhkbbaaGreatDoor

