import Derived.Test.YtkgobglmkhkbbaaGreatDoorZ14
import Derived.Test.YtkgobglmkhkbbaaGreatDoorZ16
import Derived.Test.YtkgobglmkhkbbaaGreatDoorZ09
import Derived.Test.YtkgobglmkhkbbaaGreatDoorZ05
import Derived.Test.YtkgobglmkhkbbaaGreatDoorZ03
import Derived.Maps.Own
import Derived.Maps.Views
import Derived.WideKeyPair
import Derived.Deep.LoopGhost
import Derived.StillTailTactics
/- transcript's law: TranscriptReads walked. -/
namespace Go.KK
open Go.RowKit
set_option linter.unusedVariables false
set_option linter.unusedSimpArgs false

theorem rdO_five (X : List ND) (t : Int) : ∃ p0 p1 p2 p3 p4, (rdO X t).getD [0, 0, 0, 0, 0] = [p0, p1, p2, p3, p4] := by
  unfold rdO
  split
  · split
    · rcases numO (nodeF X ((nodeF X t).l.getD 2 0)).s with _ | k
      · exact ⟨0, 0, 0, 0, 0, rfl⟩
      · exact ⟨_, _, _, _, _, rfl⟩
    · exact ⟨0, 0, 0, 0, 0, rfl⟩
  · exact ⟨0, 0, 0, 0, 0, rfl⟩
end Go.KK
namespace Go.Proofs.YtkgobglmkhkbbaaGreatDoor
open Go.RowKit Go.KK Go.Shelf Go.Maps

set_option maxHeartbeats 8000000 in
set_option maxRecDepth 100000 in
theorem reads_go (head digits : ByteArray) (A : Option Addr) (n c : Nat) (l : List Int) (x : Int) (w : World) (hl : SlA w 1 A n c (l.map (.int .i64))) (hli : ∀ i ∈ l, I64 i) (hx : I64 x) (hT : Tb w.heap.size w) (hE : EvS w.heap.size w) :
    Calls Tryz.prog 9 #[.string head, .string digits, .slice A n c, .int .i64 x] w fun e w' => e = .returned (.bool true) ∧ Below w.heap.size w w' := by
  have HLV := hid (live12_any w hT hE)
  have HT := hid hT; have HL := hid hl; have HLI := hid hli; have HE := hid hE
  clear hT hE hl hli
  go_enter Tryz.func9, Tryz.ntmps9
  go_wp2_with fail
  refine HLV.out.mono ?_
  rintro e w1 ⟨rfl, b1⟩
  have HB1 := hid b1
  have HT1 := hid (show Tb w1.heap.size w1 from Tb.up (HT.out.on b1) b1.size)
  have HE1 := hid (show EvS w1.heap.size w1 from EvS.up (EvS.on HE.out b1 (Nat.le_refl _)) b1.size)
  have HL1 := hid (HL.out.ext b1)
  clear b1 HLV HT HL HE
  by_cases bh : 100 < head.size
  · have ch : (100 : Int) < (head.size : Int) := by omega
    clear bh
    go_wp2_with fail
    go_ret
    exact ⟨rfl, HB1.out⟩
  have ch : ¬ (100 : Int) < (head.size : Int) := by omega
  have dh := bh
  clear bh
  by_cases bd : 100 < digits.size
  · have cd : (100 : Int) < (digits.size : Int) := by omega
    clear bd
    go_wp2_with fail
    go_ret
    exact ⟨rfl, HB1.out⟩
  have cd : ¬ (100 : Int) < (digits.size : Int) := by omega
  have dd := bd
  clear bd
  by_cases bn : 20 < n
  · have cn : (20 : Int) < (n : Int) := by omega
    clear bn
    go_wp2_with fail
    go_ret
    exact ⟨rfl, HB1.out⟩
  have cn : ¬ (20 : Int) < (n : Int) := by omega
  have dn := bn
  clear bn
  go_wp2_with fail
  refine (two12_any w1 HT1.out).mono ?_
  rintro e w2 ⟨sa, sb, Z, Z', rfl, htw⟩
  have TX := hid ((Tx.of htw).alloc (.cells #[.string head, .string digits] 9))
  have HEB := hid (heap_alloc_new w2 (.cells #[.string head, .string digits] 9))
  have HZB := hid (show w2.heap.size < (w2.alloc (.cells #[.string head, .string digits] 9)).heap.size ∧ ¬ Z w2.heap.size ∧ ¬ Z' w2.heap.size from ⟨by simp, fun hz => by have := (Tx.of htw).a.ar.zlt _ hz; omega, fun hz => by have := (Tx.of htw).b.ar.zlt _ hz; omega⟩)
  clear htw
  obtain ⟨R1, hR1⟩ : ∃ R1 : Rs, R1 = mk (atoms 10) (txN head) := ⟨_, rfl⟩
  obtain ⟨R2, hR2⟩ : ∃ R2 : Rs, R2 = mk R1.1 (txN digits) := ⟨_, rfl⟩
  obtain ⟨R3, hR3⟩ : ∃ R3 : Rs, R3 = mk R2.1 (ndN 3 l) := ⟨_, rfl⟩
  have HR1 := hid hR1; have HR2 := hid hR2; have HR3 := hid hR3
  clear hR1 hR2 hR3
  go_wp2_with fail
  generalize w2.alloc (.cells #[.string head, .string digits] 9) = w3 at *
  generalize w2.heap.size = sbk at *
  go_loopw [44] (fun v wr => ∃ (k : Nat) (Zr Zr' : Nat → Prop), v = .int .i64 k ∧ Hid (wr.heap[sbk]? = some (.cells #[.string head, .string digits] 9 (0, 0)) ∧ ¬ Zr sbk ∧ ¬ Zr' sbk) ∧ ((k = 0 ∧ Hid (Tx w1 wr sa sb Zr Zr' (atoms 10) (atoms 10))) ∨ (k = 1 ∧ Hid (Tx w1 wr sa sb Zr Zr' R1.1 R1.1)) ∨ (k = 2 ∧ Hid (Tx w1 wr sa sb Zr Zr' R2.1 R2.1)))) (fun v _ => 2 - (intOf v).toNat)
  case atStart => exact ⟨0, Z, Z', rfl, hid ⟨HEB.out, HZB.out.2.1, HZB.out.2.2⟩, .inl ⟨rfl, TX⟩⟩
  case round =>
    clear TX HEB HZB
    obtain ⟨k, Zr, Zr', hv, HEB, hk⟩ := hrel
    have g0 : wr.cell? ⟨sbk, 0, none⟩ = some (.string head) := by rw [cell_of_row wr sbk 0 _ _ (0, 0) HEB.out.1]; rfl
    have g1 : wr.cell? ⟨sbk, 1, none⟩ = some (.string digits) := by rw [cell_of_row wr sbk 1 _ _ (0, 0) HEB.out.1]; rfl
    rcases hk with ⟨rfl, TX⟩ | ⟨rfl, TX⟩ | ⟨rfl, TX⟩
    · have hv' : u44 = .int .i64 0 := hv
      clear hv
      subst hv'
      have HA := hid (l_text TX.out.a HT1.out head)
      rw [← HR1.out] at HA
      go_wp2_with fail
      refine HA.out.mono ?_
      rintro e w4 ⟨Z4, rfl, l4, m4⟩
      have T4 := hid (TX.out.onA l4 m4)
      have HE4 := hid (Mv.cellE HEB.out.1 m4 HEB.out.2.1)
      have HZ4 := hid (show ¬ Z4 sbk from fun hz => (m4.n _ hz).elim HEB.out.2.1 fun h => by have := (Array.getElem?_eq_some_iff.1 HEB.out.1).1; omega)
      have HB := hid (q_text T4.out.b head)
      rw [← HR1.out] at HB
      clear l4 m4 HA TX g0 g1
      go_wp2_with fail
      refine HB.out.mono ?_
      rintro e w5 ⟨Z5, rfl, l5, m5⟩
      have T5 := hid (T4.out.onB l5 m5)
      have HE5 := hid (show w5.heap[sbk]? = some (.cells #[.string head, .string digits] 9 (0, 0)) ∧ ¬ Z4 sbk ∧ ¬ Z5 sbk from ⟨Mv.cellE HE4.out m5 HEB.out.2.2, HZ4.out, fun hz => (m5.n _ hz).elim HEB.out.2.2 fun h => by have := (Array.getElem?_eq_some_iff.1 HE4.out).1; omega⟩)
      clear l5 m5 HB T4 HEB HE4 HZ4
      go_wp2_with fail
      go_roundw
      case rel => exact ⟨1, Z4, Z5, rfl, HE5, .inr (.inl ⟨rfl, T5⟩)⟩
      case measure => simp [intOf]
    · have hv' : u44 = .int .i64 1 := hv
      clear hv
      subst hv'
      have HA := hid (l_text TX.out.a HT1.out digits)
      rw [← HR2.out] at HA
      go_wp2_with fail
      refine HA.out.mono ?_
      rintro e w4 ⟨Z4, rfl, l4, m4⟩
      have T4 := hid (TX.out.onA l4 m4)
      have HE4 := hid (Mv.cellE HEB.out.1 m4 HEB.out.2.1)
      have HZ4 := hid (show ¬ Z4 sbk from fun hz => (m4.n _ hz).elim HEB.out.2.1 fun h => by have := (Array.getElem?_eq_some_iff.1 HEB.out.1).1; omega)
      have HB := hid (q_text T4.out.b digits)
      rw [← HR2.out] at HB
      clear l4 m4 HA TX g0 g1
      go_wp2_with fail
      refine HB.out.mono ?_
      rintro e w5 ⟨Z5, rfl, l5, m5⟩
      have T5 := hid (T4.out.onB l5 m5)
      have HE5 := hid (show w5.heap[sbk]? = some (.cells #[.string head, .string digits] 9 (0, 0)) ∧ ¬ Z4 sbk ∧ ¬ Z5 sbk from ⟨Mv.cellE HE4.out m5 HEB.out.2.2, HZ4.out, fun hz => (m5.n _ hz).elim HEB.out.2.2 fun h => by have := (Array.getElem?_eq_some_iff.1 HE4.out).1; omega⟩)
      clear l5 m5 HB T4 HEB HE4 HZ4
      go_wp2_with fail
      go_roundw
      case rel => exact ⟨2, Z4, Z5, rfl, HE5, .inr (.inr ⟨rfl, T5⟩)⟩
      case measure => simp [intOf]
    · have hv' : u44 = .int .i64 2 := hv
      clear hv
      subst hv'
      have HA := hid (l_list TX.out.a HT1.out (HL1.out.ext TX.out.a.bl) HLI.out)
      rw [← HR3.out] at HA
      clear g0 g1 HEB
      go_wp2_with fail
      refine HA.out.mono ?_
      rintro e w4 ⟨Z4, rfl, l4, m4⟩
      have T4 := hid (TX.out.onA l4 m4)
      have HB := hid (q_list T4.out.b (HL1.out.ext T4.out.a.bl) HLI.out)
      rw [← HR3.out] at HB
      clear l4 m4 HA TX
      go_wp2_with fail
      refine HB.out.mono ?_
      rintro e w5 ⟨Z5, rfl, l5, m5⟩
      have T5 := hid (T4.out.onB l5 m5)
      clear l5 m5 HB T4
      obtain ⟨X, hX⟩ : ∃ X, X = R3.1 := ⟨_, rfl⟩
      rw [← hX] at T5
      clear hX HR1 HR2 HR3
      have hXl := T5.out.a.ar.ok.len
      go_wp2_with fail
      refine (rlen_any sb X w5 T5.out.b.ar.vw).mono ?_
      rintro e w6 ⟨rfl, hw⟩
      subst hw
      have T6 := hid (T5.out.alloc (.cells #[.int .i64 x, .int .i64 ((X.length : Int) - 1)] 3))
      have HE6 := hid (heap_alloc_new w6 (.cells #[.int .i64 x, .int .i64 ((X.length : Int) - 1)] 3))
      clear T5
      go_wp2_with fail
      generalize w6.alloc (.cells #[.int .i64 x, .int .i64 ((X.length : Int) - 1)] 3) = w7 at *
      generalize w6.heap.size = kbk at *
      go_loopw [67] (fun v wr2 => ∃ k : Nat, v = .int .i64 k ∧ k ≤ 2 ∧ Hid (Below w7.heap.size w7 wr2)) (fun v _ => 2 - (intOf v).toNat)
      case atStart => exact ⟨0, rfl, by omega, hid (Below.refl _ _)⟩
      case round =>
        obtain ⟨k, hv, hk2, HBW⟩ := hrel
        by_cases hlt : k < 2
        · have TW := hid (T6.out.ext HBW.out)
          have HEW := hid ((HBW.out.block _ (Array.getElem?_eq_some_iff.1 HE6.out).1).trans HE6.out)
          rcases (show k = 0 ∨ k = 1 by omega) with rfl | rfl
          · have hv' : u67 = .int .i64 0 := hv
            clear hv
            subst hv'
            have g0 : wr.cell? ⟨kbk, 0, none⟩ = some (.int .i64 x) := by rw [cell_of_row wr kbk 0 _ _ (0, 0) HEW.out]; rfl
            have HRA := hid (read_any sa X x wr TW.out.a.ar.vw (Tb.up (HT1.out.on TW.out.a.bl) TW.out.a.sz) (EvS.up (EvS.on HE1.out TW.out.a.bl (Nat.le_refl _)) TW.out.a.sz))
            have HRB := hid (fun U (hu : ArV U 104 sb X) => rread_any sb X x U hu)
            unfold RdS at HRA HRB
            obtain ⟨p0, p1, p2, p3, p4, hp⟩ := rdO_five X x
            have hv5 : v5 (rd5 (rdO X x)) = .agg #[.int .i64 p0, .int .i64 p1, .int .i64 p2, .int .i64 p3, .int .i64 p4] := by unfold rd5; rw [hp]; rfl
            rw [hv5] at HRA HRB
            obtain ⟨er, her⟩ : ∃ er, er = rdE (rdO X x) := ⟨_, rfl⟩
            rw [← her] at HRA HRB
            have hnq : ∀ U, (binOp .neq 58 (.agg #[.int .i64 p0, .int .i64 p1, .int .i64 p2, .int .i64 p3, .int .i64 p4]) (.agg #[.int .i64 p0, .int .i64 p1, .int .i64 p2, .int .i64 p3, .int .i64 p4])).run Tryz.prog U = .ok (.bool false) U := fun U => by
              rw [run_neq_struct]
              have := run_equalIn_arr (P := Tryz.prog) U 9998 5 Tryz.underlying58 Tryz.underlying3 (fun W => Tryz.sizeOf3 W) [p0, p1, p2, p3, p4] [p0, p1, p2, p3, p4] rfl rfl
              rw [beq_self_eq_true] at this
              exact (congrArg (fun r : Result Bool => r.andThen _) this).trans rfl
            clear her hp hv5
            go_wp2_with fail
            refine (rlen_any sb X wr TW.out.b.ar.vw).mono ?_
            rintro e wa ⟨rfl, hw⟩
            subst hw
            go_wp2_with fail
            refine HRA.out.mono ?_
            rintro e wb ⟨rfl, hbb⟩
            have HB8 := hid (hbb.alloc hbb.size (.cells #[.int .i64 p0, .int .i64 p1, .int .i64 p2, .int .i64 p3, .int .i64 p4] 58))
            have HN8 := hid (heap_alloc_new wb (.cells #[.int .i64 p0, .int .i64 p1, .int .i64 p2, .int .i64 p3, .int .i64 p4] 58))
            clear hbb HRA g0
            go_wp2_with fail
            refine (HRB.out _ (TW.out.ext HB8.out).b.ar.vw).mono ?_
            rintro e wd ⟨rfl, hbd⟩
            have HB9 := hid (HB8.out.trans ((hbd.alloc hbd.size (.cells #[.int .i64 p0, .int .i64 p1, .int .i64 p2, .int .i64 p3, .int .i64 p4] 58)).mono HB8.out.size))
            have HN9 := hid (((hbd.alloc hbd.size (.cells #[.int .i64 p0, .int .i64 p1, .int .i64 p2, .int .i64 p3, .int .i64 p4] 58)).block _ (Array.getElem?_eq_some_iff.1 HN8.out).1).trans HN8.out)
            obtain ⟨za, zb, zc, zd, ze⟩ := five_cells HN9.out
            clear hbd HRB HN8
            have T9 := hid (TW.out.ext HB9.out)
            go_wp2_with fail
            refine (len_any sa X _ T9.out.a.ar.vw).mono ?_
            rintro e we ⟨rfl, hw⟩
            subst hw
            go_wp2_with fail
            go_roundw
            case rel => exact ⟨1, by go_num, by omega, hid (HBW.out.trans (HB9.out.mono HBW.out.size))⟩
            case measure => simp [intOf]
          · have hv' : u67 = .int .i64 1 := hv
            clear hv
            subst hv'
            have g0 : wr.cell? ⟨kbk, 1, none⟩ = some (.int .i64 ((X.length : Int) - 1)) := by rw [cell_of_row wr kbk 1 _ _ (0, 0) HEW.out]; rfl
            have HRA := hid (read_any sa X ((X.length : Int) - 1) wr TW.out.a.ar.vw (Tb.up (HT1.out.on TW.out.a.bl) TW.out.a.sz) (EvS.up (EvS.on HE1.out TW.out.a.bl (Nat.le_refl _)) TW.out.a.sz))
            have HRB := hid (fun U (hu : ArV U 104 sb X) => rread_any sb X ((X.length : Int) - 1) U hu)
            unfold RdS at HRA HRB
            obtain ⟨p0, p1, p2, p3, p4, hp⟩ := rdO_five X ((X.length : Int) - 1)
            have hv5 : v5 (rd5 (rdO X ((X.length : Int) - 1))) = .agg #[.int .i64 p0, .int .i64 p1, .int .i64 p2, .int .i64 p3, .int .i64 p4] := by unfold rd5; rw [hp]; rfl
            rw [hv5] at HRA HRB
            obtain ⟨er, her⟩ : ∃ er, er = rdE (rdO X ((X.length : Int) - 1)) := ⟨_, rfl⟩
            rw [← her] at HRA HRB
            have hnq : ∀ U, (binOp .neq 58 (.agg #[.int .i64 p0, .int .i64 p1, .int .i64 p2, .int .i64 p3, .int .i64 p4]) (.agg #[.int .i64 p0, .int .i64 p1, .int .i64 p2, .int .i64 p3, .int .i64 p4])).run Tryz.prog U = .ok (.bool false) U := fun U => by
              rw [run_neq_struct]
              have := run_equalIn_arr (P := Tryz.prog) U 9998 5 Tryz.underlying58 Tryz.underlying3 (fun W => Tryz.sizeOf3 W) [p0, p1, p2, p3, p4] [p0, p1, p2, p3, p4] rfl rfl
              rw [beq_self_eq_true] at this
              exact (congrArg (fun r : Result Bool => r.andThen _) this).trans rfl
            clear her hp hv5
            go_wp2_with fail
            refine (rlen_any sb X wr TW.out.b.ar.vw).mono ?_
            rintro e wa ⟨rfl, hw⟩
            subst hw
            go_wp2_with fail
            refine HRA.out.mono ?_
            rintro e wb ⟨rfl, hbb⟩
            have HB8 := hid (hbb.alloc hbb.size (.cells #[.int .i64 p0, .int .i64 p1, .int .i64 p2, .int .i64 p3, .int .i64 p4] 58))
            have HN8 := hid (heap_alloc_new wb (.cells #[.int .i64 p0, .int .i64 p1, .int .i64 p2, .int .i64 p3, .int .i64 p4] 58))
            clear hbb HRA g0
            go_wp2_with fail
            refine (HRB.out _ (TW.out.ext HB8.out).b.ar.vw).mono ?_
            rintro e wd ⟨rfl, hbd⟩
            have HB9 := hid (HB8.out.trans ((hbd.alloc hbd.size (.cells #[.int .i64 p0, .int .i64 p1, .int .i64 p2, .int .i64 p3, .int .i64 p4] 58)).mono HB8.out.size))
            have HN9 := hid (((hbd.alloc hbd.size (.cells #[.int .i64 p0, .int .i64 p1, .int .i64 p2, .int .i64 p3, .int .i64 p4] 58)).block _ (Array.getElem?_eq_some_iff.1 HN8.out).1).trans HN8.out)
            obtain ⟨za, zb, zc, zd, ze⟩ := five_cells HN9.out
            clear hbd HRB HN8
            have T9 := hid (TW.out.ext HB9.out)
            go_wp2_with fail
            refine (len_any sa X _ T9.out.a.ar.vw).mono ?_
            rintro e we ⟨rfl, hw⟩
            subst hw
            go_wp2_with fail
            go_roundw
            case rel => exact ⟨2, by go_num, by omega, hid (HBW.out.trans (HB9.out.mono HBW.out.size))⟩
            case measure => simp [intOf]
        · obtain rfl : k = 2 := by omega
          have hv' : u67 = .int .i64 2 := hv
          clear hv
          subst hv'
          go_wp2_with fail
          go_ret
          exact ⟨rfl, HB1.out.trans ((T6.out.a.bl.trans (HBW.out.mono T6.out.a.sz)).mono HB1.out.size)⟩
end Go.Proofs.YtkgobglmkhkbbaaGreatDoor

/- the document's layer 12: hashes, tags, contexts. -/
namespace Go.Proofs.YtkgobglmkhkbbaaGreatDoor
open Go.RowKit Go.KK Go.Shelf Go.Maps
set_option linter.unusedVariables false
set_option linter.unusedSimpArgs false

theorem i64_atQ {w0 U : World} {Zq : Nat → Prop} {sb : Nat} {X Y : List ND} (la : LQ w0 U Zq sb Y) (hp : ∃ m, Y = X ++ m) {i : Int} (h : hasB X i = true) : I64 i := by
  obtain ⟨m, rfl⟩ := hp
  have a := has_iff.1 h
  have b := la.ar.ok.len
  rw [List.length_append] at b
  exact ⟨by omega, by omega⟩
section
variable {w0 W W' : World} {Z Z' : Nat → Prop} {sb : Nat} {xs xs' : List ND}
set_option maxHeartbeats 2000000 in
set_option maxRecDepth 100000 in
theorem q_hs (h : LQ w0 W Z sb xs) {A : Option Addr} {n c : Nat} {l : List Int} (hl : SlA W 1 A n c (l.map (.int .i64))) (hi : ∀ i ∈ l, I64 i) :
    Calls Tryz.prog 85 #[.pointer (some ⟨sb, 0, none⟩), .slice A n c] W (LrQ w0 W Z sb (hsF xs l)) := by
  have HX := hid (q_list h hl hi)
  have hti := idx_i64 h.ar.ok (ndN 3 l)
  clear h hl hi
  by_cases he : makE xs (ndN 3 l) = 0
  · have HF := hid (show hsF xs l = mk (makT xs (ndN 3 l)) (ndN 4 [makI xs (ndN 3 l)]) by unfold hsF bdF; rw [if_pos (show (mk xs (ndN 3 l)).2.2 = 0 from he)]; rfl)
    rw [HF.out]
    unfold LrQ mk at HX
    rw [he] at HX
    clear he
    generalize makI xs (ndN 3 l) = ti at *
    generalize makT xs (ndN 3 l) = Y at *
    obtain ⟨r, hr⟩ : ∃ r : Rs, r = mk Y (ndN 4 [ti]) := ⟨_, rfl⟩
    rw [← hr]
    have HR := hid hr
    clear hr HF
    go_enter Tryz.func85, Tryz.ntmps85
    go_wp2_with fail
    refine HX.out.mono ?_
    rintro e w2 ⟨Z2, rfl, l2, m2⟩
    have HO := hid (q_of (l2.alloc (.cells #[.int .i64 ti] 3)) (o := 4) (l := [ti]) (sla_row #[.int .i64 ti] (by unfold maxLen; simp)) (i64_lit (by decide) (by decide)) (fun i hi => by rw [List.mem_singleton] at hi; subst hi; exact hti))
    rw [← HR.out] at HO
    have M2 := hid (m2.trans (Mv.alloc Z2 w2 (.cells #[.int .i64 ti] 3)))
    clear l2 m2 HX
    go_wp2_with fail
    refine HO.out.mono ?_
    rintro e w3 ⟨Z3, rfl, l3, m3⟩
    have L3 := hid l3; have M3 := hid (M2.out.trans m3)
    clear l3 m3 HO
    go_wp2_with fail
    go_ret2
    exact (show LrQ _ _ _ _ _ _ _ from ⟨Z3, rfl, L3.out, M3.out⟩)
  · have HF := hid (show hsF xs l = (makT xs (ndN 3 l), 0, makE xs (ndN 3 l)) by unfold hsF bdF; rw [if_neg (show ¬ (mk xs (ndN 3 l)).2.2 = 0 from he)]; rfl)
    rw [HF.out]
    unfold LrQ mk at HX
    have hne : (makE xs (ndN 3 l) != 0) = true := bne_iff_ne.2 he
    clear he
    generalize makE xs (ndN 3 l) = te at *
    generalize makI xs (ndN 3 l) = ti at *
    generalize makT xs (ndN 3 l) = Y at *
    go_enter Tryz.func85, Tryz.ntmps85
    go_wp2_with fail
    refine HX.out.mono ?_
    rintro e w2 ⟨Z2, rfl, l2, m2⟩
    have L2 := hid l2; have M2 := hid m2
    clear l2 m2 HX HF
    go_wp2_with fail
    go_ret2
    exact (show LrQ _ _ _ _ _ _ _ from ⟨Z2, rfl, L2.out, M2.out⟩)
theorem q_cf (h : LQ w0 W Z sb xs) {i c s : Int} (hi : I64 i) (hc : I64 c) (hs : I64 s) :
    Calls Tryz.prog 47 #[.pointer (some ⟨sb, 0, none⟩), .int .i64 i, .int .i64 c, .int .i64 s] W (LrQ w0 W Z sb (hsF xs [i, c, s])) := by
  have HM := hid (q_hs (h.alloc (.cells #[.int .i64 i, .int .i64 c, .int .i64 s] 3)) (l := [i, c, s]) (sla_row #[.int .i64 i, .int .i64 c, .int .i64 s] (by unfold maxLen; simp)) (fun y hy => by
    simp only [List.mem_cons, List.mem_nil_iff, or_false] at hy
    rcases hy with rfl | rfl | rfl
    · exact hi
    · exact hc
    · exact hs))
  clear h
  generalize hsF xs [i, c, s] = r at *
  unfold LrQ at HM ⊢
  go_enter Tryz.func47, Tryz.ntmps47
  go_wp2_with fail
  refine HM.out.mono ?_
  rintro e w' ⟨Z', rfl, h1, h2⟩
  have H1 := hid h1; have H2 := hid ((Mv.alloc Z W (.cells #[.int .i64 i, .int .i64 c, .int .i64 s] 3)).trans h2)
  clear h1 h2 HM
  go_wp2_with fail
  go_ret2
  exact ⟨Z', rfl, H1.out, H2.out⟩
theorem q_tg (h : LQ w0 W Z sb xs) {k m : Int} (hk : I64 k) (hm : I64 m) :
    Calls Tryz.prog 49 #[.pointer (some ⟨sb, 0, none⟩), .int .i64 k, .int .i64 m] W (LrQ w0 W Z sb (tgF xs k m)) := by
  have HM := hid (q_of (h.alloc (.cells #[.int .i64 k, .int .i64 m] 3)) (o := 11) (l := [k, m]) (sla_row #[.int .i64 k, .int .i64 m] (by unfold maxLen; simp)) (i64_lit (by decide) (by decide)) (fun y hy => by
    simp only [List.mem_cons, List.mem_nil_iff, or_false] at hy
    rcases hy with rfl | rfl
    · exact hk
    · exact hm))
  clear h
  have HF := hid (show mk xs (ndN 11 [k, m]) = tgF xs k m from rfl)
  rw [HF.out] at HM
  generalize tgF xs k m = r at *
  unfold LrQ at HM ⊢
  go_enter Tryz.func49, Tryz.ntmps49
  go_wp2_with fail
  refine HM.out.mono ?_
  rintro e w' ⟨Z', rfl, h1, h2⟩
  have H1 := hid h1; have H2 := hid ((Mv.alloc Z W (.cells #[.int .i64 k, .int .i64 m] 3)).trans h2)
  clear h1 h2 HM
  go_wp2_with fail
  go_ret2
  exact ⟨Z', rfl, H1.out, H2.out⟩
theorem q_im (h : LQ w0 W Z sb xs) {c t : Int} (hc : I64 c) (ht : I64 t) :
    Calls Tryz.prog 50 #[.pointer (some ⟨sb, 0, none⟩), .int .i64 c, .int .i64 t] W (LrQ w0 W Z sb (hsF xs [c, t])) := by
  have HM := hid (q_hs (h.alloc (.cells #[.int .i64 c, .int .i64 t] 3)) (l := [c, t]) (sla_row #[.int .i64 c, .int .i64 t] (by unfold maxLen; simp)) (fun y hy => by
    simp only [List.mem_cons, List.mem_nil_iff, or_false] at hy
    rcases hy with rfl | rfl
    · exact hc
    · exact ht))
  clear h
  generalize hsF xs [c, t] = r at *
  unfold LrQ at HM ⊢
  go_enter Tryz.func50, Tryz.ntmps50
  go_wp2_with fail
  refine HM.out.mono ?_
  rintro e w' ⟨Z', rfl, h1, h2⟩
  have H1 := hid h1; have H2 := hid ((Mv.alloc Z W (.cells #[.int .i64 c, .int .i64 t] 3)).trans h2)
  clear h1 h2 HM
  go_wp2_with fail
  go_ret2
  exact ⟨Z', rfl, H1.out, H2.out⟩
set_option maxHeartbeats 4000000 in
set_option maxRecDepth 100000 in
theorem q_ct (h : LQ w0 W Z sb xs) {id ep tr cf ex : Int} (hid' : I64 id) (hep : I64 ep) (htr : I64 tr) (hcf : I64 cf) (hex : I64 ex) :
    Calls Tryz.prog 51 #[.pointer (some ⟨sb, 0, none⟩), .int .i64 id, .int .i64 ep, .int .i64 tr, .int .i64 cf, .int .i64 ex] W (LrQ w0 W Z sb (ctF xs id ep tr cf ex)) := by
  have H0 := hid h
  by_cases hp : 0 ≤ ep
  rotate_left
  · have HF := hid (show ctF xs id ep tr cf ex = (xs, 0, 1) by unfold ctF; rw [if_neg hp])
    rw [HF.out]
    have hn : ep < 0 := by omega
    clear h hp
    go_enter Tryz.func51, Tryz.ntmps51
    go_wp2_with fail
    go_ret2
    exact (show LrQ _ _ _ _ _ _ _ from ⟨Z, rfl, H0.out, Mv.below (Below.refl _ _)⟩)
  have hn : ¬ ep < 0 := by omega
  have HF := hid (ct_pos (xs := xs) (id := id) (tr := tr) (cf := cf) (ex := ex) hp)
  clear h
  obtain ⟨R1, hR1⟩ : ∃ R1 : Rs, R1 = mk xs (txN lbGroup) := ⟨_, rfl⟩
  obtain ⟨R2, hR2⟩ : ∃ R2 : Rs, R2 = mk R1.1 (txN (digB ep)) := ⟨_, rfl⟩
  have HR1 := hid hR1; have HR2 := hid hR2
  clear hR1 hR2
  have HFE1 := hid (show R1.2.2 ≠ 0 → ctF xs id ep tr cf ex = (R1.1, 0, R1.2.2) from fun e => by rw [HF.out, ← HR1.out]; unfold bdF; rw [if_neg e])
  have HFE2 := hid (show R1.2.2 = 0 → R2.2.2 ≠ 0 → ctF xs id ep tr cf ex = (R2.1, 0, R2.2.2) from fun e f => by rw [HF.out, ← HR1.out]; unfold bdF; rw [if_pos e]; show (if (mk R1.1 (txN (digB ep))).2.2 = 0 then mk (mk R1.1 (txN (digB ep))).1 (ndN 3 [R1.2.1, id, (mk R1.1 (txN (digB ep))).2.1, tr, cf, ex]) else ((mk R1.1 (txN (digB ep))).1, 0, (mk R1.1 (txN (digB ep))).2.2)) = _; rw [← HR2.out, if_neg f])
  have HFE3 := hid (show R1.2.2 = 0 → R2.2.2 = 0 → ctF xs id ep tr cf ex = mk R2.1 (ndN 3 [R1.2.1, id, R2.2.1, tr, cf, ex]) from fun e f => by rw [HF.out, ← HR1.out]; unfold bdF; rw [if_pos e]; show (if (mk R1.1 (txN (digB ep))).2.2 = 0 then mk (mk R1.1 (txN (digB ep))).1 (ndN 3 [R1.2.1, id, (mk R1.1 (txN (digB ep))).2.1, tr, cf, ex]) else ((mk R1.1 (txN (digB ep))).1, 0, (mk R1.1 (txN (digB ep))).2.2)) = _; rw [← HR2.out, if_pos f])
  clear HF
  have HTX := hid (q_text H0.out lbGroup)
  rw [← HR1.out] at HTX
  unfold lbGroup at HTX
  have HDG := hid (show digS ep.toNat = digB ep from str_ext (by show Lib.decDigits ep.toNat = Lib.itoa ep; rw [itoa_pos hp]))
  have HDC := hid (fun U => digits_any ep U hp (by unfold I64 at hep; omega))
  unfold Dig at HDC
  rw [HDG.out] at HDC
  clear hp
  by_cases e1 : R1.2.2 = 0
  rotate_left
  · have hne : (R1.2.2 != 0) = true := bne_iff_ne.2 e1
    have HG := hid (HFE1.out e1)
    unfold LrQ at HTX
    clear e1
    go_enter Tryz.func51, Tryz.ntmps51
    go_wp2_with fail
    refine HTX.out.mono ?_
    rintro e w2 ⟨Z2, rfl, l2, m2⟩
    have HP := hid (And.intro l2 m2)
    clear l2 m2 HTX
    go_wp2_with fail
    go_ret2
    exact (show LrQ _ _ _ _ _ _ _ from ⟨Z2, by rw [HG.out]; rfl, by rw [HG.out]; exact HP.out.1, HP.out.2⟩)
  have HE1 := hid e1
  unfold LrQ at HTX
  rw [e1] at HTX
  clear e1
  go_enter Tryz.func51, Tryz.ntmps51
  go_wp2_with fail
  refine HTX.out.mono ?_
  rintro e w2 ⟨Z2, rfl, l2, m2⟩
  have L2 := hid l2; have M2 := hid m2
  clear l2 m2 HTX
  go_wp2_with fail
  refine (HDC.out _).mono ?_
  rintro e w3 ⟨rfl, q3, rfl⟩
  have L3 := hid (L2.out.ext (below_drewN (Below.refl _ _) q3)); have M3 := hid (M2.out.trans (Mv.below (below_drewN (Below.refl w2.heap.size w2) q3)))
  clear L2 M2
  generalize w2.drewN q3 = w3 at *
  have HTX := hid (q_text L3.out (digB ep))
  rw [← HR2.out] at HTX
  by_cases e2 : R2.2.2 = 0
  rotate_left
  · have hne : (R2.2.2 != 0) = true := bne_iff_ne.2 e2
    have HG := hid (HFE2.out HE1.out e2)
    unfold LrQ at HTX
    clear e2
    go_wp2_with fail
    refine HTX.out.mono ?_
    rintro e w4 ⟨Z4, rfl, l4, m4⟩
    have HP := hid (And.intro l4 (M3.out.trans m4))
    clear l4 m4 HTX
    go_wp2_with fail
    go_ret2
    exact (show LrQ _ _ _ _ _ _ _ from ⟨Z4, by rw [HG.out]; rfl, by rw [HG.out]; exact HP.out.1, HP.out.2⟩)
  have HE2 := hid e2
  have HG := hid (HFE3.out HE1.out e2)
  unfold LrQ at HTX
  rw [e2] at HTX
  clear e2
  go_wp2_with fail
  refine HTX.out.mono ?_
  rintro e w4 ⟨Z4, rfl, l4, m4⟩
  have ig : I64 R1.2.1 := by
    have a := (sb_tx lbGroup).has xs (by show (mk xs (txN lbGroup)).2.2 = 0; rw [← HR1.out]; exact HE1.out)
    obtain ⟨m, hm⟩ := mak_pre R1.1 (txN (digB ep))
    have e : R2.1 = R1.1 ++ m := by rw [HR2.out]; exact hm
    exact i64_atQ l4 ⟨m, e⟩ (by rw [HR1.out]; exact a)
  have ig2 : I64 R2.2.1 := by
    have a := (sb_tx (digB ep)).has R1.1 (by show (mk R1.1 (txN (digB ep))).2.2 = 0; rw [← HR2.out]; exact HE2.out)
    exact i64_atQ (X := R2.1) l4 ⟨[], by simp⟩ (by rw [HR2.out]; exact a)
  have HO := hid (q_list (l4.alloc (.cells #[.int .i64 R1.2.1, .int .i64 id, .int .i64 R2.2.1, .int .i64 tr, .int .i64 cf, .int .i64 ex] 3)) (l := [R1.2.1, id, R2.2.1, tr, cf, ex]) (sla_row #[.int .i64 R1.2.1, .int .i64 id, .int .i64 R2.2.1, .int .i64 tr, .int .i64 cf, .int .i64 ex] (by unfold maxLen; simp)) (fun y hy => by
    simp only [List.mem_cons, List.mem_nil_iff, or_false] at hy
    rcases hy with rfl | rfl | rfl | rfl | rfl | rfl
    · exact ig
    · exact hid'
    · exact ig2
    · exact htr
    · exact hcf
    · exact hex))
  rw [← HG.out] at HO
  have M4 := hid ((M3.out.trans m4).trans (Mv.alloc Z4 w4 (.cells #[.int .i64 R1.2.1, .int .i64 id, .int .i64 R2.2.1, .int .i64 tr, .int .i64 cf, .int .i64 ex] 3)))
  clear l4 m4 HTX
  unfold LrQ at HO
  go_wp2_with fail
  refine HO.out.mono ?_
  rintro e w5 ⟨Z5, rfl, l5, m5⟩
  have HP := hid (And.intro l5 (M4.out.trans m5))
  clear l5 m5 HO
  go_wp2_with fail
  go_ret2
  exact (show LrQ _ _ _ _ _ _ _ from ⟨Z5, rfl, HP.out.1, HP.out.2⟩)
end
end Go.Proofs.YtkgobglmkhkbbaaGreatDoor

/- plain: what a term is made of, and how many terms (TermBelow). -/
namespace Go.KK
open Go.RowKit
set_option linter.unusedVariables false
set_option linter.unusedSimpArgs false

theorem nodup_le : ∀ (N : Nat) (M : List Int), M.Nodup → (∀ x ∈ M, 0 ≤ x ∧ x < N) → M.length ≤ N
  | 0, M, _, h => by
    cases M with
    | nil => simp
    | cons x M => have := h x (by simp); omega
  | N + 1, M, hn, h => by
    by_cases hm : (N : Int) ∈ M
    · have := nodup_le N (M.erase (N : Int)) (hn.erase _) fun x hx => by
        have h1 := h x (List.mem_of_mem_erase hx)
        have h2 : x ≠ (N : Int) := ((hn.mem_erase_iff).1 hx).1
        omega
      rw [List.length_erase_of_mem hm] at this
      omega
    · have := nodup_le N M hn fun x hx => by
        have h1 := h x hx
        have h2 : x ≠ (N : Int) := fun e => hm (e ▸ hx)
        omega
      omega
theorem sub_le {α : Type} [DecidableEq α] : ∀ (M M' : List α), M.Nodup → (∀ x ∈ M, x ∈ M') → M.length ≤ M'.length
  | [], _, _, _ => by simp
  | x :: M, M', hn, h => by
    have hx := h x (by simp)
    have h2 := List.nodup_cons.1 hn
    have := sub_le M (M'.erase x) h2.2 fun y hy => (List.mem_erase_of_ne (fun e => h2.1 (by rw [← e]; exact hy))).2 (h y (by simp [hy]))
    rw [List.length_erase_of_mem hx] at this
    have := List.length_pos_of_mem hx
    rw [List.length_cons]; omega
/-- A term is made of another one. -/
inductive Rch (xs : List ND) : Int → Int → Prop
  | self {t : Int} (h : hasB xs t = true) : Rch xs t t
  | step {t x y : Int} (h : Rch xs t x) (hy : y ∈ (nodeF xs x).l) : Rch xs t y
/-- So many terms is a term made of. -/
def SizeIs (xs : List ND) (t : Int) (n : Nat) : Prop := ∃ M : List Int, M.Nodup ∧ (∀ y, y ∈ M ↔ Rch xs t y) ∧ n = M.length
theorem nodeF_get {xs : List ND} {t : Int} (h : hasB xs t = true) : xs[t.toNat]? = some (nodeF xs t) := by
  have h2 := has_iff.1 h
  unfold nodeF
  rw [h, if_pos rfl, List.getD, List.getElem?_eq_getElem (by omega)]
  rfl
theorem part_lt {xs : List ND} (ok : Okay xs) {t x : Int} (h : hasB xs t = true) (hx : x ∈ (nodeF xs t).l) : 0 ≤ x ∧ x < t ∧ hasB xs x = true := by
  have h2 := has_iff.1 h
  have hm := ok.may _ _ (nodeF_get h)
  unfold mayB at hm
  simp only [Bool.and_eq_true, List.all_eq_true] at hm
  have h3 := has_iff.1 (hm.1.2 x hx)
  rw [List.length_take] at h3
  refine ⟨h3.1, by omega, has_iff.2 ⟨h3.1, by omega⟩⟩
theorem Rch.has {xs : List ND} (ok : Okay xs) {t x : Int} (h : Rch xs t x) : hasB xs t = true ∧ hasB xs x = true ∧ 0 ≤ x ∧ x ≤ t := by
  induction h with
  | self h => exact ⟨h, h, (has_iff.1 h).1, Int.le_refl _⟩
  | step h hy ih =>
    obtain ⟨a, b, c⟩ := part_lt ok ih.2.1 hy
    exact ⟨ih.1, c, a, by omega⟩
theorem Rch.trans {xs : List ND} {t x y : Int} (h : Rch xs t x) (k : Rch xs x y) : Rch xs t y := by
  induction k with
  | self _ => exact h
  | step _ hy ih => exact .step ih hy
theorem size_uniq {xs : List ND} {t : Int} {n m : Nat} (h : SizeIs xs t n) (k : SizeIs xs t m) : n = m := by
  obtain ⟨M, a, b, rfl⟩ := h
  obtain ⟨M', a', b', rfl⟩ := k
  exact Nat.le_antisymm (sub_le _ _ a fun x hx => (b' x).2 ((b x).1 hx)) (sub_le _ _ a' fun x hx => (b x).2 ((b' x).1 hx))
theorem size_le {xs : List ND} (ok : Okay xs) {t : Int} {n : Nat} (h : SizeIs xs t n) (ht : hasB xs t = true) : (n : Int) ≤ t + 1 ∧ 1 ≤ n := by
  obtain ⟨M, a, b, rfl⟩ := h
  have h0 := has_iff.1 ht
  refine ⟨?_, List.length_pos_of_mem ((b t).2 (.self ht))⟩
  have := nodup_le (t.toNat + 1) M a fun x hx => by
    have := ((b x).1 hx).has ok
    omega
  omega
theorem size_lt {xs : List ND} (ok : Okay xs) {t x : Int} {n m : Nat} (h : SizeIs xs t n) (k : SizeIs xs x m) (ht : hasB xs t = true) (hx : x ∈ (nodeF xs t).l) : m < n := by
  obtain ⟨M, a, b, rfl⟩ := h
  obtain ⟨M', a', b', rfl⟩ := k
  have hp := part_lt ok ht hx
  have := sub_le (t :: M') M (List.nodup_cons.2 ⟨fun hm => by have := ((b' t).1 hm).has ok; omega, a'⟩) fun y hy => by
    rcases List.mem_cons.1 hy with rfl | hy
    · exact (b _).2 (.self ht)
    · exact (b y).2 ((Rch.step (.self ht) hx).trans ((b' y).1 hy))
  rw [List.length_cons] at this
  omega
theorem nodeF_app {xs : List ND} (m : List ND) {t : Int} (h : hasB xs t = true) : nodeF (xs ++ m) t = nodeF xs t ∧ hasB (xs ++ m) t = true := by
  have h2 := has_iff.1 h
  have h3 : hasB (xs ++ m) t = true := has_iff.2 ⟨h2.1, by rw [List.length_append]; omega⟩
  refine ⟨?_, h3⟩
  have e1 := nodeF_get h
  have e2 := nodeF_get h3
  rw [List.getElem?_append_left (by omega), e1] at e2
  exact (Option.some.inj e2).symm
theorem rch_app {xs : List ND} (ok : Okay xs) (m : List ND) {t : Int} (h : hasB xs t = true) (y : Int) : Rch (xs ++ m) t y ↔ Rch xs t y := by
  constructor
  · intro k
    induction k with
    | self _ => exact .self h
    | step k hy ih =>
      rw [(nodeF_app m (ih.has ok).2.1).1] at hy
      exact .step ih hy
  · intro k
    induction k with
    | self _ => exact .self (nodeF_app m h).2
    | step k hy ih =>
      rw [← (nodeF_app m ((k.has ok).2.1)).1] at hy
      exact .step ih hy
theorem size_app {xs : List ND} (ok : Okay xs) (m : List ND) {t : Int} {n : Nat} (h : hasB xs t = true) : SizeIs (xs ++ m) t n ↔ SizeIs xs t n := by
  unfold SizeIs
  constructor
  · rintro ⟨M, a, b, e⟩
    exact ⟨M, a, fun y => (b y).trans (rch_app ok m h y), e⟩
  · rintro ⟨M, a, b, e⟩
    exact ⟨M, a, fun y => (b y).trans (rch_app ok m h y).symm, e⟩
/-- On the way: M is met, O is open, and of x (if any is being looked at) so many parts have been looked at. -/
structure Pt (xs : List ND) (t : Int) (M O : List Int) (x : Option Int) (k : Nat) : Prop where
  nd : M.Nodup
  tm : t ∈ M
  r : ∀ y ∈ M, Rch xs t y
  o : ∀ y ∈ O, y ∈ M
  c : ∀ z ∈ M, z ∉ O → x ≠ some z → ∀ y ∈ (nodeF xs z).l, y ∈ M
  x : ∀ z, x = some z → z ∈ M ∧ ∀ y ∈ (nodeF xs z).l.take k, y ∈ M
theorem pt_start {xs : List ND} {t : Int} (h : hasB xs t = true) : Pt xs t [t] [t] none 0 :=
  ⟨by simp, by simp, fun y hy => by rw [List.mem_singleton] at hy; subst hy; exact .self h, fun y hy => hy, fun z hz hn => absurd hz hn, fun z e => by cases e⟩
theorem Pt.pop {xs : List ND} {t x : Int} {M O : List Int} {k : Nat} (h : Pt xs t M (O ++ [x]) none k) : Pt xs t M O (some x) 0 := by
  refine ⟨h.nd, h.tm, h.r, fun y hy => h.o y (by simp [hy]), fun z hz hn hx => h.c z hz ?_ (by simp), fun z e => ?_⟩
  · rw [List.mem_append, List.mem_singleton]
    rintro (h1 | h1)
    · exact hn h1
    · exact hx (by rw [h1])
  · injection e with e
    subst e
    exact ⟨h.o _ (by simp), by simp⟩
theorem Pt.old {xs : List ND} {t x y : Int} {M O : List Int} {k : Nat} (h : Pt xs t M O (some x) k) (hy : (nodeF xs x).l[k]? = some y) (hm : y ∈ M) : Pt xs t M O (some x) (k + 1) := by
  refine ⟨h.nd, h.tm, h.r, h.o, h.c, fun z e => ⟨(h.x z e).1, fun u hu => ?_⟩⟩
  injection e with e
  subst e
  rw [take_one hy, List.mem_append, List.mem_singleton] at hu
  rcases hu with hu | rfl
  · exact (h.x _ rfl).2 u hu
  · exact hm
theorem Pt.new {xs : List ND} {t x y : Int} {M O : List Int} {k : Nat} (h : Pt xs t M O (some x) k) (hy : (nodeF xs x).l[k]? = some y) (hm : y ∉ M) : Pt xs t (M ++ [y]) (O ++ [y]) (some x) (k + 1) := by
  refine ⟨?_, by simp [h.tm], fun u hu => ?_, fun u hu => ?_, fun z hz hn hx u hu => ?_, fun z e => ?_⟩
  · rw [List.nodup_append]
    exact ⟨h.nd, by simp, fun a ha b hb e => by rw [List.mem_singleton] at hb; subst hb; subst e; exact hm ha⟩
  · rw [List.mem_append, List.mem_singleton] at hu
    rcases hu with hu | rfl
    · exact h.r u hu
    · exact .step (h.r x (h.x x rfl).1) (List.mem_of_getElem? hy)
  · rw [List.mem_append, List.mem_singleton] at hu ⊢
    exact hu.imp (h.o u) id
  · rw [List.mem_append, List.mem_singleton] at hn
    rw [List.mem_append, List.mem_singleton] at hz
    rcases hz with hz | rfl
    · exact List.mem_append_left _ (h.c z hz (fun h' => hn (.inl h')) hx u hu)
    · exact absurd (.inr rfl) hn
  · refine ⟨List.mem_append_left _ (h.x z e).1, fun u hu => ?_⟩
    injection e with e
    subst e
    rw [take_one hy, List.mem_append, List.mem_singleton] at hu
    rw [List.mem_append, List.mem_singleton]
    rcases hu with hu | rfl
    · exact .inl ((h.x _ rfl).2 u hu)
    · exact .inr rfl
theorem Pt.done {xs : List ND} {t x : Int} {M O : List Int} {k : Nat} (h : Pt xs t M O (some x) k) (hk : (nodeF xs x).l.length ≤ k) : Pt xs t M O none 0 := by
  refine ⟨h.nd, h.tm, h.r, h.o, fun z hz hn _ u hu => ?_, fun z e => by cases e⟩
  by_cases hx : x = z
  · subst hx
    have := (h.x _ rfl).2
    rw [List.take_of_length_le hk] at this
    exact this u hu
  · exact h.c z hz hn (fun e => hx (by injection e)) u hu
theorem Pt.size {xs : List ND} {t : Int} {M : List Int} {k : Nat} (h : Pt xs t M [] none k) : ∀ y, y ∈ M ↔ Rch xs t y := fun y =>
  ⟨h.r y, fun hr => by
    have ht := h.tm
    induction hr with
    | self _ => exact ht
    | step _ hy ih => exact h.c _ ih (by simp) (by simp) _ hy⟩
theorem Pt.len {xs : List ND} (ok : Okay xs) {t : Int} {M O : List Int} {x : Option Int} {k : Nat} (h : Pt xs t M O x k) : M.length ≤ xs.length :=
  nodup_le _ M h.nd fun y hy => by
    have := (h.r y hy).has ok
    have := has_iff.1 this.2.1
    omega
end Go.KK

/- the document's Bisim: terms of two arenas that are the same. -/
namespace Go.KK
open Go.RowKit
set_option linter.unusedVariables false
set_option linter.unusedSimpArgs false

/-- The term x of the arena Y is the term y of the arena X. -/
inductive Bs (Y X : List ND) : Int → Int → Prop
  | mk {x y : Int} {a b : ND} (hx : At Y x a) (hy : At X y b) (ho : a.o = b.o) (hn : a.n = b.n) (hs : a.s = b.s) (hl : a.l.length = b.l.length) (h : ∀ (i : Nat) p q, a.l[i]? = some p → b.l[i]? = some q → Bs Y X p q) : Bs Y X x y
/-- Parts of a node have lesser numbers. -/
theorem At.part {X : List ND} (ok : Okay X) {i : Int} {x : ND} (h : At X i x) : ∀ p ∈ x.l, 0 ≤ p ∧ p < i := fun p hp => by
  have hm := ok.may _ _ h.2
  unfold mayB at hm
  simp only [Bool.and_eq_true, List.all_eq_true] at hm
  have hx := has_iff.1 (hm.1.2 p hp)
  rw [List.length_take] at hx
  have := h.1
  omega
theorem at_of_has {X : List ND} {i : Int} (h : hasB X i = true) : ∃ x, At X i x := by
  have := has_iff.1 h
  exact ⟨_, this.1, List.getElem?_eq_getElem (by omega)⟩
theorem bs_refl {X : List ND} (ok : Okay X) : ∀ (k : Nat) (x : Int), x.toNat < k → hasB X x = true → Bs X X x x := by
  intro k
  induction k with
  | zero => intro x h; omega
  | succ k ih =>
    intro x hk h
    obtain ⟨a, ha⟩ := at_of_has h
    refine .mk ha ha rfl rfl rfl rfl fun i p q hp hq => ?_
    rw [hp] at hq
    injection hq with hq
    subst hq
    have := ha.part ok p (List.mem_of_getElem? hp)
    exact ih p (by omega) (has_iff.2 ⟨this.1, by have := has_iff.1 ha.has; omega⟩)
theorem bs_same {X : List ND} (ok : Okay X) {x : Int} (h : hasB X x = true) : Bs X X x x := bs_refl ok (x.toNat + 1) x (by omega) h
theorem pairs_le {M : List (Int × Int)} (hd : M.Nodup) (h : ∀ p ∈ M, 0 ≤ p.1 ∧ p.1 < 100000 ∧ 0 ≤ p.2 ∧ p.2 < 100000) : M.length ≤ 10000000000 := by
  have h1 : (M.map fun p => p.1 * 100000 + p.2).Nodup := by
    rw [List.nodup_iff_pairwise_ne] at hd ⊢
    rw [List.pairwise_map]
    refine hd.imp_of_mem fun {a b} ha hb hne e => hne ?_
    have := h a ha; have := h b hb
    have e1 : a.1 = b.1 := by omega
    exact Prod.ext e1 (by omega)
  have := nodup_le 10000000000 _ h1 fun x hx => by
    obtain ⟨p, hp, rfl⟩ := List.mem_map.1 hx
    have := h p hp
    omega
  rwa [List.length_map] at this
end Go.KK
namespace Go.Proofs.YtkgobglmkhkbbaaGreatDoor
open Go.RowKit Go.KK Go.Shelf Go.Maps

theorem wfP {y : Int} (h : I64 y) : (Lit.int .i64 y).wf = true := by
  have h2 := wrap64_wf y
  rwa [show RowKit.wrap64 y = y by unfold RowKit.wrap64; unfold I64 at h; omega] at h2
theorem plainP_inv {e : TypeId} (he : Tryz.prog.underlying e = some .bool) {v : Value} {z : MD × List MemPlace} (h : plainElem Tryz.prog e v = some z) : ∃ x, v = .bool x ∧ z = (.lit (.bool x), []) := by
  unfold plainElem at h
  rw [he] at h
  cases v <;> simp at h
  subst h
  exact ⟨_, rfl, rfl⟩
theorem litP_inj {a b : Bool} (h : (DataW.lit (.bool a) : MD) = .lit (.bool b)) : a = b := by
  injection h with h
  injection h
theorem zeroP (w : World) : (zeroValue 4).run Tryz.prog w = .ok (.bool false) w := by kernel_rfl
theorem arr2 : WideMaps.ArrKey Tryz.prog 101 3 2 := ⟨Tryz.underlying101, by kernel_rfl, by kernel_rfl, by kernel_rfl⟩
theorem law2 : Keyed Tryz.prog 101 := Keyed.of_law arr2.law
/-- A pair's key. -/
def kp (a b : Int) : Lit := .string (keyBytes [.int .i64 a, .int .i64 b])
theorem key_pair {a b : Int} (ha : I64 a) (hb : I64 b) : keyOf Tryz.prog 101 (.agg #[.int .i64 a, .int .i64 b]) = some (kp a b) :=
  WideMaps.keyOf_pair arr2 Tryz.underlying3 ⟨Tryz.prog.types.size - 1, by kernel_rfl⟩ (wfP ha) (wfP hb)
theorem kp_inj {a b a' b' : Int} (ha : I64 a) (hb : I64 b) (ha' : I64 a') (hb' : I64 b') (h : kp a b = kp a' b') : a = a' ∧ b = b' := by
  have := law2.inj (key_pair ha hb) (h ▸ key_pair ha' hb')
  simp at this
  exact this
/-- A map of pairs that were found to be the same. -/
def MtP (W : World) (mb : Nat) (M : List (Int × Int)) : Prop := ∃ (D : MD) (n : Nat), W.ownsMap Tryz.prog 101 (plainElem Tryz.prog 4) mb n D ∧ n ≤ M.length ∧ Tidy D ∧
  (∀ a b, I64 a → I64 b → D.atKey (kp a b) (.lit (.bool false)) = .lit (.bool (decide ((a, b) ∈ M)))) ∧ M.Nodup ∧ ∀ p ∈ M, 0 ≤ p.1 ∧ p.1 < 100000 ∧ 0 ≤ p.2 ∧ p.2 < 100000
theorem MtP.new (w : World) : MtP (w.alloc (.map #[] 0)) w.heap.size [] :=
  ⟨_, 0, World.ownsMap_made (H := Unit) w Tryz.prog 101 (plainElem Tryz.prog 4), Nat.le_refl _, tidy_empty, fun a b _ _ => rfl, List.nodup_nil, fun p h => by simp at h⟩
section
variable {w w' : World} {mb : Nat} {M : List (Int × Int)}
theorem MtP.look (h : MtP w mb M) {a b : Int} (ha : I64 a) (hb : I64 b) : (Instr.lookup 49 (.map (some mb)) (.agg #[.int .i64 a, .int .i64 b]) false).run Tryz.prog w = .ok (.bool (decide ((a, b) ∈ M))) w := by
  obtain ⟨D, n, h1, -, -, h4, -⟩ := h
  obtain ⟨v, ps, hrun, hv⟩ := h1.lookup law2 Tryz.underlying49 (zeroP w) (plainElem_bool Tryz.underlying4 false) (key_pair ha hb)
  obtain ⟨x, rfl, e⟩ := plainP_inv Tryz.underlying4 hv
  have e1 := (Prod.mk.inj e).1
  rw [h4 a b ha hb] at e1
  have e2 : decide ((a, b) ∈ M) = x := litP_inj e1
  rw [hrun, e2]
theorem MtP.block (h : MtP w mb M) (hb : w'.heap[mb]? = w.heap[mb]?) : MtP w' mb M := by
  obtain ⟨D, n, h1, r⟩ := h
  exact ⟨D, n, map_block h1 hb, r⟩
theorem MtP.lt (h : MtP w mb M) : mb < w.heap.size := by
  obtain ⟨D, n, ⟨es, clock, h1, _⟩, -⟩ := h
  exact (Array.getElem?_eq_some_iff.1 h1).1
/-- Where a cell is, the map is not. -/
theorem MtP.ne (h : MtP w mb M) {b o : Nat} {u : Value} (hc : w.cell? ⟨b, o, none⟩ = some u) : b ≠ mb := by
  rintro rfl
  obtain ⟨D, n, ⟨es, clock, h1, _⟩, -⟩ := h
  unfold World.cell? at hc
  simp only [h1] at hc
  simp at hc
theorem MtP.keep (h : MtP w mb M) (ht : Turn (fun b => b = mb) w w') {b o : Nat} {u : Value} (hc : w.cell? ⟨b, o, none⟩ = some u) : w'.cell? ⟨b, o, none⟩ = some u := by
  rw [World.cell?_of_block (a := ⟨b, o, none⟩) (show w'.heap[b]? = w.heap[b]? from ht.block b (block_lt_of_cell hc) (h.ne hc))]
  exact hc
theorem MtP.put (h : MtP w mb M) {a b : Int} (ha : 0 ≤ a ∧ a < 100000) (hb : 0 ≤ b ∧ b < 100000) (hn : (a, b) ∉ M) {D : MD} {n : Nat} (hD : w.ownsMap Tryz.prog 101 (plainElem Tryz.prog 4) mb n D) (hnl : n ≤ M.length) (ht : Tidy D)
    (hat : ∀ a b, I64 a → I64 b → D.atKey (kp a b) (.lit (.bool false)) = .lit (.bool (decide ((a, b) ∈ M)))) (hw : w'.ownsMap Tryz.prog 101 (plainElem Tryz.prog 4) mb (n + 1) (D.put (kp a b) (.lit (.bool true)))) : MtP w' mb (M ++ [(a, b)]) := by
  obtain ⟨-, -, -, -, -, -, nd, rg⟩ := h
  refine ⟨_, _, hw, by simp; omega, ht.put (by trivial) _, fun p q hp hq => ?_, ?_, fun p hp => ?_⟩
  · by_cases e : p = a ∧ q = b
    · obtain ⟨rfl, rfl⟩ := e
      rw [Maps.atKey_put_same ht.isMap (by trivial)]; simp
    · have hne : kp p q ≠ kp a b := fun k => e (kp_inj hp hq ⟨by omega, by omega⟩ ⟨by omega, by omega⟩ k)
      rw [Maps.atKey_put_other hne, hat p q hp hq]
      have : (p, q) ≠ (a, b) := fun k => e (by injection k with k1 k2; exact ⟨k1, k2⟩)
      simp [this]
  · rw [List.nodup_append]
    exact ⟨nd, by simp, fun p hp q hq e => by rw [List.mem_singleton] at hq; subst hq; subst e; exact hn hp⟩
  · rcases List.mem_append.1 hp with hp | hp
    · exact rg p hp
    · rw [List.mem_singleton] at hp
      subst hp
      exact ⟨ha.1, ha.2, hb.1, hb.2⟩
end
theorem ArV.keep {w w' : World} {T : TypeId} {st : Nat} {xs : List ND} (h : ArV w T st xs) (hb : w'.heap[st]? = w.heap[st]?) (hk : ∀ b o u, w.cell? ⟨b, o, none⟩ = some u → w'.cell? ⟨b, o, none⟩ = some u) : ArV w' T st xs := by
  obtain ⟨⟨A, c, m, h1, h2⟩, h3⟩ := h
  exact ⟨⟨A, c, m, hb.trans h1, h2.keep hk⟩, h3⟩
theorem rlenO_any (st : Nat) (xs : List ND) (w : World) (h : ArV w 104 st xs) :
    Calls Tryz.prog 40 #[.pointer (some ⟨st, 0, none⟩)] w fun e w' => e = .returned (.int .i64 xs.length) ∧ w' = w := by
  obtain ⟨A, c, m, h0, h1, hn⟩ := h.parts
  clear hn h
  go_enter Tryz.func40, Tryz.ntmps40
  go_wp2
  go_ret
  exact ⟨rfl, rfl⟩
/-- What Bisim leaves of terms that are the same. -/
def BiS (w : World) (mb : Nat) (M : List (Int × Int)) (x : Int) (e : Ending) (w' : World) : Prop := e = .returned (.bool true) ∧ (∃ M', MtP w' mb M' ∧ ∀ p ∈ M', p ∈ M ∨ p.1 ≤ x) ∧ Turn (fun b => b = mb) w w'
set_option maxHeartbeats 8000000 in
set_option maxRecDepth 100000 in
theorem bisim_ind (sb : Nat) (Y X : List ND) (A : Option Addr) (n c mb : Nat) (hn : n ≤ 100000) (okY : Okay Y) : ∀ (k : Nat) (x y : Int) (w : World) (M : List (Int × Int)), x.toNat < k → Bs Y X x y → ArV w 104 sb Y → NdA w A n c X → MtP w mb M →
    Calls Tryz.prog 26 #[.pointer (some ⟨sb, 0, none⟩), .slice A n c, .int .i64 x, .int .i64 y, .map (some mb)] w (BiS w mb M x) := by
  intro k
  induction k with
  | zero => intro x y w M h; omega
  | succ k ih =>
    intro x y w M hk hbs hY hX hM
    cases hbs with
    | @mk _ _ a b hx hy ho hnn hs hl hp =>
    have lx := (List.getElem?_eq_some_iff.1 hx.2).1
    have ly := (List.getElem?_eq_some_iff.1 hy.2).1
    have hXl := hX.len
    have hYl := okY.len
    obtain ⟨i, rfl⟩ := Int.eq_ofNat_of_zero_le hx.1
    obtain ⟨j, rfl⟩ := Int.eq_ofNat_of_zero_le hy.1
    rw [Int.toNat_natCast] at lx ly
    have hxI : I64 (i : Int) := ⟨by omega, by omega⟩
    have hyI : I64 (j : Int) := ⟨by omega, by omega⟩
    have hlk := hM.look hxI hyI
    by_cases hm : ((i : Int), (j : Int)) ∈ M
    · rw [decide_eq_true hm] at hlk
      have HM := hid hM
      clear hM hX hY ih hp
      go_enter Tryz.func26, Tryz.ntmps26
      go_wp2_with fail
      go_ret
      exact (show BiS _ _ _ _ _ _ from ⟨rfl, ⟨M, HM.out, fun p hp => .inl hp⟩, Turn.refl _ _⟩)
    · rw [decide_eq_false hm] at hlk
      have HMM := hid hm; have HM := hid hM; have HIH := hid ih; have HP := hid hp; have HYY := hid hY
      have HPT := hid (hx.part okY)
      obtain ⟨AY, cY, mY, y0, -, hN⟩ := hY.parts
      obtain ⟨b1, o1, a', A1, c1, rfl, ha', ka0, ka1, ka2, ka3, hla⟩ := hN.at lx
      obtain ⟨b2, o2, b', A2, c2, rfl, hb', kb0, kb1, kb2, kb3, hlb⟩ := hX.at (show j < n by omega)
      have hxa := hx.2; have hyb := hy.2
      rw [Int.toNat_natCast] at hxa hyb
      obtain rfl : a' = a := by rw [hxa] at ha'; injection ha' with e; exact e.symm
      obtain rfl : b' = b := by rw [hyb] at hb'; injection hb' with e; exact e.symm
      obtain ⟨ao, an, az, la⟩ := a'
      obtain ⟨bo, bn, bs, lb⟩ := b'
      dsimp only at ho hnn hs hl ka0 ka1 ka2 ka3 kb0 kb1 kb2 kb3 hla hlb
      subst ho; subst hnn; subst hs
      have HLA := hid hla; have HLB := hid hlb; have HXX := hid hX
      have HLN := hid hl
      obtain ⟨N, hN'⟩ : ∃ N, N = la.length := ⟨_, rfl⟩
      rw [← hl, ← hN'] at kb3 HLB
      rw [← hN'] at ka3 HLA
      have HNN := hid hN'
      have HLIM := hid (show N ≤ 64 by
        rw [hN']
        have := okY.may _ _ hxa
        unfold mayB shB at this
        simp only [Bool.and_eq_true, decide_eq_true_eq] at this
        exact this.1.1.1.1.1.1.2)
      have q1 : ¬ (i : Int) < 0 := by omega
      have q2 : ¬ ((Y.length : Nat) : Int) ≤ (i : Int) := by omega
      have q3 : ¬ (j : Int) < 0 := by omega
      have q4 : ¬ (n : Int) ≤ (j : Int) := by omega
      have q3d : decide ((j : Int) < 0) = false := decide_eq_false q3
      have q2d : decide (Y.length ≤ i) = false := decide_eq_false (by omega)
      have q4d : decide (n ≤ j) = false := decide_eq_false (by omega)
      have q1d : decide ((i : Int) < 0) = false := decide_eq_false q1
      have q5 : (i : Int) < (Y.length : Int) := by omega
      have q6 : (j : Int) < (n : Int) := by omega
      have up : ∀ {b o : Nat} {u : Value}, w.cell? ⟨b, o, none⟩ = some u → (w.alloc (.cells #[.int .i64 ao, .int .i64 an, .string az, .slice A1 N c1] 88)).cell? ⟨b, o, none⟩ = some u := fun hc => (((Below.refl w.heap.size w).alloc (Nat.le_refl _) _).cell (p := ⟨_, _, none⟩) (block_lt_of_cell hc)).trans hc
      have eb0 := up kb0; have eb1 := up kb1; have eb2 := up kb2; have eb3 := up kb3
      clear ih hp hm hM hN ha' hb' hxa hyb hX hY hx hy hla hlb hl hN' up
      go_enter Tryz.func26, Tryz.ntmps26
      go_wp2_with fail
      refine (rlenO_any sb Y w HYY.out).mono ?_
      rintro e wL ⟨rfl, hw0⟩
      have hw := hw0.symm
      clear hw0
      subst hw
      go_wp2_with fail
      have HB2 := hid (show Below w.heap.size w ((w.alloc (.cells #[.int .i64 ao, .int .i64 an, .string az, .slice A1 N c1] 88)).alloc (.cells #[.int .i64 ao, .int .i64 an, .string az, .slice A2 N c2] 88)) from ((Below.refl _ _).alloc (Nat.le_refl _) _).alloc (by simp) _)
      have HNB := hid (show ((w.alloc (.cells #[.int .i64 ao, .int .i64 an, .string az, .slice A1 N c1] 88)).alloc (.cells #[.int .i64 ao, .int .i64 an, .string az, .slice A2 N c2] 88)).heap[w.heap.size + 1]? = some (.cells #[.int .i64 ao, .int .i64 an, .string az, .slice A2 N c2] 88 (0, 0)) by
        have := heap_alloc_new (w.alloc (.cells #[.int .i64 ao, .int .i64 an, .string az, .slice A1 N c1] 88)) (.cells #[.int .i64 ao, .int .i64 an, .string az, .slice A2 N c2] 88)
        rwa [show (w.alloc (.cells #[.int .i64 ao, .int .i64 an, .string az, .slice A1 N c1] 88)).heap.size = w.heap.size + 1 by simp] at this)
      have HNA := hid (show ((w.alloc (.cells #[.int .i64 ao, .int .i64 an, .string az, .slice A1 N c1] 88)).alloc (.cells #[.int .i64 ao, .int .i64 an, .string az, .slice A2 N c2] 88)).heap[w.heap.size]? = some (.cells #[.int .i64 ao, .int .i64 an, .string az, .slice A1 N c1] 88 (0, 0)) from
        (((Below.refl (w.alloc (.cells #[.int .i64 ao, .int .i64 an, .string az, .slice A1 N c1] 88)).heap.size (w.alloc (.cells #[.int .i64 ao, .int .i64 an, .string az, .slice A1 N c1] 88))).alloc (Nat.le_refl _) (.cells #[.int .i64 ao, .int .i64 an, .string az, .slice A2 N c2] 88)).block _ (by simp)).trans (heap_alloc_new w _))
      have HSB := hid HM.out.lt
      generalize (w.alloc (.cells #[.int .i64 ao, .int .i64 an, .string az, .slice A1 N c1] 88)).alloc (.cells #[.int .i64 ao, .int .i64 an, .string az, .slice A2 N c2] 88) = w2 at *
      have HM2 := hid (HM.out.block (HB2.out.block mb HSB.out))
      clear y0 ka0 ka1 ka2 ka3 kb0 kb1 kb2 kb3 eb0 eb1 eb2 eb3
      go_loopw [79] (fun v wr => ∃ (j2 : Nat) (M' : List (Int × Int)), v = .int .i64 j2 ∧ j2 ≤ N ∧ Hid (MtP wr mb M' ∧ (∀ p ∈ M', p ∈ M ∨ p.1 < (i : Int)) ∧ Turn (fun b => b = mb) w2 wr)) (fun v _ => N - (intOf v).toNat)
      case atStart => exact ⟨0, M, rfl, Nat.zero_le _, hid ⟨HM2.out, fun p h => .inl h, Turn.refl _ _⟩⟩
      case round =>
        obtain ⟨j2, M', hv, hj2, HQ⟩ := hrel
        subst hv
        have HU := hid (fun (b o : Nat) (u : Value) (hc : w.cell? ⟨b, o, none⟩ = some u) => HM2.out.keep HQ.out.2.2 ((HB2.out.cell (p := ⟨b, o, none⟩) (block_lt_of_cell hc)).trans hc))
        have HSBK := hid (show wr.heap[sb]? = w.heap[sb]? from (HQ.out.2.2.block sb (Nat.lt_of_lt_of_le HYY.out.lt HB2.out.size) (by obtain ⟨_, _, _, y0, -⟩ := HYY.out.parts; exact HM.out.ne y0)).trans (HB2.out.block sb HYY.out.lt))
        by_cases hlt : j2 < N
        · have hlt' : (j2 : Int) < (N : Int) := by omega
          have HLT := hid hlt
          have hN64 : N ≤ 64 := HLIM.out
          obtain ⟨b5, o5, p, rfl, hp, hc5⟩ := HLA.out.elemI hlt
          obtain ⟨b6, o6, q, rfl, hq, hc6⟩ := HLB.out.elemI hlt
          have d5 := HU.out _ _ _ hc5; have d6 := HU.out _ _ _ hc6
          have na3 : wr.cell? ⟨w.heap.size, 3, none⟩ = some (.slice (some ⟨b5, o5, none⟩) N c1) := HM2.out.keep HQ.out.2.2 (by rw [cell_of_row w2 w.heap.size 3 _ _ (0, 0) HNA.out]; rfl)
          have nb3 : wr.cell? ⟨w.heap.size + 1, 3, none⟩ = some (.slice (some ⟨b6, o6, none⟩) N c2) := HM2.out.keep HQ.out.2.2 (by rw [cell_of_row w2 (w.heap.size + 1) 3 _ _ (0, 0) HNB.out]; rfl)
          have hpl := HPT.out p (List.mem_of_getElem? hp)
          have HCA := hid (HIH.out p q wr.drew M' (by omega) (HP.out j2 p q hp hq) (HYY.out.keep HSBK.out fun b o u hc => HU.out b o u hc) (HXX.out.keep fun b o u hc => HU.out b o u hc) (HQ.out.1.block rfl))
          clear hp hq hc5 hc6 hlt
          go_wp2_with fail
          go_still_tail 13, (by kernel_rfl)
          go_wp2_with fail
          refine HCA.out.mono ?_
          rintro e w4 ⟨rfl, ⟨M2, m2, hm2⟩, t2⟩
          have HQ2 := hid (show MtP w4 mb M2 ∧ (∀ p ∈ M2, p ∈ M ∨ p.1 < (i : Int)) ∧ Turn (fun b => b = mb) w2 w4 from ⟨m2, fun r hr => (hm2 r hr).elim (HQ.out.2.1 r) fun h => .inr (by omega), HQ.out.2.2.trans ((show Turn (fun b => b = mb) wr wr.drew from ⟨rfl, rfl, rfl, Nat.le_refl _, fun _ _ _ => rfl⟩).trans t2 fun _ h => .inl h) fun _ h => .inl h⟩)
          clear m2 hm2 t2 HCA
          go_wp2_with fail
          go_roundw
          case rel => exact ⟨j2 + 1, M2, by go_num, by have := HLT.out; omega, HQ2⟩
          case measure => have := HLT.out; simp [intOf]; omega
        · obtain rfl : j2 = N := by omega
          have hlt' : ¬ (j2 : Int) < (j2 : Int) := by omega
          have hk0 := key_pair hxI hyI
          have HNM := hid (show ((i : Int), (j : Int)) ∉ M' from fun h => (HQ.out.2.1 _ h).elim HMM.out fun h => by simp at h)
          obtain ⟨D, nD, hD, hnl, htd, hat, hnd, hrg⟩ := HQ.out.1
          have hML := pairs_le hnd hrg
          have HDD := hid hD; have HNL := hid hnl; have HTD := hid htd; have HAT := hid hat
          have na3 : wr.cell? ⟨w.heap.size, 3, none⟩ = some (.slice A1 j2 c1) := HM2.out.keep HQ.out.2.2 (by rw [cell_of_row w2 w.heap.size 3 _ _ (0, 0) HNA.out]; rfl)
          clear hnd hrg hat htd hD hnl hlt
          go_wp2_with (first
            | (at_mapUpdate; refine wpList_mapUpdate_own _ rfl _ _ _ 49 rfl 101 4 law2 Tryz.underlying49 _ mb nD D rfl HDD.out (by have := HNL.out; unfold maxLen; omega) _ _ (kp (i : Int) (j : Int)) rfl rfl hk0 (.lit (.bool true)) [] (plainElem_bool Tryz.underlying4 true) ?_; intro w5 ho5 hg5; have HO5 := hid ho5; have HG5 := hid hg5; clear ho5 hg5)
            | fail)
          go_ret
          exact (show BiS _ _ _ _ _ _ from ⟨rfl, ⟨M' ++ [((i : Int), (j : Int))], HQ.out.1.put ⟨by omega, by omega⟩ ⟨by omega, by omega⟩ HNM.out HDD.out HNL.out HTD.out HAT.out HO5.out, fun p hp => by
            rcases List.mem_append.1 hp with hp | hp
            · exact (HQ.out.2.1 p hp).imp id fun h => by omega
            · rw [List.mem_singleton] at hp; subst hp; exact .inr (Int.le_refl _)⟩, (Turn.of_below HB2.out).trans (HQ.out.2.2.trans (.grown (F := fun b => b = mb) HG5.out fun b e => .inl (by injection e with e; exact e.symm)) fun _ h => .inl h) fun _ h => .inl h⟩)
/-- Bisim, of terms that are the same. -/
theorem bisim_any {sb n c mb : Nat} {Y X : List ND} {A : Option Addr} {x y : Int} {w : World} {M : List (Int × Int)} (hn : n ≤ 100000) (okY : Okay Y) (hb : Bs Y X x y) (hY : ArV w 104 sb Y) (hX : NdA w A n c X) (hM : MtP w mb M) :
    Calls Tryz.prog 26 #[.pointer (some ⟨sb, 0, none⟩), .slice A n c, .int .i64 x, .int .i64 y, .map (some mb)] w (BiS w mb M x) :=
  bisim_ind sb Y X A n c mb hn okY (x.toNat + 1) x y w M (by omega) hb hY hX hM
end Go.Proofs.YtkgobglmkhkbbaaGreatDoor

