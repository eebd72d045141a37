/- schedule's law: SchedulePsk walked. -/
import Derived.Test.YtkgobglmkhkbbaaGreatDoorUE
namespace Go.Proofs.YtkgobglmkhkbbaaGreatDoor
open Go.RowKit Go.KK Go.Shelf Go.Maps
set_option linter.unusedVariables false
set_option linter.unusedSimpArgs false

set_option maxHeartbeats 4000000 in
set_option maxRecDepth 100000 in
theorem psk_go (A : Option Addr) (n c : Nat) (l : List Int) (A1 : Option Addr) (n1 c1 : Nat) (m : List Int) (w : World) (hl : SlA w 1 A n c (l.map (.int .i64))) (hli : ∀ i ∈ l, I64 i) (hm : SlA w 1 A1 n1 c1 (m.map (.int .i64))) (hmi : ∀ i ∈ m, I64 i) (hT : Tb w.heap.size w) :
    Calls Tryz.prog 4 #[.slice A n c, .slice A1 n1 c1] w fun e w' => e = .returned (.bool true) ∧ Below w.heap.size w w' := by
  have HL := hid hl; have HM := hid hm; have HT := hid hT
  have HLI := hid hli; have HMI := hid hmi
  have HLV := hid (live_any w hT)
  clear hl hm hT hli hmi
  go_enter Tryz.func4, Tryz.ntmps4
  go_wp2_with fail
  refine HLV.out.mono ?_
  rintro e w1 ⟨rfl, b1⟩
  have HB1 := hid b1
  have HT1 := hid (show Tb w1.heap.size w1 from Tb.up (HT.out.on b1) b1.size)
  have HL1 := hid (HL.out.ext b1); have HM1 := hid (HM.out.ext b1)
  clear b1 HLV HT HL HM
  by_cases hn : 30 < n
  · have hn1 : (30 : Int) < (n : Int) := by omega
    clear hn
    go_wp2_with fail
    go_ret
    exact ⟨rfl, HB1.out⟩
  have hn1 : ¬ (30 : Int) < (n : Int) := by omega
  by_cases hm : 30 < n1
  · have hm1 : (30 : Int) < (n1 : Int) := by omega
    clear hn hm
    go_wp2_with fail
    go_ret
    exact ⟨rfl, HB1.out⟩
  have hm1 : ¬ (30 : Int) < (n1 : Int) := by omega
  have hn30 : n ≤ 30 := by omega
  have hm30 : n1 ≤ 30 := by omega
  clear hn hm
  go_wp2_with fail
  refine (beyond_any 10 A n c l _ HL1.out (by omega)).mono ?_
  rintro e w2 ⟨⟨b, rfl⟩, hw⟩
  subst hw
  rcases b with _ | _
  rotate_left
  · go_wp2_with fail
    go_ret
    exact ⟨rfl, HB1.out⟩
  go_wp2_with fail
  refine (beyond_any 10 A1 n1 c1 m _ HM1.out (by omega)).mono ?_
  rintro e w3 ⟨⟨b, rfl⟩, hw⟩
  subst hw
  rcases b with _ | _
  rotate_left
  · go_wp2_with fail
    go_ret
    exact ⟨rfl, HB1.out⟩
  clear hn1 hm1
  go_wp2_with fail
  refine (two_any w3 HT1.out).mono ?_
  rintro e w4 ⟨sa, sb, Z, Z', rfl, htw⟩
  have LC := hid htw.la
  clear htw
  have HLW := hid (fun a b => psk_law (xs := atoms 10) LC.out.ar.ok (l := l) (m := m) a b)
  have HP1 := hid (l_psk LC.out HT1.out (SlM.of_in HL1.out LC.out) (by omega) HLI.out)
  generalize pskF (atoms 10) l = r1 at *
  obtain ⟨Y1, i1, e1⟩ := r1
  go_wp2_with fail
  refine HP1.out.mono ?_
  rintro e w5 ⟨Z5, rfl, l5, -⟩
  have L5 := hid l5
  clear l5 LC HP1
  have HP2 := hid (l_psk L5.out HT1.out (SlM.of_in HM1.out L5.out) (by omega) HMI.out)
  generalize pskF Y1 m = r2 at *
  obtain ⟨Y2, i2, e2⟩ := r2
  go_wp2_with fail
  refine HP2.out.mono ?_
  rintro e w6 ⟨Z6, rfl, l6, -⟩
  have L6 := hid l6
  clear l6 L5 HP2
  have HP3 := hid (l_psk L6.out HT1.out (SlM.of_in HL1.out L6.out) (by omega) HLI.out)
  generalize pskF Y2 l = r3 at *
  obtain ⟨Y3, i3, e3⟩ := r3
  go_wp2_with fail
  refine HP3.out.mono ?_
  rintro e w7 ⟨Z7, rfl, l7, -⟩
  have L7 := hid l7
  clear l7 L6 HP3
  have HBF := hid (HB1.out.trans (L7.out.bl.mono HB1.out.size))
  by_cases he1 : e1 = 0
  rotate_left
  · have hne : (e1 != 0) = true := bne_iff_ne.2 he1
    clear he1
    go_wp2_with fail
    go_ret
    exact ⟨rfl, HBF.out⟩
  by_cases he2 : e2 = 0
  rotate_left
  · have hne : (e2 != 0) = true := bne_iff_ne.2 he2
    subst he1
    clear he2
    go_wp2_with fail
    go_ret
    exact ⟨rfl, HBF.out⟩
  subst he1; subst he2
  obtain ⟨q1, q2⟩ := HLW.out rfl rfl
  injection q1 with q1 q3
  injection q3 with q3 q4
  subst q4; subst q3
  try dsimp only at q2
  have hq : ((i3 == i2) == (l == m)) = true := by
    rw [beq_iff_eq, Bool.eq_iff_iff, beq_iff_eq, beq_iff_eq]; exact q2
  have hself : (i3 == i3) = true := by simp
  clear q1 q2 HLW
  go_wp2_with fail
  refine (same_ints A n c l A1 n1 c1 m _ (HL1.out.ext L7.out.bl) (HM1.out.ext L7.out.bl) (by omega) (by omega)).mono ?_
  rintro e w8 ⟨rfl, q8, rfl⟩
  go_wp2_with fail
  go_ret
  exact ⟨by first | rfl | (rw [hq]), HBF.out.trans ((below_drewN (Below.refl _ _) q8).mono (by have := HBF.out.size; omega))⟩
end Go.Proofs.YtkgobglmkhkbbaaGreatDoor
