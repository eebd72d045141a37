/- token's law: two. -/
import Derived.Test.YtanakgbhmmemoaaDoorRJ
import Derived.Test.YtanakgbhmmemoaaDoorT8
namespace Go.Proofs.YtanakgbhmmemoaaDoor
open Go.RowKit Go.KK Go.Shelf Go.Maps
set_option linter.unusedVariables false
set_option linter.unusedSimpArgs false

set_option maxHeartbeats 2000000 in
theorem two_any (w : World) (hT : Tb w.heap.size w) : Calls Tryd.prog 9 #[] w (TwoS 12 w) := by
  have HT := hid hT
  clear hT
  go_enter Tryd.func9, Tryd.ntmps9
  go_wp2_with fail
  refine (new_any _).mono ?_
  rintro e1 w1 ⟨Z1, sa, rfl, a1, z1, b1⟩
  have A1 := hid a1; have Z1' := hid z1; have B1 := hid b1
  clear a1 z1 b1
  go_wp2_with fail
  refine (rnew_any _).mono ?_
  rintro e2 w2 ⟨Z2, sb, rfl, a2, z2, b2⟩
  have HI := hid (show TwoI w sa sb 0 w2 from ⟨Z1, Z2, A1.out.ext b2, a2, fun b h1 h2 => by have := A1.out.zlt b h1; have := z2 b h2; omega, Z1'.out, fun b h => Nat.le_trans B1.out.size (z2 b h), B1.out.trans (b2.mono B1.out.size)⟩)
  clear a2 z2 b2 A1 Z1' B1
  go_wp2_with fail
  go_loopw [7] (fun i wr => ∃ j : Nat, i = .int .i64 j ∧ j ≤ 12 ∧ TwoI w sa sb j wr) (fun i _ => 12 - (intOf i).toNat)
  case atStart => exact ⟨0, rfl, by omega, HI.out⟩
  case round =>
    obtain ⟨j, hi, hj, hI⟩ := hrel
    subst hi
    have HJ := hid hI
    clear hI
    by_cases hlt : j < 12
    · obtain ⟨Z, Z', ha, hq, hd, hz, hz', hb⟩ := HJ.out
      have HA := hid ha; have HQ := hid hq; have HD := hid hd; have HZ := hid hz; have HZ' := hid hz'; have HB := hid hb
      clear ha hq hd hz hz' hb
      have i64 : I64 (j : Int) := ⟨by omega, by omega⟩
      have I := hid i64
      clear i64
      have hlt' : (j : Int) < 12 := by omega
      go_wp2_with fail
      refine (mke_any Z sa _ w.heap.size _ (atN (j : Int)) none 0 HA.out (SlA.nil _ _) (HT.out.on HB.out) HB.out.size (ndI_at I.out)).mono ?_
      rintro e3 w3 ⟨rfl, s3⟩
      obtain ⟨Z3, a3, q3, d3, z3, b3⟩ := twoI_a (by omega) HQ.out HD.out HZ.out HZ'.out HB.out s3
      have A3 := hid a3; have Q3 := hid q3; have D3 := hid d3; have ZZ3 := hid z3; have B3 := hid b3
      clear a3 q3 d3 z3 b3 s3
      go_wp2_with fail
      refine (ratom_any Z' sb _ _ (j : Int) Q3.out I.out).mono ?_
      rintro e4 w4 ⟨rfl, s4⟩
      have H4 := hid (twoI_b (by omega) A3.out D3.out ZZ3.out HZ'.out B3.out s4)
      clear s4
      go_wp2_with fail
      go_roundw
      case rel => exact ⟨j + 1, by go_num, by omega, H4.out⟩
      case measure => simp [intOf]; omega
    · have : j = 12 := by omega
      subst this
      go_wp2_with fail
      go_ret2
      exact ⟨sa, sb, rfl, HJ.out⟩
end Go.Proofs.YtanakgbhmmemoaaDoor
