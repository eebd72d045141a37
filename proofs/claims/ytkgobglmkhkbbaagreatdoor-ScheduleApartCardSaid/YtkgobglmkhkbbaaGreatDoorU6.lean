/- the law's two arenas of ten secrets; live and more share them. -/
import Derived.Test.YtkgobglmkhkbbaaGreatDoorU5
import Derived.Test.YtkgobglmkhkbbaaGreatDoorM2
namespace Go.Proofs.YtkgobglmkhkbbaaGreatDoor
open Go.RowKit Go.KK Go.Shelf Go.Maps
set_option linter.unusedVariables false
set_option linter.unusedSimpArgs false

theorem ratom_any (Z : Nat → Prop) (st : Nat) (xs : List ND) (w : World) (n : Int) (h : AQ w Z st xs) (hn : I64 n) :
    Calls Tryz.prog 58 #[.pointer (some ⟨st, 0, none⟩), .int .i64 n] w fun e w' => e = .returned (.tuple #[.int .i64 (makI xs (atN n)), .int .i64 (makE xs (atN n))]) ∧ AqS w Z st (makT xs (atN n)) w' := by
  have HM := hid (rmke_any Z st xs w (atN n) none 0 h (SlA.nil _ _) (ndI_at hn))
  clear h
  go_enter Tryz.func58, Tryz.ntmps58
  go_wp2_with fail
  refine HM.out.mono ?_
  rintro e w' ⟨rfl, hs⟩
  have HS := hid hs
  clear hs
  go_wp2_with fail
  go_ret2
  exact ⟨rfl, HS.out⟩
/-- What two leaves: both arenas with the same ten secrets. -/
def TwoS (w : World) (e : Ending) (w' : World) : Prop := ∃ sa sb Z Z', e = .returned (.tuple #[.pointer (some ⟨sa, 0, none⟩), .pointer (some ⟨sb, 0, none⟩)]) ∧ Tw w w' sa sb Z Z' (atoms 10)
set_option maxHeartbeats 2000000 in
theorem two_any (w : World) (hT : Tb w.heap.size w) : Calls Tryz.prog 16 #[] w (TwoS w) := by
  have HT := hid hT
  clear hT
  go_enter Tryz.func16, Tryz.ntmps16
  go_wp2_with fail
  refine (new_any _).mono ?_
  rintro e1 w1 ⟨Z1, sa, rfl, a1, z1, b1⟩
  go_wp2_with fail
  refine (rnew_any _).mono ?_
  rintro e2 w2 ⟨Z2, sb, rfl, a2, z2, b2⟩
  have HI := hid (show Tw w w2 sa sb Z1 Z2 (atoms 0) from ⟨a1.ext b2, a2, fun b h1 h2 => by have := a1.zlt b h1; have := z2 b h2; omega, z1, fun b h => Nat.le_trans b1.size (z2 b h), b1.trans (b2.mono b1.size)⟩)
  clear a2 z2 b2 a1 z1 b1
  go_wp2_with fail
  go_loopw [7] (fun i wr => ∃ (j : Nat) (Z Z' : Nat → Prop), i = .int .i64 j ∧ j ≤ 10 ∧ Tw w wr sa sb Z Z' (atoms j)) (fun i _ => 10 - (intOf i).toNat)
  case atStart => exact ⟨0, Z1, Z2, rfl, by omega, HI.out⟩
  case round =>
    clear HI
    obtain ⟨j, Z, Z', hi, hj, hI⟩ := hrel
    subst hi
    have HJ := hid hI
    clear hI
    by_cases hlt : j < 10
    · have hj64 : I64 (j : Int) := ⟨by omega, by omega⟩
      have HST := hid (atoms_step (n := j) (by omega))
      have HZB := hid HJ.out.zb
      have hlt' : (j : Int) < 10 := by omega
      go_wp2_with fail
      refine (mke_any Z sa _ w.heap.size _ (atN (j : Int)) none 0 HJ.out.a (SlA.nil _ _) (HT.out.on HJ.out.bl) HJ.out.bl.size (ndI_at hj64)).mono ?_
      rintro e3 w3 ⟨rfl, s3⟩
      obtain ⟨Z3, a3, q3, d3, z3, -, -, b3⟩ := HJ.out.mkA s3
      have A3 := hid a3; have Q3 := hid q3; have D3 := hid d3; have ZZ3 := hid z3; have B3 := hid b3
      clear a3 q3 d3 z3 b3 s3 HJ
      go_wp2_with fail
      refine (ratom_any Z' sb _ _ (j : Int) Q3.out hj64).mono ?_
      rintro e4 w4 ⟨rfl, s4⟩
      obtain ⟨Z4, t4, -, -⟩ := Tw.mkB A3.out Q3.out D3.out ZZ3.out HZB.out B3.out s4
      rw [HST.out] at t4
      have T4 := hid t4
      clear t4 s4 A3 Q3 D3 ZZ3 B3 HZB
      go_wp2_with fail
      go_roundw
      case rel => exact ⟨j + 1, Z3, Z4, by go_num, by omega, T4.out⟩
      case measure => simp [intOf]; omega
    · have : j = 10 := by omega
      subst this
      go_wp2_with fail
      go_ret2
      exact ⟨sa, sb, Z, Z', rfl, HJ.out⟩
theorem Tw.la {w W : World} {sa sb : Nat} {Z Z' : Nat → Prop} {xs : List ND} (h : Tw w W sa sb Z Z' xs) : LA w W Z sa xs := ⟨h.a, h.za, h.bl⟩
end Go.Proofs.YtkgobglmkhkbbaaGreatDoor
