/- schedule's law: live; numbers beyond; what its laws share. -/
import Derived.Test.YtkgobglmkhkbbaaGreatDoorUB
import Derived.Test.YtkgobglmkhkbbaaGreatDoorW5
import Derived.Test.YtkgobglmkhkbbaaGreatDoorRA
namespace Go.Proofs.YtkgobglmkhkbbaaGreatDoor
open Go.RowKit Go.KK Go.Shelf Go.Maps
set_option linter.unusedVariables false
set_option linter.unusedSimpArgs false

theorem beyond_any (lim : Int) (A : Option Addr) (n c : Nat) (l : List Int) (w : World) (h : SlA w 1 A n c (l.map (.int .i64))) (hn : n ≤ 100000) :
    Calls Tryz.prog 15 #[.int .i64 lim, .slice A n c] w fun e w' => (∃ b, e = .returned (.bool b)) ∧ w' = w := by
  have H := hid h
  clear h
  go_enter Tryz.func15, Tryz.ntmps15
  go_wp2_with fail
  go_loopw [9] (fun v wr => ∃ j : Nat, v = .int .i64 j ∧ j ≤ n ∧ wr = w) (fun v _ => n - (intOf v).toNat)
  case atStart => exact ⟨0, rfl, Nat.zero_le _, rfl⟩
  case round =>
    obtain ⟨j, hv, hj, hw⟩ := hrel
    subst hv; subst hw
    by_cases hlt : j < n
    · obtain ⟨b, off, z, rfl, -, hc⟩ := H.out.elemI hlt
      have hlt' : (j : Int) < (n : Int) := by omega
      by_cases h1 : lim ≤ z
      · by_cases h2 : z < 1073741824
        · go_wp2_with fail
          go_ret
          exact ⟨⟨_, rfl⟩, rfl⟩
        · go_wp2_with fail
          go_roundw
          case rel => exact ⟨j + 1, by go_num, by omega, by first | rfl | trivial⟩
          case measure => simp [intOf]; omega
      · go_wp2_with fail
        go_roundw
        case rel => exact ⟨j + 1, by go_num, by omega, by first | rfl | trivial⟩
        case measure => simp [intOf]; omega
    · go_wp2_with fail
      go_ret
      exact ⟨⟨_, rfl⟩, rfl⟩
theorem SlM.new {w0 W : World} {Z : Nat → Prop} {sa : Nat} {xs : List ND} (la : LA w0 W Z sa xs) (vs : Array Value) (l : List Int) (T : TypeId) (hv : vs.toList = l.map (.int .i64)) (hm : vs.size ≤ maxLen) : SlM (W.alloc (.cells vs T)) Z (some ⟨W.heap.size, 0, none⟩) vs.size vs.size l := by
  refine ⟨by rw [← hv]; exact sla_row vs hm, fun b o e _ => ?_⟩
  injection e with e
  injection e with e1 e2
  subst e1
  exact ⟨by simp, fun hz => by have := la.ar.zlt _ hz; omega⟩
def psA : List ND := atoms 10 ++ [txN ⟨#[]⟩, ndN 5 [10, 3]]
theorem lv_p : pskF (atoms 10) [3] = (psA, 11, 0) := by decide +kernel
theorem lv_s : (⟨(showF psA 11).1.toArray⟩ : ByteArray) = ⟨#[109, 105, 120, 40, 34, 34, 44, 35, 51, 41]⟩ := by decide +kernel
theorem lv_e : (showF psA 11).2 = 0 := by decide +kernel
theorem lv_n : (nxF psA 0 1 2 []).2.2 = 0 := by decide +kernel
set_option maxHeartbeats 2000000 in
set_option maxRecDepth 100000 in
theorem live_any (w : World) (hT : Tb w.heap.size w) : Calls Tryz.prog 14 #[] w fun e w' => e = .returned (.bool true) ∧ Below w.heap.size w w' := by
  have HT := hid hT
  have HW := hid (two_any w hT)
  obtain ⟨nx, hnx⟩ : ∃ nx, nx = nxF psA 0 1 2 [] := ⟨_, rfl⟩
  have h11 : nx.2.1.length = 11 := by rw [hnx]; exact nx_elen _ _ _ _ _
  have h0 : nx.2.2 = 0 := by rw [hnx]; exact lv_n
  have HNX := hid hnx
  clear hT hnx
  obtain ⟨Xn, el, ne⟩ := nx
  dsimp only at h11 h0
  subst h0
  have HIN := hid (fun W => inner_any el W h11)
  obtain ⟨e0, e1, e2, e3, e4, e5, e6, e7, e8, e9, e10, rfl⟩ := len11 h11
  clear h11
  go_enter Tryz.func14, Tryz.ntmps14
  go_wp2_with fail
  refine HW.out.mono ?_
  rintro e w1 ⟨sa, sb, Z, Z', rfl, htw⟩
  have LC := hid htw.la
  have HPS := hid (l_psk (htw.la.alloc (.cells #[.int .i64 3] 3)) HT.out (l := [3]) (SlM.new htw.la #[.int .i64 3] [3] 3 rfl (by unfold maxLen; simp)) (by decide) (fun i hi => by rw [List.mem_singleton] at hi; subst hi; exact i64_lit (by decide) (by decide)))
  rw [lv_p] at HPS
  clear htw HW
  go_wp2_with fail
  refine HPS.out.mono ?_
  rintro e w2 ⟨Z2, rfl, l2, -⟩
  have L2 := hid l2
  clear l2 LC HPS
  go_wp2_with fail
  refine (l_showF L2.out HT.out lv_s lv_e).mono ?_
  rintro e w3 ⟨rfl, l3, -⟩
  have L3 := hid l3
  have HNC := hid (nx_any l3 HT.out (i := 0) (c := 1) (x := 2) (i64_lit (by decide) (by decide)) (i64_lit (by decide) (by decide)) (i64_lit (by decide) (by decide)) (SlM.nil _ _) (by decide) (fun i hi => by simp at hi))
  rw [← HNX.out] at HNC
  clear l3 L2
  go_wp2_with fail
  refine HNC.out.mono ?_
  rintro e w4 ⟨Z4, rfl, l4, -⟩
  have L4 := hid (l4.alloc (.cells #[.int .i64 e0, .int .i64 e1, .int .i64 e2, .int .i64 e3, .int .i64 e4, .int .i64 e5, .int .i64 e6, .int .i64 e7, .int .i64 e8, .int .i64 e9, .int .i64 e10] 30))
  clear l4 L3 HNC
  unfold epV at *
  go_wp2_with fail
  refine (HIN.out _).mono ?_
  rintro e w5 ⟨b5, rfl, -, -, -, hb5⟩
  have B5 := hid (L4.out.bl.trans (hb5.mono L4.out.sz))
  clear hb5
  go_wp2_with fail
  go_ret
  exact ⟨rfl, B5.out⟩
end Go.Proofs.YtkgobglmkhkbbaaGreatDoor
