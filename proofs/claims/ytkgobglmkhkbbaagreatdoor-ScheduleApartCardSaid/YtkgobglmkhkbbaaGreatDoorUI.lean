/- schedule's law: ScheduleApart walked. -/
import Derived.Test.YtkgobglmkhkbbaaGreatDoorUH
import Derived.BigQuiet
import Derived.Deep.DeepCutAuto
namespace Go.KK
open Go.RowKit
set_option linter.unusedVariables false
set_option linter.unusedSimpArgs false
/-- The law: epochs of other secrets have none in common; exported ones of other labels are others. -/
theorem ap_law {X0 : List ND} (ok0 : Okay X0) (hl0 : X0.length ≤ 1000) {i c x o0 o1 o2 : Int} {p q : ByteArray} (hp : p.size ≤ 200) (hq : q.size ≤ 200)
    {X1 X2 X3 : List ND} {E1 E2 E3 : List Int} (h1 : nxF X0 i c x [] = (X1, E1, 0)) (h2 : nxF X1 o0 o1 o2 [] = (X2, E2, 0)) (h3 : nxF X2 i c x [3] = (X3, E3, 0)) :
    (∀ n, n < 10 → ((inL E1).getD n 0 = (inL E2).getD n 0 ↔ i = o0 ∧ c = o1 ∧ x = o2)) ∧ (∀ n, n < 10 → ((inL E1).getD n 0 = (inL E3).getD n 0 ↔ n = 0)) ∧ hasB X3 (E1.getD 5 0) = true ∧
    ∃ X4 s X5 t, xpF X3 E1 p x = (X4, s, 0) ∧ xpF X4 E1 q x = (X5, t, 0) ∧ (s = t ↔ p = q) := by
  have a1 := nx_at (xs := X0) (i := i) (c := c) (x := x) (l := []) (by rw [h1])
  have a2 := nx_at (xs := X1) (i := o0) (c := o1) (x := o2) (l := []) (by rw [h2])
  have a3 := nx_at (xs := X2) (i := i) (c := c) (x := x) (l := [3]) (by rw [h3])
  obtain ⟨m2, g2⟩ := nx_ext X1 o0 o1 o2 []
  obtain ⟨m3, g3⟩ := nx_ext X2 i c x [3]
  have k1 := nx_ok X0 i c x [] ok0
  have k2 := nx_ok X1 o0 o1 o2 []
  have k3 := nx_ok X2 i c x [3]
  have n1 := nx_len X0 i c x []
  have n2 := nx_len X1 o0 o1 o2 []
  have n3 := nx_len X2 i c x [3]
  rw [h1] at a1 k1 n1
  rw [h2] at a2 g2 k2 n2
  rw [h3] at a3 g3 k3 n3
  try dsimp only at a1 a2 a3 g2 g3 k1 k2 k3 n1 n2 n3
  have o2' := k2 k1
  have ok := k3 o2'
  simp only [List.length_nil, List.length_singleton] at n1 n2 n3
  have b1 : NxAt X3 i c x [] E1 := by rw [g3, g2]; exact (a1.ext m2).ext m3
  have b2 : NxAt X3 o0 o1 o2 [] E2 := by rw [g3]; exact a2.ext m3
  obtain ⟨q1, q2⟩ := nx_has b1 ok
  have u1 := xp_ok (lab := p) q1 q2 hp (by omega)
  have v1 := xp_at u1
  obtain ⟨w4, y4⟩ := (sb_xp E1 p x).ext X3
  have ok4 := (sb_xp E1 p x).ok X3 ok
  have gw : (xpF X3 E1 p x).1.length ≤ X3.length + 5 := by
    have := gw_bd (F := fun xs => dvF xs (E1.getD 5 0) p) (G := fun y ys => exdF ys y lbExported x) (gw_dv _ p) (fun y => gw_exd y lbExported x) X3
    unfold xpF
    split
    · exact this
    · try dsimp only
      omega
  try dsimp only at y4 ok4
  rcases hr : xpF X3 E1 p x with ⟨X4, s, e4⟩
  rw [hr] at u1 v1 y4 ok4 gw
  try dsimp only at u1 v1 y4 ok4 gw
  subst u1
  have q1' : hasB X4 x = true := by rw [y4]; exact has_ext q1 w4
  have q2' : hasB X4 (E1.getD 5 0) = true := by rw [y4]; exact has_ext q2 w4
  have u2 := xp_ok (lab := q) q1' q2' hq (by omega)
  have v2 := xp_at u2
  obtain ⟨w5, y5⟩ := (sb_xp E1 q x).ext X4
  have ok5 := (sb_xp E1 q x).ok X4 ok4
  try dsimp only at y5 ok5
  rcases hr2 : xpF X4 E1 q x with ⟨X5, t, e5⟩
  rw [hr2] at u2 v2 y5 ok5
  try dsimp only at u2 v2 y5 ok5
  subst u2
  refine ⟨fun n hn => ?_, fun n hn => ?_, q2, X4, s, X5, t, rfl, hr2, ?_⟩
  · rw [nx_same ok b1 b2 n hn]
    exact ⟨fun h => ⟨h.1, h.2.1, h.2.2.1⟩, fun h => ⟨h.1, h.2.1, h.2.2, fun _ => rfl⟩⟩
  · rw [nx_same ok b1 a3 n hn]
    constructor
    · intro h
      by_cases h0 : n = 0
      · exact h0
      · have := h.2.2.2 h0
        simp at this
    · intro h
      exact ⟨rfl, rfl, rfl, fun h0 => absurd h h0⟩
  · rw [y5] at ok5 v2
    exact xp_same ok5 (v1.ext w5) v2
end Go.KK
namespace Go.Proofs.YtkgobglmkhkbbaaGreatDoor
open Go.RowKit Go.KK Go.Shelf Go.Maps

set_option maxHeartbeats 8000000 in
set_option maxRecDepth 100000 in
theorem apart_go (i c x o0 o1 o2 : Int) (p q : ByteArray) (w : World) (hi : I64 i) (hc : I64 c) (hx : I64 x) (h0 : I64 o0) (h1 : I64 o1) (h2 : I64 o2) (hT : Tb w.heap.size w) :
    Calls Tryz.prog 5 #[.int .i64 i, .int .i64 c, .int .i64 x, .agg #[.int .i64 o0, .int .i64 o1, .int .i64 o2], .string p, .string q] w fun e w' => e = .returned (.bool true) ∧ Below w.heap.size w w' := by
  have HB0 := hid (show Below w.heap.size w (w.alloc (.cells #[.int .i64 o0, .int .i64 o1, .int .i64 o2] 39)) from (Below.refl _ _).alloc (Nat.le_refl _) _)
  have HT0 := hid (show Tb (w.alloc (.cells #[.int .i64 o0, .int .i64 o1, .int .i64 o2] 39)).heap.size (w.alloc (.cells #[.int .i64 o0, .int .i64 o1, .int .i64 o2] 39)) from Tb.up (hT.on HB0.out) HB0.out.size)
  have HX0 := hid (heap_alloc_new w (.cells #[.int .i64 o0, .int .i64 o1, .int .i64 o2] 39))
  have HLV := hid (live_any (w.alloc (.cells #[.int .i64 o0, .int .i64 o1, .int .i64 o2] 39)) HT0.out)
  clear hT
  go_enter Tryz.func5, Tryz.ntmps5
  go_wp2_with fail
  refine HLV.out.mono ?_
  rintro e w1 ⟨rfl, b1⟩
  have HB1 := hid (HB0.out.trans (b1.mono HB0.out.size))
  have HT1 := hid (show Tb w1.heap.size w1 from Tb.up (HT0.out.on b1) b1.size)
  have HX1 := hid ((b1.block _ (Array.getElem?_eq_some_iff.1 HX0.out).1).trans HX0.out)
  clear b1 HLV HB0 HT0 HX0
  by_cases hn : 100 < p.size
  · have hn1 : (100 : Int) < (p.size : Int) := by omega
    clear hn
    go_wp2_with fail
    go_ret
    exact ⟨rfl, HB1.out⟩
  have hn1 : ¬ (100 : Int) < (p.size : Int) := by omega
  by_cases hm : 100 < q.size
  · have hm1 : (100 : Int) < (q.size : Int) := by omega
    clear hn hm
    go_wp2_with fail
    go_ret
    exact ⟨rfl, HB1.out⟩
  have hm1 : ¬ (100 : Int) < (q.size : Int) := by omega
  have hp200 : p.size ≤ 200 := by omega
  have hq200 : q.size ≤ 200 := by omega
  clear hn hm
  have HBA := hid (show Below w1.heap.size w1 (w1.alloc (.cells #[.int .i64 i, .int .i64 c, .int .i64 x] 3)) from (Below.refl _ _).alloc (Nat.le_refl _) _)
  have HBY := hid (beyond_any 10 (some ⟨w1.heap.size, 0, none⟩) 3 3 [i, c, x] (w1.alloc (.cells #[.int .i64 i, .int .i64 c, .int .i64 x] 3)) (sla_row #[.int .i64 i, .int .i64 c, .int .i64 x] (by unfold maxLen; simp)) (by omega))
  go_wp2_with fail
  refine HBY.out.mono ?_
  rintro e w2 ⟨⟨b, rfl⟩, hw⟩
  subst hw
  clear HBY
  rcases b with _ | _
  rotate_left
  · go_wp2_with fail
    go_ret
    exact ⟨rfl, HB1.out.trans (HBA.out.mono HB1.out.size)⟩
  have HB2 := hid (HB1.out.trans (HBA.out.mono HB1.out.size))
  have HT2 := hid (show Tb (w1.alloc (.cells #[.int .i64 i, .int .i64 c, .int .i64 x] 3)).heap.size (w1.alloc (.cells #[.int .i64 i, .int .i64 c, .int .i64 x] 3)) from Tb.up (HT1.out.on HBA.out) HBA.out.size)
  have HX2 := hid ((HBA.out.block _ (Array.getElem?_eq_some_iff.1 HX1.out).1).trans HX1.out)
  clear HB1 HT1 HX1 HBA
  generalize w1.alloc (.cells #[.int .i64 i, .int .i64 c, .int .i64 x] 3) = w2 at *
  have HXC := hid (fun (U : World) (hb : Below w2.heap.size w2 U) => (show U.cell? ⟨w.heap.size, 0, none⟩ = some (.int .i64 o0) ∧ U.cell? ⟨w.heap.size, 1, none⟩ = some (.int .i64 o1) ∧ U.cell? ⟨w.heap.size, 2, none⟩ = some (.int .i64 o2) from by
    have hh := (hb.block _ (Array.getElem?_eq_some_iff.1 HX2.out).1).trans HX2.out
    exact ⟨by rw [cell_of_row U _ 0 _ _ (0, 0) hh]; rfl, by rw [cell_of_row U _ 1 _ _ (0, 0) hh]; rfl, by rw [cell_of_row U _ 2 _ _ (0, 0) hh]; rfl⟩))
  have HSB := hid (show SlA w2 1 (some ⟨w.heap.size, 0, none⟩) 3 3 (([o0, o1, o2] : List Int).map (.int .i64)) from ⟨Nat.le_refl _, by unfold maxLen; omega, rfl, fun j u hj => ⟨w.heap.size, 0, rfl, by
    have hh := HXC.out w2 (Below.refl _ _)
    have hj3 : j = 0 ∨ j = 1 ∨ j = 2 := by have := (List.getElem?_eq_some_iff.1 hj).1; simp at this; omega
    rw [Nat.zero_add]
    rcases hj3 with rfl | rfl | rfl
    · exact hh.1.trans hj
    · exact hh.2.1.trans hj
    · exact hh.2.2.trans hj⟩⟩)
  go_wp2_with fail
  refine (beyond_any 10 (some ⟨w.heap.size, 0, none⟩) 3 3 [o0, o1, o2] _ HSB.out (by omega)).mono ?_
  rintro e w3 ⟨⟨b, rfl⟩, hw⟩
  subst hw
  rcases b with _ | _
  rotate_left
  · go_wp2_with fail
    go_ret
    exact ⟨rfl, HB2.out⟩
  clear HSB HX2
  go_wp2_with fail
  refine (two_any w3 HT2.out).mono ?_
  rintro e w4 ⟨sa, sb, Z, Z', rfl, htw⟩
  have LC := hid htw.la
  have hok0 := htw.la.ar.ok
  clear htw hn1 hm1
  rcases hr1 : nxF (atoms 10) i c x [] with ⟨X1, l1, er1⟩
  rcases hr2 : nxF X1 o0 o1 o2 [] with ⟨X2, l2, er2⟩
  rcases hr3 : nxF X2 i c x [3] with ⟨X3, l3, er3⟩
  have HLW := hid (fun (a1 : er1 = 0) (a2 : er2 = 0) (a3 : er3 = 0) => ap_law (X0 := atoms 10) (i := i) (c := c) (x := x) (o0 := o0) (o1 := o1) (o2 := o2) (p := p) (q := q) (X1 := X1) (X2 := X2) (X3 := X3) (E1 := l1) (E2 := l2) (E3 := l3) hok0 (by rw [atoms_len]; omega) hp200 hq200 (by rw [hr1, a1]) (by rw [hr2, a2]) (by rw [hr3, a3]))
  have n1 := nx_elen (atoms 10) i c x []
  have n2 := nx_elen X1 o0 o1 o2 []
  have n3 := nx_elen X2 i c x [3]
  rw [hr1] at n1; rw [hr2] at n2; rw [hr3] at n3
  try dsimp only at n1 n2 n3
  have HIN := hid (fun W => And.intro (inner_any l1 W n1) (And.intro (inner_any l2 W n2) (inner_any l3 W n3)))
  have HXP := hid (fun U Zq sq Xq (hla : LA w3 U Zq sq Xq) (h5 : I64 (l1.getD 5 0)) lab => l_xp hla HT2.out n1 h5 hx lab)
  obtain ⟨e0, e1, e2, e3, e4, e5, e6, e7, e8, e9, e10, rfl⟩ := len11 n1
  obtain ⟨f0, f1, f2, f3, f4, f5, f6, f7, f8, f9, f10, rfl⟩ := len11 n2
  obtain ⟨g0, g1, g2, g3, g4, g5, g6, g7, g8, g9, g10, rfl⟩ := len11 n3
  have HN1 := hid (nx_any LC.out HT2.out hi hc hx (SlM.nil _ _) (by decide) (fun i hi => by simp at hi))
  rw [hr1] at HN1
  have HR2 := hid hr2; have HR3 := hid hr3
  clear n1 n2 n3 hr1 hr2 hr3 hok0 hp200 hq200
  unfold EpS epV at HN1
  unfold epV at HIN HXP
  go_wp2_with fail
  refine HN1.out.mono ?_
  rintro e w5 ⟨Z5, rfl, l5, -⟩
  have L5 := hid (l5.alloc (.cells #[.int .i64 e0, .int .i64 e1, .int .i64 e2, .int .i64 e3, .int .i64 e4, .int .i64 e5, .int .i64 e6, .int .i64 e7, .int .i64 e8, .int .i64 e9, .int .i64 e10] 30))
  have HE5 := hid (heap_alloc_new w5 (.cells #[.int .i64 e0, .int .i64 e1, .int .i64 e2, .int .i64 e3, .int .i64 e4, .int .i64 e5, .int .i64 e6, .int .i64 e7, .int .i64 e8, .int .i64 e9, .int .i64 e10] 30))
  have HZ5 := hid (show ¬ Z5 w5.heap.size from fun hz => by have := l5.ar.zlt _ hz; omega)
  have HN2 := hid (nx_any L5.out HT2.out h0 h1 h2 (SlM.nil _ _) (by decide) (fun i hi => by simp at hi))
  rw [HR2.out] at HN2
  unfold EpS epV at HN2
  obtain ⟨b0, b1, b2⟩ := HXC.out _ L5.out.bl
  clear l5 HN1 LC
  go_wp2_with fail
  refine HN2.out.mono ?_
  rintro e w6 ⟨Z6, rfl, l6, m6⟩
  have HE6 := hid (Mv.cellE HE5.out m6 HZ5.out)
  have HZ6 := hid (show ¬ Z6 w5.heap.size from fun hz => (m6.n _ hz).elim HZ5.out fun h => by have := (Array.getElem?_eq_some_iff.1 HE5.out).1; omega)
  have L6 := hid (l6.alloc (.cells #[.int .i64 f0, .int .i64 f1, .int .i64 f2, .int .i64 f3, .int .i64 f4, .int .i64 f5, .int .i64 f6, .int .i64 f7, .int .i64 f8, .int .i64 f9, .int .i64 f10] 30))
  have M6 := hid (Mv.alloc Z6 w6 (.cells #[.int .i64 f0, .int .i64 f1, .int .i64 f2, .int .i64 f3, .int .i64 f4, .int .i64 f5, .int .i64 f6, .int .i64 f7, .int .i64 f8, .int .i64 f9, .int .i64 f10] 30))
  have HF6 := hid (heap_alloc_new w6 (.cells #[.int .i64 f0, .int .i64 f1, .int .i64 f2, .int .i64 f3, .int .i64 f4, .int .i64 f5, .int .i64 f6, .int .i64 f7, .int .i64 f8, .int .i64 f9, .int .i64 f10] 30))
  have HY6 := hid (show ¬ Z6 w6.heap.size from fun hz => by have := l6.ar.zlt _ hz; omega)
  have HEA := hid (Mv.cellE HE6.out M6.out HZ6.out)
  have M7 := hid (Mv.alloc Z6 (w6.alloc (.cells #[.int .i64 f0, .int .i64 f1, .int .i64 f2, .int .i64 f3, .int .i64 f4, .int .i64 f5, .int .i64 f6, .int .i64 f7, .int .i64 f8, .int .i64 f9, .int .i64 f10] 30)) (.cells #[.int .i64 3] 3))
  have HEB := hid (Mv.cellE HEA.out M7.out HZ6.out)
  have HFB := hid (Mv.cellE HF6.out M7.out HY6.out)
  have HN3 := hid (nx_any (L6.out.alloc (.cells #[.int .i64 3] 3)) HT2.out hi hc hx (l := [3]) (SlM.new L6.out #[.int .i64 3] [3] 3 rfl (by unfold maxLen; simp)) (by decide) (fun i hi => by rw [List.mem_singleton] at hi; subst hi; exact i64_lit (by decide) (by decide)))
  rw [HR3.out] at HN3
  rw [show (w6.alloc (.cells #[.int .i64 f0, .int .i64 f1, .int .i64 f2, .int .i64 f3, .int .i64 f4, .int .i64 f5, .int .i64 f6, .int .i64 f7, .int .i64 f8, .int .i64 f9, .int .i64 f10] 30)).heap.size = w6.heap.size + 1 by simp] at HN3
  unfold EpS epV at HN3
  clear l6 m6 HN2 L5 HE5 HZ5 HE6 HEA HF6 M6 M7 b0 b1 b2
  go_wp2_with fail
  refine HN3.out.mono ?_
  rintro e w7 ⟨Z7, rfl, l7, m7⟩
  have HE7 := hid (Mv.cellE HEB.out m7 HZ6.out)
  have HF7 := hid (Mv.cellE HFB.out m7 HY6.out)
  have HZ7 := hid (show ¬ Z7 w5.heap.size from fun hz => (m7.n _ hz).elim HZ6.out fun h => by have := (Array.getElem?_eq_some_iff.1 HEB.out).1; omega)
  have HY7 := hid (show ¬ Z7 w6.heap.size from fun hz => (m7.n _ hz).elim HY6.out fun h => by have := (Array.getElem?_eq_some_iff.1 HFB.out).1; omega)
  have L8 := hid (l7.alloc (.cells #[.int .i64 g0, .int .i64 g1, .int .i64 g2, .int .i64 g3, .int .i64 g4, .int .i64 g5, .int .i64 g6, .int .i64 g7, .int .i64 g8, .int .i64 g9, .int .i64 g10] 30))
  have M8 := hid (Mv.alloc Z7 w7 (.cells #[.int .i64 g0, .int .i64 g1, .int .i64 g2, .int .i64 g3, .int .i64 g4, .int .i64 g5, .int .i64 g6, .int .i64 g7, .int .i64 g8, .int .i64 g9, .int .i64 g10] 30))
  have HE8 := hid (Mv.cellE HE7.out M8.out HZ7.out)
  have HF8 := hid (Mv.cellE HF7.out M8.out HY7.out)
  have HG8 := hid (heap_alloc_new w7 (.cells #[.int .i64 g0, .int .i64 g1, .int .i64 g2, .int .i64 g3, .int .i64 g4, .int .i64 g5, .int .i64 g6, .int .i64 g7, .int .i64 g8, .int .i64 g9, .int .i64 g10] 30))
  have HBF := hid (HB2.out.trans (L8.out.bl.mono HB2.out.size))
  clear l7 m7 HN3 L6 HEB HFB HZ6 HY6 HE7 HF7 HR2 HR3
  by_cases a1 : er1 = 0
  rotate_left
  · have hne : (er1 != 0) = true := bne_iff_ne.2 a1
    clear a1
    go_wp2_with fail
    go_ret
    exact ⟨rfl, HBF.out⟩
  by_cases a2 : er2 = 0
  rotate_left
  · have hne : (er2 != 0) = true := bne_iff_ne.2 a2
    subst a1
    clear a2
    go_wp2_with fail
    go_ret
    exact ⟨rfl, HBF.out⟩
  by_cases a3 : er3 = 0
  rotate_left
  · have hne : (er3 != 0) = true := bne_iff_ne.2 a3
    subst a1; subst a2
    clear a3
    go_wp2_with fail
    go_ret
    exact ⟨rfl, HBF.out⟩
  have HLX := hid (HLW.out a1 a2 a3)
  subst a1; subst a2; subst a3
  clear HLW
  obtain ⟨b0, b1, b2⟩ := HXC.out _ L8.out.bl
  have r0 : (w7.alloc (.cells #[.int .i64 g0, .int .i64 g1, .int .i64 g2, .int .i64 g3, .int .i64 g4, .int .i64 g5, .int .i64 g6, .int .i64 g7, .int .i64 g8, .int .i64 g9, .int .i64 g10] 30)).cell? ⟨w5.heap.size, 0, none⟩ = some (.int .i64 e0) := by rw [cell_of_row (w7.alloc (.cells #[.int .i64 g0, .int .i64 g1, .int .i64 g2, .int .i64 g3, .int .i64 g4, .int .i64 g5, .int .i64 g6, .int .i64 g7, .int .i64 g8, .int .i64 g9, .int .i64 g10] 30)) w5.heap.size 0 _ _ (0, 0) HE8.out]; rfl
  have r1 : (w7.alloc (.cells #[.int .i64 g0, .int .i64 g1, .int .i64 g2, .int .i64 g3, .int .i64 g4, .int .i64 g5, .int .i64 g6, .int .i64 g7, .int .i64 g8, .int .i64 g9, .int .i64 g10] 30)).cell? ⟨w5.heap.size, 1, none⟩ = some (.int .i64 e1) := by rw [cell_of_row (w7.alloc (.cells #[.int .i64 g0, .int .i64 g1, .int .i64 g2, .int .i64 g3, .int .i64 g4, .int .i64 g5, .int .i64 g6, .int .i64 g7, .int .i64 g8, .int .i64 g9, .int .i64 g10] 30)) w5.heap.size 1 _ _ (0, 0) HE8.out]; rfl
  have r2 : (w7.alloc (.cells #[.int .i64 g0, .int .i64 g1, .int .i64 g2, .int .i64 g3, .int .i64 g4, .int .i64 g5, .int .i64 g6, .int .i64 g7, .int .i64 g8, .int .i64 g9, .int .i64 g10] 30)).cell? ⟨w5.heap.size, 2, none⟩ = some (.int .i64 e2) := by rw [cell_of_row (w7.alloc (.cells #[.int .i64 g0, .int .i64 g1, .int .i64 g2, .int .i64 g3, .int .i64 g4, .int .i64 g5, .int .i64 g6, .int .i64 g7, .int .i64 g8, .int .i64 g9, .int .i64 g10] 30)) w5.heap.size 2 _ _ (0, 0) HE8.out]; rfl
  have r3 : (w7.alloc (.cells #[.int .i64 g0, .int .i64 g1, .int .i64 g2, .int .i64 g3, .int .i64 g4, .int .i64 g5, .int .i64 g6, .int .i64 g7, .int .i64 g8, .int .i64 g9, .int .i64 g10] 30)).cell? ⟨w5.heap.size, 3, none⟩ = some (.int .i64 e3) := by rw [cell_of_row (w7.alloc (.cells #[.int .i64 g0, .int .i64 g1, .int .i64 g2, .int .i64 g3, .int .i64 g4, .int .i64 g5, .int .i64 g6, .int .i64 g7, .int .i64 g8, .int .i64 g9, .int .i64 g10] 30)) w5.heap.size 3 _ _ (0, 0) HE8.out]; rfl
  have r4 : (w7.alloc (.cells #[.int .i64 g0, .int .i64 g1, .int .i64 g2, .int .i64 g3, .int .i64 g4, .int .i64 g5, .int .i64 g6, .int .i64 g7, .int .i64 g8, .int .i64 g9, .int .i64 g10] 30)).cell? ⟨w5.heap.size, 4, none⟩ = some (.int .i64 e4) := by rw [cell_of_row (w7.alloc (.cells #[.int .i64 g0, .int .i64 g1, .int .i64 g2, .int .i64 g3, .int .i64 g4, .int .i64 g5, .int .i64 g6, .int .i64 g7, .int .i64 g8, .int .i64 g9, .int .i64 g10] 30)) w5.heap.size 4 _ _ (0, 0) HE8.out]; rfl
  have r5 : (w7.alloc (.cells #[.int .i64 g0, .int .i64 g1, .int .i64 g2, .int .i64 g3, .int .i64 g4, .int .i64 g5, .int .i64 g6, .int .i64 g7, .int .i64 g8, .int .i64 g9, .int .i64 g10] 30)).cell? ⟨w5.heap.size, 5, none⟩ = some (.int .i64 e5) := by rw [cell_of_row (w7.alloc (.cells #[.int .i64 g0, .int .i64 g1, .int .i64 g2, .int .i64 g3, .int .i64 g4, .int .i64 g5, .int .i64 g6, .int .i64 g7, .int .i64 g8, .int .i64 g9, .int .i64 g10] 30)) w5.heap.size 5 _ _ (0, 0) HE8.out]; rfl
  have r6 : (w7.alloc (.cells #[.int .i64 g0, .int .i64 g1, .int .i64 g2, .int .i64 g3, .int .i64 g4, .int .i64 g5, .int .i64 g6, .int .i64 g7, .int .i64 g8, .int .i64 g9, .int .i64 g10] 30)).cell? ⟨w5.heap.size, 6, none⟩ = some (.int .i64 e6) := by rw [cell_of_row (w7.alloc (.cells #[.int .i64 g0, .int .i64 g1, .int .i64 g2, .int .i64 g3, .int .i64 g4, .int .i64 g5, .int .i64 g6, .int .i64 g7, .int .i64 g8, .int .i64 g9, .int .i64 g10] 30)) w5.heap.size 6 _ _ (0, 0) HE8.out]; rfl
  have r7 : (w7.alloc (.cells #[.int .i64 g0, .int .i64 g1, .int .i64 g2, .int .i64 g3, .int .i64 g4, .int .i64 g5, .int .i64 g6, .int .i64 g7, .int .i64 g8, .int .i64 g9, .int .i64 g10] 30)).cell? ⟨w5.heap.size, 7, none⟩ = some (.int .i64 e7) := by rw [cell_of_row (w7.alloc (.cells #[.int .i64 g0, .int .i64 g1, .int .i64 g2, .int .i64 g3, .int .i64 g4, .int .i64 g5, .int .i64 g6, .int .i64 g7, .int .i64 g8, .int .i64 g9, .int .i64 g10] 30)) w5.heap.size 7 _ _ (0, 0) HE8.out]; rfl
  have r8 : (w7.alloc (.cells #[.int .i64 g0, .int .i64 g1, .int .i64 g2, .int .i64 g3, .int .i64 g4, .int .i64 g5, .int .i64 g6, .int .i64 g7, .int .i64 g8, .int .i64 g9, .int .i64 g10] 30)).cell? ⟨w5.heap.size, 8, none⟩ = some (.int .i64 e8) := by rw [cell_of_row (w7.alloc (.cells #[.int .i64 g0, .int .i64 g1, .int .i64 g2, .int .i64 g3, .int .i64 g4, .int .i64 g5, .int .i64 g6, .int .i64 g7, .int .i64 g8, .int .i64 g9, .int .i64 g10] 30)) w5.heap.size 8 _ _ (0, 0) HE8.out]; rfl
  have r9 : (w7.alloc (.cells #[.int .i64 g0, .int .i64 g1, .int .i64 g2, .int .i64 g3, .int .i64 g4, .int .i64 g5, .int .i64 g6, .int .i64 g7, .int .i64 g8, .int .i64 g9, .int .i64 g10] 30)).cell? ⟨w5.heap.size, 9, none⟩ = some (.int .i64 e9) := by rw [cell_of_row (w7.alloc (.cells #[.int .i64 g0, .int .i64 g1, .int .i64 g2, .int .i64 g3, .int .i64 g4, .int .i64 g5, .int .i64 g6, .int .i64 g7, .int .i64 g8, .int .i64 g9, .int .i64 g10] 30)) w5.heap.size 9 _ _ (0, 0) HE8.out]; rfl
  have r10 : (w7.alloc (.cells #[.int .i64 g0, .int .i64 g1, .int .i64 g2, .int .i64 g3, .int .i64 g4, .int .i64 g5, .int .i64 g6, .int .i64 g7, .int .i64 g8, .int .i64 g9, .int .i64 g10] 30)).cell? ⟨w5.heap.size, 10, none⟩ = some (.int .i64 e10) := by rw [cell_of_row (w7.alloc (.cells #[.int .i64 g0, .int .i64 g1, .int .i64 g2, .int .i64 g3, .int .i64 g4, .int .i64 g5, .int .i64 g6, .int .i64 g7, .int .i64 g8, .int .i64 g9, .int .i64 g10] 30)) w5.heap.size 10 _ _ (0, 0) HE8.out]; rfl
  obtain ⟨al, hal⟩ : ∃ al : Bool, al = decide (i = o0 ∧ c = o1 ∧ x = o2) := ⟨_, rfl⟩
  have HAL := hid hal
  have HALB := hid (show al = ((i == o0) && (c == o1) && (x == o2)) by rw [hal, Bool.eq_iff_iff]; simp [and_assoc])
  clear hal
  have HW8 := hid (show w7.alloc (.cells #[.int .i64 g0, .int .i64 g1, .int .i64 g2, .int .i64 g3, .int .i64 g4, .int .i64 g5, .int .i64 g6, .int .i64 g7, .int .i64 g8, .int .i64 g9, .int .i64 g10] 30) = w7.alloc (.cells #[.int .i64 g0, .int .i64 g1, .int .i64 g2, .int .i64 g3, .int .i64 g4, .int .i64 g5, .int .i64 g6, .int .i64 g7, .int .i64 g8, .int .i64 g9, .int .i64 g10] 30) from rfl)
  go_upto_region 10 with fail
  go_cut [22] (fun v22 U => v22 = .bool al ∧ U = w7.alloc (.cells #[.int .i64 g0, .int .i64 g1, .int .i64 g2, .int .i64 g3, .int .i64 g4, .int .i64 g5, .int .i64 g6, .int .i64 g7, .int .i64 g8, .int .i64 g9, .int .i64 g10] 30))
  case first =>
    rcases hio : (i == o0) with _ | _ <;> rcases hco : (c == o1) with _ | _ <;> rcases hxo : (x == o2) with _ | _
    all_goals
      go_wp2_with fail
      go_meet
      exact ⟨by rw [HALB.out, hio, hco, hxo]; rfl, rfl⟩
  obtain ⟨hv, hw⟩ := hcut
  subst hv
  rw [hw]
  clear hw b0 b1 b2
  go_wp2_with fail
  refine (HIN.out _).1.mono ?_
  rintro e w8 ⟨bl, rfl, -, -, s1, q1⟩
  have S1 := hid s1
  have L9 := hid (L8.out.ext q1)
  have HE9 := hid (Mv.cellE HE8.out (Mv.below (Z := Z7) q1) HZ7.out)
  have HF9 := hid (Mv.cellE HF8.out (Mv.below (Z := Z7) q1) HY7.out)
  have HG9 := hid ((q1.block _ (Array.getElem?_eq_some_iff.1 HG8.out).1).trans HG8.out)
  clear s1 q1 r0 r1 r2 r3 r4 r5 r6 r7 r8 r9 r10
  have r0 : w8.cell? ⟨w6.heap.size, 0, none⟩ = some (.int .i64 f0) := by rw [cell_of_row w8 w6.heap.size 0 _ _ (0, 0) HF9.out]; rfl
  have r1 : w8.cell? ⟨w6.heap.size, 1, none⟩ = some (.int .i64 f1) := by rw [cell_of_row w8 w6.heap.size 1 _ _ (0, 0) HF9.out]; rfl
  have r2 : w8.cell? ⟨w6.heap.size, 2, none⟩ = some (.int .i64 f2) := by rw [cell_of_row w8 w6.heap.size 2 _ _ (0, 0) HF9.out]; rfl
  have r3 : w8.cell? ⟨w6.heap.size, 3, none⟩ = some (.int .i64 f3) := by rw [cell_of_row w8 w6.heap.size 3 _ _ (0, 0) HF9.out]; rfl
  have r4 : w8.cell? ⟨w6.heap.size, 4, none⟩ = some (.int .i64 f4) := by rw [cell_of_row w8 w6.heap.size 4 _ _ (0, 0) HF9.out]; rfl
  have r5 : w8.cell? ⟨w6.heap.size, 5, none⟩ = some (.int .i64 f5) := by rw [cell_of_row w8 w6.heap.size 5 _ _ (0, 0) HF9.out]; rfl
  have r6 : w8.cell? ⟨w6.heap.size, 6, none⟩ = some (.int .i64 f6) := by rw [cell_of_row w8 w6.heap.size 6 _ _ (0, 0) HF9.out]; rfl
  have r7 : w8.cell? ⟨w6.heap.size, 7, none⟩ = some (.int .i64 f7) := by rw [cell_of_row w8 w6.heap.size 7 _ _ (0, 0) HF9.out]; rfl
  have r8 : w8.cell? ⟨w6.heap.size, 8, none⟩ = some (.int .i64 f8) := by rw [cell_of_row w8 w6.heap.size 8 _ _ (0, 0) HF9.out]; rfl
  have r9 : w8.cell? ⟨w6.heap.size, 9, none⟩ = some (.int .i64 f9) := by rw [cell_of_row w8 w6.heap.size 9 _ _ (0, 0) HF9.out]; rfl
  have r10 : w8.cell? ⟨w6.heap.size, 10, none⟩ = some (.int .i64 f10) := by rw [cell_of_row w8 w6.heap.size 10 _ _ (0, 0) HF9.out]; rfl
  go_wp2_with fail
  refine (HIN.out _).2.1.mono ?_
  rintro e w9 ⟨bm, rfl, -, -, s2, q2⟩
  have S2 := hid s2
  have S1' := hid (S1.out.ext q2)
  have LA' := hid (L9.out.ext q2)
  have HEA := hid (Mv.cellE HE9.out (Mv.below (Z := Z7) q2) HZ7.out)
  have HGA := hid ((q2.block _ (Array.getElem?_eq_some_iff.1 HG9.out).1).trans HG9.out)
  clear s2 q2 r0 r1 r2 r3 r4 r5 r6 r7 r8 r9 r10 S1 L9 HE9 HF9 HG9
  have r0 : w9.cell? ⟨w7.heap.size, 0, none⟩ = some (.int .i64 g0) := by rw [cell_of_row w9 w7.heap.size 0 _ _ (0, 0) HGA.out]; rfl
  have r1 : w9.cell? ⟨w7.heap.size, 1, none⟩ = some (.int .i64 g1) := by rw [cell_of_row w9 w7.heap.size 1 _ _ (0, 0) HGA.out]; rfl
  have r2 : w9.cell? ⟨w7.heap.size, 2, none⟩ = some (.int .i64 g2) := by rw [cell_of_row w9 w7.heap.size 2 _ _ (0, 0) HGA.out]; rfl
  have r3 : w9.cell? ⟨w7.heap.size, 3, none⟩ = some (.int .i64 g3) := by rw [cell_of_row w9 w7.heap.size 3 _ _ (0, 0) HGA.out]; rfl
  have r4 : w9.cell? ⟨w7.heap.size, 4, none⟩ = some (.int .i64 g4) := by rw [cell_of_row w9 w7.heap.size 4 _ _ (0, 0) HGA.out]; rfl
  have r5 : w9.cell? ⟨w7.heap.size, 5, none⟩ = some (.int .i64 g5) := by rw [cell_of_row w9 w7.heap.size 5 _ _ (0, 0) HGA.out]; rfl
  have r6 : w9.cell? ⟨w7.heap.size, 6, none⟩ = some (.int .i64 g6) := by rw [cell_of_row w9 w7.heap.size 6 _ _ (0, 0) HGA.out]; rfl
  have r7 : w9.cell? ⟨w7.heap.size, 7, none⟩ = some (.int .i64 g7) := by rw [cell_of_row w9 w7.heap.size 7 _ _ (0, 0) HGA.out]; rfl
  have r8 : w9.cell? ⟨w7.heap.size, 8, none⟩ = some (.int .i64 g8) := by rw [cell_of_row w9 w7.heap.size 8 _ _ (0, 0) HGA.out]; rfl
  have r9 : w9.cell? ⟨w7.heap.size, 9, none⟩ = some (.int .i64 g9) := by rw [cell_of_row w9 w7.heap.size 9 _ _ (0, 0) HGA.out]; rfl
  have r10 : w9.cell? ⟨w7.heap.size, 10, none⟩ = some (.int .i64 g10) := by rw [cell_of_row w9 w7.heap.size 10 _ _ (0, 0) HGA.out]; rfl
  go_wp2_with fail
  refine (HIN.out _).2.2.mono ?_
  rintro e wA ⟨bn, rfl, -, -, s3, q3⟩
  have S3 := hid s3
  have S2' := hid (S2.out.ext q3)
  have S1A := hid (S1'.out.ext q3)
  have LB := hid (LA'.out.ext q3)
  have HEB := hid (Mv.cellE HEA.out (Mv.below (Z := Z7) q3) HZ7.out)
  clear s3 q3 r0 r1 r2 r3 r4 r5 r6 r7 r8 r9 r10 S1' S2 LA' HEA HGA HE8 HF8 HG8 L8 HIN
  go_wp2_with fail
  have HLN := hid (show (inL [e0, e1, e2, e3, e4, e5, e6, e7, e8, e9, e10]).length = 10 ∧ (inL [f0, f1, f2, f3, f4, f5, f6, f7, f8, f9, f10]).length = 10 ∧ (inL [g0, g1, g2, g3, g4, g5, g6, g7, g8, g9, g10]).length = 10 from ⟨rfl, rfl, rfl⟩)
  go_loopw [132] (fun v U => ∃ k qq : Nat, v = .int .i64 k ∧ k ≤ 10 ∧ U = wA.drewN qq) (fun v _ => 10 - (intOf v).toNat)
  case atStart => exact ⟨0, 0, rfl, by omega, rfl⟩
  case round =>
    obtain ⟨k, qq, hv, hk, hw⟩ := hrel
    subst hv; subst hw
    by_cases hlt : k < 10
    · obtain ⟨g1, f1, y1, z1, z2, z3⟩ := S1A.out.elemI hlt
      obtain ⟨g2, f2, y2, v1, v2, v3⟩ := S2'.out.elemI hlt
      obtain ⟨g3, f3, y3, t1, t2, t3⟩ := S3.out.elemI hlt
      injection z1 with z1; injection z1 with z4 z5; subst z4; subst z5
      injection v1 with v1; injection v1 with v4 v5; subst v4; subst v5
      injection t1 with t1; injection t1 with t4 t5; subst t4; subst t5
      rw [Nat.zero_add] at z3 v3 t3
      have p1 := HLX.out.1 k hlt
      have p2 := HLX.out.2.1 k hlt
      rw [List.getD, List.getD, z2, v2] at p1
      rw [List.getD, List.getD, z2, t2] at p2
      have c1 : ((y1 == y2) != al) = false := by
        rw [bne_eq_false_iff_eq, HAL.out, Bool.eq_iff_iff, beq_iff_eq, decide_eq_true_eq]; exact p1
      have c1' : (!((y1 == y2) == al)) = false := c1
      have c2 : ((y1 == y3) != ((k : Int) == 0)) = false := by
        rw [bne_eq_false_iff_eq, Bool.eq_iff_iff, beq_iff_eq, beq_iff_eq]
        exact p2.trans ⟨fun h => by omega, fun h => by omega⟩
      have c2' : (!((y1 == y3) == ((k : Int) == 0))) = false := c2
      have hlt' : (k : Int) < 10 := by omega
      have HK := hid hlt
      clear p1 p2 z2 v2 t2
      go_wp2_with fail
      go_quiet (fail)
      go_wp2_with fail
      go_roundw
      case rel => exact ⟨k + 1, _, by go_num, by have := HK.out; omega, rfl⟩
      case measure => have := HK.out; simp [intOf]; omega
    · have hk10 : k = 10 := by omega
      subst hk10
      have hlt' : ¬ (10 : Int) < 10 := by omega
      obtain ⟨g5, X4, s4, X5, t5, gx, gy, gi⟩ := HLX.out.2.2
      have LQ := hid (LB.out.ext (below_drewN (Below.refl _ _) qq))
      have HQ := hid (show (wA.drewN qq).heap[w5.heap.size]? = _ from HEB.out)
      have h5 : I64 e5 := by have a := has_iff.1 (show hasB X3 e5 = true from g5); have b := LB.out.ar.ok.len; exact ⟨by omega, by omega⟩
      have H5 := hid h5
      have HX1 := hid (HXP.out _ _ _ _ LQ.out h5 p)
      rw [gx] at HX1
      have hgi : ((s4 == t5) == (p.toList == q.toList)) = true := by
        rw [beq_iff_eq, Bool.eq_iff_iff, beq_iff_eq, beq_iff_eq, gi, ByteArray.toList_eq, ByteArray.toList_eq]
        exact ⟨fun h => by rw [h], fun h => str_ext h⟩
      have HGI := hid hgi
      have HGY := hid gy
      clear g5 gx gy gi hgi h5 hlt hk
      have r0 : (wA.drewN qq).cell? ⟨w5.heap.size, 0, none⟩ = some (.int .i64 e0) := by rw [cell_of_row (wA.drewN qq) w5.heap.size 0 _ _ (0, 0) HQ.out]; rfl
      have r1 : (wA.drewN qq).cell? ⟨w5.heap.size, 1, none⟩ = some (.int .i64 e1) := by rw [cell_of_row (wA.drewN qq) w5.heap.size 1 _ _ (0, 0) HQ.out]; rfl
      have r2 : (wA.drewN qq).cell? ⟨w5.heap.size, 2, none⟩ = some (.int .i64 e2) := by rw [cell_of_row (wA.drewN qq) w5.heap.size 2 _ _ (0, 0) HQ.out]; rfl
      have r3 : (wA.drewN qq).cell? ⟨w5.heap.size, 3, none⟩ = some (.int .i64 e3) := by rw [cell_of_row (wA.drewN qq) w5.heap.size 3 _ _ (0, 0) HQ.out]; rfl
      have r4 : (wA.drewN qq).cell? ⟨w5.heap.size, 4, none⟩ = some (.int .i64 e4) := by rw [cell_of_row (wA.drewN qq) w5.heap.size 4 _ _ (0, 0) HQ.out]; rfl
      have r5 : (wA.drewN qq).cell? ⟨w5.heap.size, 5, none⟩ = some (.int .i64 e5) := by rw [cell_of_row (wA.drewN qq) w5.heap.size 5 _ _ (0, 0) HQ.out]; rfl
      have r6 : (wA.drewN qq).cell? ⟨w5.heap.size, 6, none⟩ = some (.int .i64 e6) := by rw [cell_of_row (wA.drewN qq) w5.heap.size 6 _ _ (0, 0) HQ.out]; rfl
      have r7 : (wA.drewN qq).cell? ⟨w5.heap.size, 7, none⟩ = some (.int .i64 e7) := by rw [cell_of_row (wA.drewN qq) w5.heap.size 7 _ _ (0, 0) HQ.out]; rfl
      have r8 : (wA.drewN qq).cell? ⟨w5.heap.size, 8, none⟩ = some (.int .i64 e8) := by rw [cell_of_row (wA.drewN qq) w5.heap.size 8 _ _ (0, 0) HQ.out]; rfl
      have r9 : (wA.drewN qq).cell? ⟨w5.heap.size, 9, none⟩ = some (.int .i64 e9) := by rw [cell_of_row (wA.drewN qq) w5.heap.size 9 _ _ (0, 0) HQ.out]; rfl
      have r10 : (wA.drewN qq).cell? ⟨w5.heap.size, 10, none⟩ = some (.int .i64 e10) := by rw [cell_of_row (wA.drewN qq) w5.heap.size 10 _ _ (0, 0) HQ.out]; rfl
      unfold LrS at HX1
      go_wp2_with fail
      refine HX1.out.mono ?_
      rintro e wB ⟨ZB, rfl, lB, mB⟩
      have LC := hid lB
      have HQB := hid (Mv.cellE HQ.out mB HZ7.out)
      have HX2 := hid (HXP.out _ _ _ _ lB H5.out q)
      rw [HGY.out] at HX2
      clear lB mB r0 r1 r2 r3 r4 r5 r6 r7 r8 r9 r10 HX1
      have r0 : wB.cell? ⟨w5.heap.size, 0, none⟩ = some (.int .i64 e0) := by rw [cell_of_row wB w5.heap.size 0 _ _ (0, 0) HQB.out]; rfl
      have r1 : wB.cell? ⟨w5.heap.size, 1, none⟩ = some (.int .i64 e1) := by rw [cell_of_row wB w5.heap.size 1 _ _ (0, 0) HQB.out]; rfl
      have r2 : wB.cell? ⟨w5.heap.size, 2, none⟩ = some (.int .i64 e2) := by rw [cell_of_row wB w5.heap.size 2 _ _ (0, 0) HQB.out]; rfl
      have r3 : wB.cell? ⟨w5.heap.size, 3, none⟩ = some (.int .i64 e3) := by rw [cell_of_row wB w5.heap.size 3 _ _ (0, 0) HQB.out]; rfl
      have r4 : wB.cell? ⟨w5.heap.size, 4, none⟩ = some (.int .i64 e4) := by rw [cell_of_row wB w5.heap.size 4 _ _ (0, 0) HQB.out]; rfl
      have r5 : wB.cell? ⟨w5.heap.size, 5, none⟩ = some (.int .i64 e5) := by rw [cell_of_row wB w5.heap.size 5 _ _ (0, 0) HQB.out]; rfl
      have r6 : wB.cell? ⟨w5.heap.size, 6, none⟩ = some (.int .i64 e6) := by rw [cell_of_row wB w5.heap.size 6 _ _ (0, 0) HQB.out]; rfl
      have r7 : wB.cell? ⟨w5.heap.size, 7, none⟩ = some (.int .i64 e7) := by rw [cell_of_row wB w5.heap.size 7 _ _ (0, 0) HQB.out]; rfl
      have r8 : wB.cell? ⟨w5.heap.size, 8, none⟩ = some (.int .i64 e8) := by rw [cell_of_row wB w5.heap.size 8 _ _ (0, 0) HQB.out]; rfl
      have r9 : wB.cell? ⟨w5.heap.size, 9, none⟩ = some (.int .i64 e9) := by rw [cell_of_row wB w5.heap.size 9 _ _ (0, 0) HQB.out]; rfl
      have r10 : wB.cell? ⟨w5.heap.size, 10, none⟩ = some (.int .i64 e10) := by rw [cell_of_row wB w5.heap.size 10 _ _ (0, 0) HQB.out]; rfl
      unfold LrS at HX2
      go_wp2_with fail
      refine HX2.out.mono ?_
      rintro e wC ⟨ZC, rfl, lC, -⟩
      have HBZ := hid (HB2.out.trans (lC.bl.mono HB2.out.size))
      have hgi := HGI.out
      clear lC HX2
      go_wp2_with fail
      go_ret
      exact ⟨by first | rfl | (rw [hgi]), HBZ.out⟩
end Go.Proofs.YtkgobglmkhkbbaaGreatDoor
