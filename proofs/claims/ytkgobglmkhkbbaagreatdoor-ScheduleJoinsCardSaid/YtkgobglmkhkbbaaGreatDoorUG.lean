/- schedule's law: ScheduleJoins walked. -/
import Derived.Test.YtkgobglmkhkbbaaGreatDoorUE
namespace Go.KK
open Go.RowKit
set_option linter.unusedVariables false
set_option linter.unusedSimpArgs false
theorem nx_err {xs : List ND} {i c x : Int} {l : List Int} (h : (nxF xs i c x l).2.2 ≠ 0) : (nxF xs i c x l).2.1 = epZ := by
  unfold nxF at h ⊢
  by_cases h0 : (jnF xs i c x).2.2 = 0
  · rw [if_pos h0] at h ⊢
    by_cases h1 : (pskF (jnF xs i c x).1 l).2.2 = 0
    · rw [if_pos h1] at h ⊢
      unfold begF at h ⊢
      by_cases h2 : (bgF (pskF (jnF xs i c x).1 l).1 (jnF xs i c x).2.1 (pskF (jnF xs i c x).1 l).2.1 x).2.2 = 0
      · rw [if_pos h2] at h; exact absurd rfl h
      · rw [if_neg h2]
    · rw [if_neg h1]
  · rw [if_neg h0]
theorem nx_j {xs : List ND} {i c x : Int} {l : List Int} (h : (nxF xs i c x l).2.2 = 0) : (nxF xs i c x l).2.1.getD 0 0 = (jnF xs i c x).2.1 := by
  obtain ⟨h0, h1, h2⟩ := nx_parts h
  rw [h2] at h ⊢
  unfold begF at h ⊢
  by_cases h3 : (bgF (pskF (jnF xs i c x).1 l).1 (jnF xs i c x).2.1 (pskF (jnF xs i c x).1 l).2.1 x).2.2 = 0
  · rw [if_pos h3]; rfl
  · rw [if_neg h3] at h; exact absurd h h3
/-- The law: the epoch again, by its joiner secret and the shared ones. -/
theorem jn_law {xs : List ND} {i c x : Int} {l : List Int} (ok : Okay xs) (h : (nxF xs i c x l).2.2 = 0) : ∃ p, pskF (nxF xs i c x l).1 l = ((nxF xs i c x l).1, p, 0) ∧ begF (nxF xs i c x l).1 ((nxF xs i c x l).2.1.getD 0 0) p x = ((nxF xs i c x l).1, (nxF xs i c x l).2.1, 0) ∧ nxF (nxF xs i c x l).1 i c x l = ((nxF xs i c x l).1, (nxF xs i c x l).2.1, 0) ∧ hasB (nxF xs i c x l).1 ((nxF xs i c x l).2.1.getD 0 0) = true ∧ hasB (nxF xs i c x l).1 p = true := by
  have := nx_again (m := []) h (by rw [List.append_nil]; exact nx_ok xs i c x l ok)
  rw [List.append_nil] at this
  have hj : hasB (nxF xs i c x l).1 ((nxF xs i c x l).2.1.getD 0 0) = true := by
    obtain ⟨u, p, a, h1, h2, ⟨t, h3, h4⟩, -⟩ := (nx_at h).go
    exact h4.has
  have hp : hasB (nxF xs i c x l).1 (pskF (jnF xs i c x).1 l).2.1 = true := by
    have := (sb_psk l).has (nxF xs i c x l).1 (by show (pskF (nxF xs i c x l).1 l).2.2 = 0; rw [this.1])
    try dsimp only at this
    rename_i h0
    rw [h0.1] at this
    exact this
  rw [nx_j h] at hj ⊢
  exact ⟨_, this.1, this.2.1, this.2.2, hj, hp⟩
end Go.KK
namespace Go.Proofs.YtkgobglmkhkbbaaGreatDoor
open Go.RowKit Go.KK Go.Shelf Go.Maps

set_option maxHeartbeats 4000000 in
set_option maxRecDepth 100000 in
theorem joins_go (i c x : Int) (A : Option Addr) (n cc : Nat) (l : List Int) (w : World) (hi : I64 i) (hc : I64 c) (hx : I64 x) (hl : SlA w 1 A n cc (l.map (.int .i64))) (hli : ∀ i ∈ l, I64 i) (hT : Tb w.heap.size w) :
    Calls Tryz.prog 3 #[.int .i64 i, .int .i64 c, .int .i64 x, .slice A n cc] w fun e w' => e = .returned (.bool true) ∧ Below w.heap.size w w' := by
  have HL := hid hl; have HT := hid hT
  have HLI := hid hli
  have HLV := hid (live_any w hT)
  clear hl hT hli
  go_enter Tryz.func3, Tryz.ntmps3
  go_wp2_with fail
  refine HLV.out.mono ?_
  rintro e w1 ⟨rfl, b1⟩
  have HB1 := hid b1
  have HT1 := hid (show Tb w1.heap.size w1 from Tb.up (HT.out.on b1) b1.size)
  have HL1 := hid (HL.out.ext b1)
  clear b1 HLV HT HL
  by_cases hn : 50 < n
  · have hn1 : (50 : Int) < (n : Int) := by omega
    clear hn
    go_wp2_with fail
    go_ret
    exact ⟨rfl, HB1.out⟩
  have hn1 : ¬ (50 : Int) < (n : Int) := by omega
  have hn50 : n ≤ 50 := by omega
  clear hn
  have HBA := hid (show Below w1.heap.size w1 (w1.alloc (.cells #[.int .i64 i, .int .i64 c, .int .i64 x] 3)) from (Below.refl _ _).alloc (Nat.le_refl _) _)
  have HBY := hid (beyond_any 10 (some ⟨w1.heap.size, 0, none⟩) 3 3 [i, c, x] (w1.alloc (.cells #[.int .i64 i, .int .i64 c, .int .i64 x] 3)) (sla_row #[.int .i64 i, .int .i64 c, .int .i64 x] (by unfold maxLen; simp)) (by omega))
  go_wp2_with fail
  refine HBY.out.mono ?_
  rintro e w2 ⟨⟨b, rfl⟩, hw⟩
  subst hw
  clear HBY
  rcases b with _ | _
  rotate_left
  · go_wp2_with fail
    go_ret
    exact ⟨rfl, HB1.out.trans (HBA.out.mono HB1.out.size)⟩
  have HB2 := hid (HB1.out.trans (HBA.out.mono HB1.out.size))
  have HT2 := hid (show Tb (w1.alloc (.cells #[.int .i64 i, .int .i64 c, .int .i64 x] 3)).heap.size (w1.alloc (.cells #[.int .i64 i, .int .i64 c, .int .i64 x] 3)) from Tb.up (HT1.out.on HBA.out) HBA.out.size)
  have HL2 := hid (HL1.out.ext HBA.out)
  clear HB1 HT1 HL1 HBA
  generalize w1.alloc (.cells #[.int .i64 i, .int .i64 c, .int .i64 x] 3) = w2 at *
  go_wp2_with fail
  refine (beyond_any 10 A n cc l _ HL2.out (by omega)).mono ?_
  rintro e w3 ⟨⟨b, rfl⟩, hw⟩
  subst hw
  rcases b with _ | _
  rotate_left
  · go_wp2_with fail
    go_ret
    exact ⟨rfl, HB2.out⟩
  clear hn1
  go_wp2_with fail
  refine (two_any w3 HT2.out).mono ?_
  rintro e w4 ⟨sa, sb, Z, Z', rfl, htw⟩
  have LC := hid htw.la
  clear htw
  have HLW := hid (fun h => jn_law (xs := atoms 10) (i := i) (c := c) (x := x) (l := l) LC.out.ar.ok h)
  have HER := hid (fun h => nx_err (xs := atoms 10) (i := i) (c := c) (x := x) (l := l) h)
  have h11 := nx_elen (atoms 10) i c x l
  have HN1 := hid (nx_any LC.out HT2.out hi hc hx (SlM.of_in HL2.out LC.out) (by omega) HLI.out)
  generalize nxF (atoms 10) i c x l = r1 at *
  obtain ⟨X, el, er⟩ := r1
  try dsimp only at h11
  obtain ⟨e0, e1, e2, e3, e4, e5, e6, e7, e8, e9, e10, rfl⟩ := len11 h11
  clear h11
  unfold EpS epV at HN1
  go_wp2_with fail
  refine HN1.out.mono ?_
  rintro e w5 ⟨Z5, rfl, l5, -⟩
  have L5 := hid l5
  clear l5 LC HN1
  by_cases he : er = 0
  rotate_left
  · have hz := HER.out he
    injection hz with z0 hz; injection hz with z1 hz; injection hz with z2 hz; injection hz with z3 hz; injection hz with z4 hz; injection hz with z5 hz; injection hz with z6 hz; injection hz with z7 hz; injection hz with z8 hz; injection hz with z9 hz; injection hz with z10 hz
    subst z0; subst z1; subst z2; subst z3; subst z4; subst z5; subst z6; subst z7; subst z8; subst z9; subst z10
    have hne : (er != 0) = true := bne_iff_ne.2 he
    have HBF := hid (HB2.out.trans ((L5.out.alloc (.cells #[.int .i64 0, .int .i64 0, .int .i64 0, .int .i64 0, .int .i64 0, .int .i64 0, .int .i64 0, .int .i64 0, .int .i64 0, .int .i64 0, .int .i64 0] 30)).bl.mono HB2.out.size))
    clear he hz HLW HER
    go_wp2_with fail
    go_ret
    exact ⟨rfl, HBF.out⟩
  · subst he
    obtain ⟨pp, q1, q2, q3, q4, q5⟩ := HLW.out rfl
    try dsimp only at q1 q2 q3 q4 q5
    have he0 : I64 e0 := by have a := has_iff.1 (show hasB X e0 = true from q4); have b := L5.out.ar.ok.len; exact ⟨by omega, by omega⟩
    have hpp : I64 pp := by have a := has_iff.1 q5; have b := L5.out.ar.ok.len; exact ⟨by omega, by omega⟩
    have L6 := hid (L5.out.alloc (.cells #[.int .i64 e0, .int .i64 e1, .int .i64 e2, .int .i64 e3, .int .i64 e4, .int .i64 e5, .int .i64 e6, .int .i64 e7, .int .i64 e8, .int .i64 e9, .int .i64 e10] 30))
    have HE6 := hid (heap_alloc_new w5 (.cells #[.int .i64 e0, .int .i64 e1, .int .i64 e2, .int .i64 e3, .int .i64 e4, .int .i64 e5, .int .i64 e6, .int .i64 e7, .int .i64 e8, .int .i64 e9, .int .i64 e10] 30))
    have HZ6 := hid (show ¬ Z5 w5.heap.size from fun hz => by have := L5.out.ar.zlt _ hz; omega)
    have HPS := hid (l_psk L6.out HT2.out (SlM.of_in HL2.out L6.out) (by omega) HLI.out)
    rw [q1] at HPS
    have HQ2 := hid q2; have HQ3 := hid q3
    clear q1 q2 q3 q4 q5 HLW HER L5
    go_wp2_with fail
    refine HPS.out.mono ?_
    rintro e w7 ⟨Z7, rfl, l7, m7⟩
    have L7 := hid l7
    have HE7 := hid (Mv.cellE HE6.out m7 HZ6.out)
    have HZ7 := hid (show ¬ Z7 w5.heap.size from fun hz => (m7.n _ hz).elim HZ6.out fun h => by have := (Array.getElem?_eq_some_iff.1 HE6.out).1; omega)
    have HBG := hid (beg_any l7 HT2.out he0 hpp hx)
    rw [show begF X e0 pp x = (X, [e0, e1, e2, e3, e4, e5, e6, e7, e8, e9, e10], 0) from HQ2.out] at HBG
    unfold EpS epV at HBG
    have y0 : w7.cell? ⟨w5.heap.size, 0, none⟩ = some (.int .i64 e0) := by rw [cell_of_row w7 w5.heap.size 0 _ _ (0, 0) HE7.out]; rfl
    clear l7 m7 HPS HE6 HZ6 L6
    go_wp2_with fail
    refine HBG.out.mono ?_
    rintro e w8 ⟨Z8, rfl, l8, m8⟩
    have L8 := hid (l8.alloc (.cells #[.int .i64 e0, .int .i64 e1, .int .i64 e2, .int .i64 e3, .int .i64 e4, .int .i64 e5, .int .i64 e6, .int .i64 e7, .int .i64 e8, .int .i64 e9, .int .i64 e10] 30))
    have M8 := hid (Mv.alloc Z8 w8 (.cells #[.int .i64 e0, .int .i64 e1, .int .i64 e2, .int .i64 e3, .int .i64 e4, .int .i64 e5, .int .i64 e6, .int .i64 e7, .int .i64 e8, .int .i64 e9, .int .i64 e10] 30))
    have HE8 := hid (Mv.cellE HE7.out m8 HZ7.out)
    have HZ8 := hid (show ¬ Z8 w5.heap.size from fun hz => (m8.n _ hz).elim HZ7.out fun h => by have := (Array.getElem?_eq_some_iff.1 HE7.out).1; omega)
    have HF8 := hid (Mv.cellE HE8.out M8.out HZ8.out)
    have HG8 := hid (heap_alloc_new w8 (.cells #[.int .i64 e0, .int .i64 e1, .int .i64 e2, .int .i64 e3, .int .i64 e4, .int .i64 e5, .int .i64 e6, .int .i64 e7, .int .i64 e8, .int .i64 e9, .int .i64 e10] 30))
    have HY8 := hid (show ¬ Z8 w8.heap.size from fun hz => by have := l8.ar.zlt _ hz; omega)
    have HNB := hid (nx_any L8.out HT2.out hi hc hx (SlM.of_in HL2.out L8.out) (by omega) HLI.out)
    rw [HQ3.out] at HNB
    unfold EpS epV at HNB
    clear l8 m8 HBG HE7 HZ7 L7 HE8
    go_wp2_with fail
    refine HNB.out.mono ?_
    rintro e w9 ⟨Z9, rfl, l9, m9⟩
    have M9 := hid (Mv.alloc Z9 w9 (.cells #[.int .i64 e0, .int .i64 e1, .int .i64 e2, .int .i64 e3, .int .i64 e4, .int .i64 e5, .int .i64 e6, .int .i64 e7, .int .i64 e8, .int .i64 e9, .int .i64 e10] 30))
    have HE9 := hid (Mv.cellE HF8.out m9 HZ8.out)
    have HZ9 := hid (show ¬ Z9 w5.heap.size from fun hz => (m9.n _ hz).elim HZ8.out fun h => by have := (Array.getElem?_eq_some_iff.1 HF8.out).1; omega)
    have HG9 := hid (Mv.cellE HG8.out m9 HY8.out)
    have HY9 := hid (show ¬ Z9 w8.heap.size from fun hz => (m9.n _ hz).elim HY8.out fun h => by have := (Array.getElem?_eq_some_iff.1 HG8.out).1; omega)
    have HFA := hid (Mv.cellE HE9.out M9.out HZ9.out)
    have HGA := hid (Mv.cellE HG9.out M9.out HY9.out)
    have HBF := hid (HB2.out.trans ((l9.alloc (.cells #[.int .i64 e0, .int .i64 e1, .int .i64 e2, .int .i64 e3, .int .i64 e4, .int .i64 e5, .int .i64 e6, .int .i64 e7, .int .i64 e8, .int .i64 e9, .int .i64 e10] 30)).bl.mono HB2.out.size))
    clear l9 m9 HNB L8
    have r0 : (w9.alloc (.cells #[.int .i64 e0, .int .i64 e1, .int .i64 e2, .int .i64 e3, .int .i64 e4, .int .i64 e5, .int .i64 e6, .int .i64 e7, .int .i64 e8, .int .i64 e9, .int .i64 e10] 30)).cell? ⟨w5.heap.size, 0, none⟩ = some (.int .i64 e0) := by rw [cell_of_row (w9.alloc (.cells #[.int .i64 e0, .int .i64 e1, .int .i64 e2, .int .i64 e3, .int .i64 e4, .int .i64 e5, .int .i64 e6, .int .i64 e7, .int .i64 e8, .int .i64 e9, .int .i64 e10] 30)) w5.heap.size 0 _ _ (0, 0) HFA.out]; rfl
    have r1 : (w9.alloc (.cells #[.int .i64 e0, .int .i64 e1, .int .i64 e2, .int .i64 e3, .int .i64 e4, .int .i64 e5, .int .i64 e6, .int .i64 e7, .int .i64 e8, .int .i64 e9, .int .i64 e10] 30)).cell? ⟨w5.heap.size, 1, none⟩ = some (.int .i64 e1) := by rw [cell_of_row (w9.alloc (.cells #[.int .i64 e0, .int .i64 e1, .int .i64 e2, .int .i64 e3, .int .i64 e4, .int .i64 e5, .int .i64 e6, .int .i64 e7, .int .i64 e8, .int .i64 e9, .int .i64 e10] 30)) w5.heap.size 1 _ _ (0, 0) HFA.out]; rfl
    have r2 : (w9.alloc (.cells #[.int .i64 e0, .int .i64 e1, .int .i64 e2, .int .i64 e3, .int .i64 e4, .int .i64 e5, .int .i64 e6, .int .i64 e7, .int .i64 e8, .int .i64 e9, .int .i64 e10] 30)).cell? ⟨w5.heap.size, 2, none⟩ = some (.int .i64 e2) := by rw [cell_of_row (w9.alloc (.cells #[.int .i64 e0, .int .i64 e1, .int .i64 e2, .int .i64 e3, .int .i64 e4, .int .i64 e5, .int .i64 e6, .int .i64 e7, .int .i64 e8, .int .i64 e9, .int .i64 e10] 30)) w5.heap.size 2 _ _ (0, 0) HFA.out]; rfl
    have r3 : (w9.alloc (.cells #[.int .i64 e0, .int .i64 e1, .int .i64 e2, .int .i64 e3, .int .i64 e4, .int .i64 e5, .int .i64 e6, .int .i64 e7, .int .i64 e8, .int .i64 e9, .int .i64 e10] 30)).cell? ⟨w5.heap.size, 3, none⟩ = some (.int .i64 e3) := by rw [cell_of_row (w9.alloc (.cells #[.int .i64 e0, .int .i64 e1, .int .i64 e2, .int .i64 e3, .int .i64 e4, .int .i64 e5, .int .i64 e6, .int .i64 e7, .int .i64 e8, .int .i64 e9, .int .i64 e10] 30)) w5.heap.size 3 _ _ (0, 0) HFA.out]; rfl
    have r4 : (w9.alloc (.cells #[.int .i64 e0, .int .i64 e1, .int .i64 e2, .int .i64 e3, .int .i64 e4, .int .i64 e5, .int .i64 e6, .int .i64 e7, .int .i64 e8, .int .i64 e9, .int .i64 e10] 30)).cell? ⟨w5.heap.size, 4, none⟩ = some (.int .i64 e4) := by rw [cell_of_row (w9.alloc (.cells #[.int .i64 e0, .int .i64 e1, .int .i64 e2, .int .i64 e3, .int .i64 e4, .int .i64 e5, .int .i64 e6, .int .i64 e7, .int .i64 e8, .int .i64 e9, .int .i64 e10] 30)) w5.heap.size 4 _ _ (0, 0) HFA.out]; rfl
    have r5 : (w9.alloc (.cells #[.int .i64 e0, .int .i64 e1, .int .i64 e2, .int .i64 e3, .int .i64 e4, .int .i64 e5, .int .i64 e6, .int .i64 e7, .int .i64 e8, .int .i64 e9, .int .i64 e10] 30)).cell? ⟨w5.heap.size, 5, none⟩ = some (.int .i64 e5) := by rw [cell_of_row (w9.alloc (.cells #[.int .i64 e0, .int .i64 e1, .int .i64 e2, .int .i64 e3, .int .i64 e4, .int .i64 e5, .int .i64 e6, .int .i64 e7, .int .i64 e8, .int .i64 e9, .int .i64 e10] 30)) w5.heap.size 5 _ _ (0, 0) HFA.out]; rfl
    have r6 : (w9.alloc (.cells #[.int .i64 e0, .int .i64 e1, .int .i64 e2, .int .i64 e3, .int .i64 e4, .int .i64 e5, .int .i64 e6, .int .i64 e7, .int .i64 e8, .int .i64 e9, .int .i64 e10] 30)).cell? ⟨w5.heap.size, 6, none⟩ = some (.int .i64 e6) := by rw [cell_of_row (w9.alloc (.cells #[.int .i64 e0, .int .i64 e1, .int .i64 e2, .int .i64 e3, .int .i64 e4, .int .i64 e5, .int .i64 e6, .int .i64 e7, .int .i64 e8, .int .i64 e9, .int .i64 e10] 30)) w5.heap.size 6 _ _ (0, 0) HFA.out]; rfl
    have r7 : (w9.alloc (.cells #[.int .i64 e0, .int .i64 e1, .int .i64 e2, .int .i64 e3, .int .i64 e4, .int .i64 e5, .int .i64 e6, .int .i64 e7, .int .i64 e8, .int .i64 e9, .int .i64 e10] 30)).cell? ⟨w5.heap.size, 7, none⟩ = some (.int .i64 e7) := by rw [cell_of_row (w9.alloc (.cells #[.int .i64 e0, .int .i64 e1, .int .i64 e2, .int .i64 e3, .int .i64 e4, .int .i64 e5, .int .i64 e6, .int .i64 e7, .int .i64 e8, .int .i64 e9, .int .i64 e10] 30)) w5.heap.size 7 _ _ (0, 0) HFA.out]; rfl
    have r8 : (w9.alloc (.cells #[.int .i64 e0, .int .i64 e1, .int .i64 e2, .int .i64 e3, .int .i64 e4, .int .i64 e5, .int .i64 e6, .int .i64 e7, .int .i64 e8, .int .i64 e9, .int .i64 e10] 30)).cell? ⟨w5.heap.size, 8, none⟩ = some (.int .i64 e8) := by rw [cell_of_row (w9.alloc (.cells #[.int .i64 e0, .int .i64 e1, .int .i64 e2, .int .i64 e3, .int .i64 e4, .int .i64 e5, .int .i64 e6, .int .i64 e7, .int .i64 e8, .int .i64 e9, .int .i64 e10] 30)) w5.heap.size 8 _ _ (0, 0) HFA.out]; rfl
    have r9 : (w9.alloc (.cells #[.int .i64 e0, .int .i64 e1, .int .i64 e2, .int .i64 e3, .int .i64 e4, .int .i64 e5, .int .i64 e6, .int .i64 e7, .int .i64 e8, .int .i64 e9, .int .i64 e10] 30)).cell? ⟨w5.heap.size, 9, none⟩ = some (.int .i64 e9) := by rw [cell_of_row (w9.alloc (.cells #[.int .i64 e0, .int .i64 e1, .int .i64 e2, .int .i64 e3, .int .i64 e4, .int .i64 e5, .int .i64 e6, .int .i64 e7, .int .i64 e8, .int .i64 e9, .int .i64 e10] 30)) w5.heap.size 9 _ _ (0, 0) HFA.out]; rfl
    have r10 : (w9.alloc (.cells #[.int .i64 e0, .int .i64 e1, .int .i64 e2, .int .i64 e3, .int .i64 e4, .int .i64 e5, .int .i64 e6, .int .i64 e7, .int .i64 e8, .int .i64 e9, .int .i64 e10] 30)).cell? ⟨w5.heap.size, 10, none⟩ = some (.int .i64 e10) := by rw [cell_of_row (w9.alloc (.cells #[.int .i64 e0, .int .i64 e1, .int .i64 e2, .int .i64 e3, .int .i64 e4, .int .i64 e5, .int .i64 e6, .int .i64 e7, .int .i64 e8, .int .i64 e9, .int .i64 e10] 30)) w5.heap.size 10 _ _ (0, 0) HFA.out]; rfl
    have t0 : (w9.alloc (.cells #[.int .i64 e0, .int .i64 e1, .int .i64 e2, .int .i64 e3, .int .i64 e4, .int .i64 e5, .int .i64 e6, .int .i64 e7, .int .i64 e8, .int .i64 e9, .int .i64 e10] 30)).cell? ⟨w8.heap.size, 0, none⟩ = some (.int .i64 e0) := by rw [cell_of_row (w9.alloc (.cells #[.int .i64 e0, .int .i64 e1, .int .i64 e2, .int .i64 e3, .int .i64 e4, .int .i64 e5, .int .i64 e6, .int .i64 e7, .int .i64 e8, .int .i64 e9, .int .i64 e10] 30)) w8.heap.size 0 _ _ (0, 0) HGA.out]; rfl
    have t1 : (w9.alloc (.cells #[.int .i64 e0, .int .i64 e1, .int .i64 e2, .int .i64 e3, .int .i64 e4, .int .i64 e5, .int .i64 e6, .int .i64 e7, .int .i64 e8, .int .i64 e9, .int .i64 e10] 30)).cell? ⟨w8.heap.size, 1, none⟩ = some (.int .i64 e1) := by rw [cell_of_row (w9.alloc (.cells #[.int .i64 e0, .int .i64 e1, .int .i64 e2, .int .i64 e3, .int .i64 e4, .int .i64 e5, .int .i64 e6, .int .i64 e7, .int .i64 e8, .int .i64 e9, .int .i64 e10] 30)) w8.heap.size 1 _ _ (0, 0) HGA.out]; rfl
    have t2 : (w9.alloc (.cells #[.int .i64 e0, .int .i64 e1, .int .i64 e2, .int .i64 e3, .int .i64 e4, .int .i64 e5, .int .i64 e6, .int .i64 e7, .int .i64 e8, .int .i64 e9, .int .i64 e10] 30)).cell? ⟨w8.heap.size, 2, none⟩ = some (.int .i64 e2) := by rw [cell_of_row (w9.alloc (.cells #[.int .i64 e0, .int .i64 e1, .int .i64 e2, .int .i64 e3, .int .i64 e4, .int .i64 e5, .int .i64 e6, .int .i64 e7, .int .i64 e8, .int .i64 e9, .int .i64 e10] 30)) w8.heap.size 2 _ _ (0, 0) HGA.out]; rfl
    have t3 : (w9.alloc (.cells #[.int .i64 e0, .int .i64 e1, .int .i64 e2, .int .i64 e3, .int .i64 e4, .int .i64 e5, .int .i64 e6, .int .i64 e7, .int .i64 e8, .int .i64 e9, .int .i64 e10] 30)).cell? ⟨w8.heap.size, 3, none⟩ = some (.int .i64 e3) := by rw [cell_of_row (w9.alloc (.cells #[.int .i64 e0, .int .i64 e1, .int .i64 e2, .int .i64 e3, .int .i64 e4, .int .i64 e5, .int .i64 e6, .int .i64 e7, .int .i64 e8, .int .i64 e9, .int .i64 e10] 30)) w8.heap.size 3 _ _ (0, 0) HGA.out]; rfl
    have t4 : (w9.alloc (.cells #[.int .i64 e0, .int .i64 e1, .int .i64 e2, .int .i64 e3, .int .i64 e4, .int .i64 e5, .int .i64 e6, .int .i64 e7, .int .i64 e8, .int .i64 e9, .int .i64 e10] 30)).cell? ⟨w8.heap.size, 4, none⟩ = some (.int .i64 e4) := by rw [cell_of_row (w9.alloc (.cells #[.int .i64 e0, .int .i64 e1, .int .i64 e2, .int .i64 e3, .int .i64 e4, .int .i64 e5, .int .i64 e6, .int .i64 e7, .int .i64 e8, .int .i64 e9, .int .i64 e10] 30)) w8.heap.size 4 _ _ (0, 0) HGA.out]; rfl
    have t5 : (w9.alloc (.cells #[.int .i64 e0, .int .i64 e1, .int .i64 e2, .int .i64 e3, .int .i64 e4, .int .i64 e5, .int .i64 e6, .int .i64 e7, .int .i64 e8, .int .i64 e9, .int .i64 e10] 30)).cell? ⟨w8.heap.size, 5, none⟩ = some (.int .i64 e5) := by rw [cell_of_row (w9.alloc (.cells #[.int .i64 e0, .int .i64 e1, .int .i64 e2, .int .i64 e3, .int .i64 e4, .int .i64 e5, .int .i64 e6, .int .i64 e7, .int .i64 e8, .int .i64 e9, .int .i64 e10] 30)) w8.heap.size 5 _ _ (0, 0) HGA.out]; rfl
    have t6 : (w9.alloc (.cells #[.int .i64 e0, .int .i64 e1, .int .i64 e2, .int .i64 e3, .int .i64 e4, .int .i64 e5, .int .i64 e6, .int .i64 e7, .int .i64 e8, .int .i64 e9, .int .i64 e10] 30)).cell? ⟨w8.heap.size, 6, none⟩ = some (.int .i64 e6) := by rw [cell_of_row (w9.alloc (.cells #[.int .i64 e0, .int .i64 e1, .int .i64 e2, .int .i64 e3, .int .i64 e4, .int .i64 e5, .int .i64 e6, .int .i64 e7, .int .i64 e8, .int .i64 e9, .int .i64 e10] 30)) w8.heap.size 6 _ _ (0, 0) HGA.out]; rfl
    have t7 : (w9.alloc (.cells #[.int .i64 e0, .int .i64 e1, .int .i64 e2, .int .i64 e3, .int .i64 e4, .int .i64 e5, .int .i64 e6, .int .i64 e7, .int .i64 e8, .int .i64 e9, .int .i64 e10] 30)).cell? ⟨w8.heap.size, 7, none⟩ = some (.int .i64 e7) := by rw [cell_of_row (w9.alloc (.cells #[.int .i64 e0, .int .i64 e1, .int .i64 e2, .int .i64 e3, .int .i64 e4, .int .i64 e5, .int .i64 e6, .int .i64 e7, .int .i64 e8, .int .i64 e9, .int .i64 e10] 30)) w8.heap.size 7 _ _ (0, 0) HGA.out]; rfl
    have t8 : (w9.alloc (.cells #[.int .i64 e0, .int .i64 e1, .int .i64 e2, .int .i64 e3, .int .i64 e4, .int .i64 e5, .int .i64 e6, .int .i64 e7, .int .i64 e8, .int .i64 e9, .int .i64 e10] 30)).cell? ⟨w8.heap.size, 8, none⟩ = some (.int .i64 e8) := by rw [cell_of_row (w9.alloc (.cells #[.int .i64 e0, .int .i64 e1, .int .i64 e2, .int .i64 e3, .int .i64 e4, .int .i64 e5, .int .i64 e6, .int .i64 e7, .int .i64 e8, .int .i64 e9, .int .i64 e10] 30)) w8.heap.size 8 _ _ (0, 0) HGA.out]; rfl
    have t9 : (w9.alloc (.cells #[.int .i64 e0, .int .i64 e1, .int .i64 e2, .int .i64 e3, .int .i64 e4, .int .i64 e5, .int .i64 e6, .int .i64 e7, .int .i64 e8, .int .i64 e9, .int .i64 e10] 30)).cell? ⟨w8.heap.size, 9, none⟩ = some (.int .i64 e9) := by rw [cell_of_row (w9.alloc (.cells #[.int .i64 e0, .int .i64 e1, .int .i64 e2, .int .i64 e3, .int .i64 e4, .int .i64 e5, .int .i64 e6, .int .i64 e7, .int .i64 e8, .int .i64 e9, .int .i64 e10] 30)) w8.heap.size 9 _ _ (0, 0) HGA.out]; rfl
    have t10 : (w9.alloc (.cells #[.int .i64 e0, .int .i64 e1, .int .i64 e2, .int .i64 e3, .int .i64 e4, .int .i64 e5, .int .i64 e6, .int .i64 e7, .int .i64 e8, .int .i64 e9, .int .i64 e10] 30)).cell? ⟨w8.heap.size, 10, none⟩ = some (.int .i64 e10) := by rw [cell_of_row (w9.alloc (.cells #[.int .i64 e0, .int .i64 e1, .int .i64 e2, .int .i64 e3, .int .i64 e4, .int .i64 e5, .int .i64 e6, .int .i64 e7, .int .i64 e8, .int .i64 e9, .int .i64 e10] 30)) w8.heap.size 10 _ _ (0, 0) HGA.out]; rfl
    go_wp2_with fail
    go_ret
    exact ⟨rfl, HBF.out⟩
end Go.Proofs.YtkgobglmkhkbbaaGreatDoor
