/- whether two trees are the same: both ways. -/
import Derived.Test.YtimdohjlhbpmhaaDoorQ1
namespace Go.Proofs.YtimdohjlhbpmhaaDoor
open Go.RowKit Go.KK Go.Shelf
set_option linter.unusedVariables false
set_option linter.unusedSimpArgs false

/-- Two trees are the same. -/
def sameT : List TN → List TN → Bool
  | [], [] => true
  | x :: xs, y :: ys => sameN x y && sameT xs ys
  | _, _ => false
theorem sameT_len : ∀ (xs ys : List TN), xs.length ≠ ys.length → sameT xs ys = false
  | [], [], h => absurd rfl h
  | [], _ :: _, _ => rfl
  | _ :: _, [], _ => rfl
  | x :: xs, y :: ys, h => by rw [sameT, sameT_len xs ys (fun e => h (by simp [e])), Bool.and_false]
theorem sameT_drop {xs ys : List TN} {j : Nat} {x y : TN} (h1 : xs[j]? = some x) (h2 : ys[j]? = some y) : sameT (xs.drop j) (ys.drop j) = (sameN x y && sameT (xs.drop (j + 1)) (ys.drop (j + 1))) := by
  rw [drop_get h1, drop_get h2, sameT]
theorem sameT_end {xs ys : List TN} {j : Nat} (h1 : xs.length ≤ j) (h2 : ys.length ≤ j) : sameT (xs.drop j) (ys.drop j) = true := by
  rw [List.drop_of_length_le h1, List.drop_of_length_le h2]; rfl
theorem below_new2 {B : Nat} {a wr w2 : World} {o o2 : Obj} (h : Below B a wr) (hB : B ≤ wr.heap.size) (hb : Below ((wr.alloc o).alloc o2).heap.size ((wr.alloc o).alloc o2) w2) : Below B a w2 :=
  ((h.alloc hB o).alloc (by simp; omega) o2).trans (hb.mono (by simp; omega))
set_option maxHeartbeats 1000000 in
theorem rsame_any (A : Option Addr) (n c : Nat) (xs : List TN) (B : Option Addr) (m d : Nat) (ys : List TN) (w : World) (h : Tr w A n c xs) (h' : Tr w B m d ys) (hn : n ≤ 600) (hm : m ≤ 600) (hu : Shorts xs) (hu' : Shorts ys) :
    Calls Tryd.prog 13 #[.slice A n c, .slice B m d] w fun e w' => e = .returned (.bool (sameT xs ys)) ∧ Below w.heap.size w w' := by
  have HL := hid h.len; have HL' := hid h'.len; have H := hid h; have H' := hid h'; have HU := hid hu; have HU' := hid hu'
  clear h h' hu hu'
  by_cases hnm : n = m
  · subst hnm
    go_enter Tryd.func13, Tryd.ntmps13
    go_wp2
    go_loopw [13, 4] (fun i _ wr => ∃ j : Nat, i = .int .i64 j ∧ j ≤ n ∧ Hid (sameT xs ys = sameT (xs.drop j) (ys.drop j)) ∧ Below w.heap.size w wr) (fun i _ _ => n - (intOf i).toNat)
    case atStart => exact ⟨0, rfl, by omega, hid rfl, Below.refl _ _⟩
    case round =>
      obtain ⟨j, hi, hj, HJ, hbr⟩ := hrel
      subst hi
      have HB := hid hbr; clear hbr
      by_cases hlt : j < n
      · obtain ⟨b, o, x, A2, c2, rfl, hx, c0, c1, c2', c3, c4, c5, hsx⟩ := (H.out.ext HB.out).at hlt
        obtain ⟨b', o', y, B2, d2, rfl, hy, d0, d1, d2', d3, d4, d5, hsy⟩ := (H'.out.ext HB.out).at hlt
        have hj0 : (0 : Int) ≤ (j : Int) := by omega
        have hj1 : (j : Int) < (n : Int) := by omega
        have hux := HU.out _ _ hx
        have huy := HU'.out _ _ hy
        have HD := hid (sameT_drop hx hy)
        clear hx hy
        have HSX := hid hsx; have HSY := hid hsy
        clear hsx hsy
        have hlb : b < wr.heap.size := block_lt_of_cell c0
        have hlb2 : b' < wr.heap.size := block_lt_of_cell d0
        have hbz := HB.out.size
        rcases hs : sameN x y with _ | _
        · have HF := hid (show sameT xs ys = false by rw [HJ.out, HD.out, hs, Bool.false_and])
          go_wp2
          go_region_held3 (fun w' => w'.cell? ⟨b, o + j * 6, none⟩ = some (.int .i64 x.k) ∧ w'.cell? ⟨b, o + j * 6 + 1, none⟩ = some (.int .i64 x.i) ∧ w'.cell? ⟨b, o + j * 6 + 2, none⟩ = some (.int .i64 x.e) ∧ w'.cell? ⟨b, o + j * 6 + 3, none⟩ = some (.int .i64 x.s) ∧ w'.cell? ⟨b, o + j * 6 + 4, none⟩ = some (.int .i64 x.h) ∧ w'.cell? ⟨b, o + j * 6 + 5, none⟩ = some (.slice A2 x.u.length c2) ∧ w'.cell? ⟨b', o' + j * 6, none⟩ = some (.int .i64 y.k) ∧ w'.cell? ⟨b', o' + j * 6 + 1, none⟩ = some (.int .i64 y.i) ∧ w'.cell? ⟨b', o' + j * 6 + 2, none⟩ = some (.int .i64 y.e) ∧ w'.cell? ⟨b', o' + j * 6 + 3, none⟩ = some (.int .i64 y.s) ∧ w'.cell? ⟨b', o' + j * 6 + 4, none⟩ = some (.int .i64 y.h) ∧ w'.cell? ⟨b', o' + j * 6 + 5, none⟩ = some (.slice B2 y.u.length d2)) (first | exact ⟨c0, c1, c2', c3, c4, c5, d0, d1, d2', d3, d4, d5⟩ | exact ⟨r0, r1, r2, r3, r4, r5, r6, r7, r8, r9, r10, r11⟩ | go_keep) (first
            | (go_at_call 25; refine (samenode_any x y A2 c2 B2 d2 _ HSX.out.drew HSY.out.drew hux huy).mono ?_; rintro e1 w1 ⟨rfl, hb1⟩; rw [hs]; have HB1 := hid hb1; have r0 := (hb1.cell (p := ⟨b, o + j * 6, none⟩) hlb).trans c0; have r1 := (hb1.cell (p := ⟨b, o + j * 6 + 1, none⟩) hlb).trans c1; have r2 := (hb1.cell (p := ⟨b, o + j * 6 + 2, none⟩) hlb).trans c2'; have r3 := (hb1.cell (p := ⟨b, o + j * 6 + 3, none⟩) hlb).trans c3; have r4 := (hb1.cell (p := ⟨b, o + j * 6 + 4, none⟩) hlb).trans c4; have r5 := (hb1.cell (p := ⟨b, o + j * 6 + 5, none⟩) hlb).trans c5; have r6 := (hb1.cell (p := ⟨b', o' + j * 6, none⟩) hlb2).trans d0; have r7 := (hb1.cell (p := ⟨b', o' + j * 6 + 1, none⟩) hlb2).trans d1; have r8 := (hb1.cell (p := ⟨b', o' + j * 6 + 2, none⟩) hlb2).trans d2'; have r9 := (hb1.cell (p := ⟨b', o' + j * 6 + 3, none⟩) hlb2).trans d3; have r10 := (hb1.cell (p := ⟨b', o' + j * 6 + 4, none⟩) hlb2).trans d4; have r11 := (hb1.cell (p := ⟨b', o' + j * 6 + 5, none⟩) hlb2).trans d5; clear hb1))
          go_wp2
          go_ret
          exact ⟨by rw [HF.out]; rfl, (below_drew HB.out).trans (HB1.out.mono hbz)⟩
        · have HF := hid (show sameT xs ys = sameT (xs.drop (j + 1)) (ys.drop (j + 1)) by rw [HJ.out, HD.out, hs, Bool.true_and])
          go_wp2
          go_region_held3 (fun w' => w'.cell? ⟨b, o + j * 6, none⟩ = some (.int .i64 x.k) ∧ w'.cell? ⟨b, o + j * 6 + 1, none⟩ = some (.int .i64 x.i) ∧ w'.cell? ⟨b, o + j * 6 + 2, none⟩ = some (.int .i64 x.e) ∧ w'.cell? ⟨b, o + j * 6 + 3, none⟩ = some (.int .i64 x.s) ∧ w'.cell? ⟨b, o + j * 6 + 4, none⟩ = some (.int .i64 x.h) ∧ w'.cell? ⟨b, o + j * 6 + 5, none⟩ = some (.slice A2 x.u.length c2) ∧ w'.cell? ⟨b', o' + j * 6, none⟩ = some (.int .i64 y.k) ∧ w'.cell? ⟨b', o' + j * 6 + 1, none⟩ = some (.int .i64 y.i) ∧ w'.cell? ⟨b', o' + j * 6 + 2, none⟩ = some (.int .i64 y.e) ∧ w'.cell? ⟨b', o' + j * 6 + 3, none⟩ = some (.int .i64 y.s) ∧ w'.cell? ⟨b', o' + j * 6 + 4, none⟩ = some (.int .i64 y.h) ∧ w'.cell? ⟨b', o' + j * 6 + 5, none⟩ = some (.slice B2 y.u.length d2)) (first | exact ⟨c0, c1, c2', c3, c4, c5, d0, d1, d2', d3, d4, d5⟩ | exact ⟨r0, r1, r2, r3, r4, r5, r6, r7, r8, r9, r10, r11⟩ | go_keep) (first
            | (go_at_call 25; refine (samenode_any x y A2 c2 B2 d2 _ HSX.out.drew HSY.out.drew hux huy).mono ?_; rintro e1 w1 ⟨rfl, hb1⟩; rw [hs]; have HB1 := hid hb1; have r0 := (hb1.cell (p := ⟨b, o + j * 6, none⟩) hlb).trans c0; have r1 := (hb1.cell (p := ⟨b, o + j * 6 + 1, none⟩) hlb).trans c1; have r2 := (hb1.cell (p := ⟨b, o + j * 6 + 2, none⟩) hlb).trans c2'; have r3 := (hb1.cell (p := ⟨b, o + j * 6 + 3, none⟩) hlb).trans c3; have r4 := (hb1.cell (p := ⟨b, o + j * 6 + 4, none⟩) hlb).trans c4; have r5 := (hb1.cell (p := ⟨b, o + j * 6 + 5, none⟩) hlb).trans c5; have r6 := (hb1.cell (p := ⟨b', o' + j * 6, none⟩) hlb2).trans d0; have r7 := (hb1.cell (p := ⟨b', o' + j * 6 + 1, none⟩) hlb2).trans d1; have r8 := (hb1.cell (p := ⟨b', o' + j * 6 + 2, none⟩) hlb2).trans d2'; have r9 := (hb1.cell (p := ⟨b', o' + j * 6 + 3, none⟩) hlb2).trans d3; have r10 := (hb1.cell (p := ⟨b', o' + j * 6 + 4, none⟩) hlb2).trans d4; have r11 := (hb1.cell (p := ⟨b', o' + j * 6 + 5, none⟩) hlb2).trans d5; clear hb1))
          go_wp2
          go_roundw
          case rel => exact ⟨j + 1, by go_num, by omega, HF, (below_drew HB.out).trans (HB1.out.mono hbz)⟩
          case measure => simp [intOf]; omega
      · have HF := hid (show sameT xs ys = true by rw [HJ.out, sameT_end (by have := HL.out; omega) (by have := HL'.out; omega)])
        go_wp2
        go_ret
        exact ⟨by rw [HF.out]; rfl, HB.out⟩
  · have HF := hid (sameT_len xs ys (by rw [HL.out, HL'.out]; exact hnm))
    have hnm' : ((n : Int) != (m : Int)) = true := bne_iff_ne.2 (by omega)
    clear hnm
    go_enter Tryd.func13, Tryd.ntmps13
    go_wp2
    go_ret
    exact ⟨by rw [HF.out]; rfl, Below.refl _ _⟩
set_option maxHeartbeats 1000000 in
theorem eqfunc_any (A : Option Addr) (n c : Nat) (xs : List TN) (B : Option Addr) (m d : Nat) (ys : List TN) (w : World) (h : Tr w A n c xs) (h' : Tr w B m d ys) (hn : n ≤ 600) (hm : m ≤ 600) (hu : Shorts xs) (hu' : Shorts ys) :
    Calls Tryd.prog 54 #[.slice A n c, .slice B m d, .func (.func 55) #[] #[]] w fun e w' => e = .returned (.bool (sameT xs ys)) ∧ Below w.heap.size w w' := by
  have HL := hid h.len; have HL' := hid h'.len; have H := hid h; have H' := hid h'; have HU := hid hu; have HU' := hid hu'
  clear h h' hu hu'
  by_cases hnm : n = m
  · subst hnm
    go_enter Tryd.func54, Tryd.ntmps54
    go_wp2
    go_loopw [17, 6] (fun i _ wr => ∃ j : Nat, i = .int .i64 j ∧ j ≤ n ∧ Hid (sameT xs ys = sameT (xs.drop j) (ys.drop j)) ∧ Below w.heap.size w wr) (fun i _ _ => n - (intOf i).toNat)
    case atStart => exact ⟨0, rfl, by omega, hid rfl, Below.refl _ _⟩
    case round =>
      obtain ⟨j, hi, hj, HJ, hbr⟩ := hrel
      subst hi
      have HB := hid hbr; clear hbr
      by_cases hlt : j < n
      · obtain ⟨b, o, x, A2, c2, rfl, hx, c0, c1, c2', c3, c4, c5, hsx⟩ := (H.out.ext HB.out).at hlt
        obtain ⟨b', o', y, B2, d2, rfl, hy, d0, d1, d2', d3, d4, d5, hsy⟩ := (H'.out.ext HB.out).at hlt
        have hj0 : (0 : Int) ≤ (j : Int) := by omega
        have hj1 : (j : Int) < (n : Int) := by omega
        have hux := HU.out _ _ hx
        have huy := HU'.out _ _ hy
        have HD := hid (sameT_drop hx hy)
        clear hx hy
        have hbz := HB.out.size
        have HSX := hid hsx; have HSY := hid hsy
        have hb2 : b' < wr.heap.size := block_lt_of_cell d0
        clear hsx hsy
        rcases hs : sameN x y with _ | _
        · have HF := hid (show sameT xs ys = false by rw [HJ.out, HD.out, hs, Bool.false_and])
          go_wp2_with (go_at_call 55; refine (same1_any x y A2 c2 B2 d2 _ (HSX.out.ext (((Below.refl _ _).alloc (Nat.le_refl _) _).alloc (by simp) _)) (HSY.out.ext (((Below.refl _ _).alloc (Nat.le_refl _) _).alloc (by simp) _)) hux huy).mono ?_; rintro e1 w1 ⟨rfl, hb1⟩; rw [hs]; have HB1 := hid hb1; clear hb1)
          go_ret
          exact ⟨by rw [HF.out]; rfl, below_new2 HB.out hbz HB1.out⟩
        · have HF := hid (show sameT xs ys = sameT (xs.drop (j + 1)) (ys.drop (j + 1)) by rw [HJ.out, HD.out, hs, Bool.true_and])
          go_wp2_with (go_at_call 55; refine (same1_any x y A2 c2 B2 d2 _ (HSX.out.ext (((Below.refl _ _).alloc (Nat.le_refl _) _).alloc (by simp) _)) (HSY.out.ext (((Below.refl _ _).alloc (Nat.le_refl _) _).alloc (by simp) _)) hux huy).mono ?_; rintro e1 w1 ⟨rfl, hb1⟩; rw [hs]; have HB1 := hid hb1; clear hb1)
          go_roundw
          case rel => exact ⟨j + 1, by go_num, by omega, HF, below_new2 HB.out hbz HB1.out⟩
          case measure => simp [intOf]; omega
      · have HF := hid (show sameT xs ys = true by rw [HJ.out, sameT_end (by have := HL.out; omega) (by have := HL'.out; omega)])
        go_wp2
        go_ret
        exact ⟨by rw [HF.out]; rfl, HB.out⟩
  · have HF := hid (sameT_len xs ys (by rw [HL.out, HL'.out]; exact hnm))
    have hnm' : ((n : Int) != (m : Int)) = true := bne_iff_ne.2 (by omega)
    clear hnm
    go_enter Tryd.func54, Tryd.ntmps54
    go_wp2
    go_ret
    exact ⟨by rw [HF.out]; rfl, Below.refl _ _⟩
theorem same_any (A : Option Addr) (n c : Nat) (xs : List TN) (B : Option Addr) (m d : Nat) (ys : List TN) (w : World) (h : Tr w A n c xs) (h' : Tr w B m d ys) (hn : n ≤ 600) (hm : m ≤ 600) (hu : Shorts xs) (hu' : Shorts ys) :
    Calls Tryd.prog 30 #[.slice A n c, .slice B m d] w fun e w' => e = .returned (.bool (sameT xs ys)) ∧ Below w.heap.size w w' := by
  have HC := hid (eqfunc_any A n c xs B m d ys w h h' hn hm hu hu')
  clear h h' hu hu'
  go_enter Tryd.func30, Tryd.ntmps30
  go_wp2_with (go_at_call 54; refine HC.out.mono ?_; rintro e1 w1 ⟨rfl, hb1⟩)
  go_ret
  exact ⟨rfl, hb1⟩
end Go.Proofs.YtimdohjlhbpmhaaDoor
