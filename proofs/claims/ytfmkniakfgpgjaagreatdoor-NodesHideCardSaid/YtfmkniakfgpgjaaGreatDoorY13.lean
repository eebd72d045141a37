import Derived.Test.YtfmkniakfgpgjaaGreatDoorY08
import Derived.Test.YtfmkniakfgpgjaaGreatDoorY12
import Derived.Test.YtfmkniakfgpgjaaGreatDoorY06
import Derived.Test.YtfmkniakfgpgjaaGreatDoorY05
import Derived.Test.YtfmkniakfgpgjaaGreatDoorY07
/- the reference of layer 3: In, SameInts. -/
namespace Go.Proofs.YtfmkniakfgpgjaaGreatDoor
open Go.RowKit Go.KK Go.Shelf
set_option linter.unusedVariables false
set_option linter.unusedSimpArgs false

/-- Two nodes are the same. -/
def sameN (a b : TN) : Bool := a.k == b.k && a.i == b.i && a.e == b.e && a.s == b.s && a.h == b.h && a.u == b.u
theorem samenode_any (a b : TN) (A : Option Addr) (c : Nat) (B : Option Addr) (d : Nat) (w : World) (h : SlA w 1 A a.u.length c (a.u.map (.int .i64))) (h' : SlA w 1 B b.u.length d (b.u.map (.int .i64))) (hn : a.u.length ≤ 2147483648) (hm : b.u.length ≤ 2147483648) :
    Calls Tryz.prog 28 #[.agg #[.int .i64 a.k, .int .i64 a.i, .int .i64 a.e, .int .i64 a.s, .int .i64 a.h, .slice A a.u.length c], .agg #[.int .i64 b.k, .int .i64 b.i, .int .i64 b.e, .int .i64 b.s, .int .i64 b.h, .slice B b.u.length d]] w fun r w' => r = .returned (.bool (sameN a b)) ∧ Below w.heap.size w w' := by
  have HS := hid h; have HS' := hid h'
  clear h h'
  rcases h0 : a.k == b.k with _ | _
  · have HN := hid (show sameN a b = false by unfold sameN; rw [h0]; simp)
    go_enter Tryz.func28, Tryz.ntmps28
    go_wp2
    go_ret
    exact ⟨by rw [HN.out]; rfl, ((Below.refl _ _).alloc (Nat.le_refl _) _).alloc (by simp) _⟩
  · skip
    rcases h1 : a.i == b.i with _ | _
    · have HN := hid (show sameN a b = false by unfold sameN; rw [h0, h1]; simp)
      go_enter Tryz.func28, Tryz.ntmps28
      go_wp2
      go_ret
      exact ⟨by rw [HN.out]; rfl, ((Below.refl _ _).alloc (Nat.le_refl _) _).alloc (by simp) _⟩
    · skip
      rcases h2 : a.e == b.e with _ | _
      · have HN := hid (show sameN a b = false by unfold sameN; rw [h0, h1, h2]; simp)
        go_enter Tryz.func28, Tryz.ntmps28
        go_wp2
        go_ret
        exact ⟨by rw [HN.out]; rfl, ((Below.refl _ _).alloc (Nat.le_refl _) _).alloc (by simp) _⟩
      · skip
        rcases h3 : a.s == b.s with _ | _
        · have HN := hid (show sameN a b = false by unfold sameN; rw [h0, h1, h2, h3]; simp)
          go_enter Tryz.func28, Tryz.ntmps28
          go_wp2
          go_ret
          exact ⟨by rw [HN.out]; rfl, ((Below.refl _ _).alloc (Nat.le_refl _) _).alloc (by simp) _⟩
        · skip
          rcases h4 : a.h == b.h with _ | _
          · have HN := hid (show sameN a b = false by unfold sameN; rw [h0, h1, h2, h3, h4]; simp)
            go_enter Tryz.func28, Tryz.ntmps28
            go_wp2
            go_ret
            exact ⟨by rw [HN.out]; rfl, ((Below.refl _ _).alloc (Nat.le_refl _) _).alloc (by simp) _⟩
          · skip
            have HN := hid (show sameN a b = (a.u == b.u) by unfold sameN; rw [h0, h1, h2, h3, h4]; simp)
            generalize hE : (a.u == b.u) = E at HN
            have HE := hid hE; clear hE
            go_enter Tryz.func28, Tryz.ntmps28
            go_wp2_with (go_at_call 19; refine (same_ints A _ c a.u B _ d b.u _ (HS.out.ext (((Below.refl _ _).alloc (Nat.le_refl _) _).alloc (by simp) _)) (HS'.out.ext (((Below.refl _ _).alloc (Nat.le_refl _) _).alloc (by simp) _)) hn hm).mono ?_; rintro e1 w1 ⟨rfl, q, rfl⟩; rw [HE.out])
            go_ret
            exact ⟨by rw [HN.out]; rfl, below_drewN (((Below.refl _ _).alloc (Nat.le_refl _) _).alloc (by simp) _) _⟩
end Go.Proofs.YtfmkniakfgpgjaaGreatDoor

/- whether two trees are the same: both ways. -/
namespace Go.Proofs.YtfmkniakfgpgjaaGreatDoor
open Go.RowKit Go.KK Go.Shelf
set_option linter.unusedVariables false
set_option linter.unusedSimpArgs false

/-- Two trees are the same. -/
def sameT : List TN → List TN → Bool
  | [], [] => true
  | x :: xs, y :: ys => sameN x y && sameT xs ys
  | _, _ => false
theorem sameT_len : ∀ (xs ys : List TN), xs.length ≠ ys.length → sameT xs ys = false
  | [], [], h => absurd rfl h
  | [], _ :: _, _ => rfl
  | _ :: _, [], _ => rfl
  | x :: xs, y :: ys, h => by rw [sameT, sameT_len xs ys (fun e => h (by simp [e])), Bool.and_false]
theorem sameT_drop {xs ys : List TN} {j : Nat} {x y : TN} (h1 : xs[j]? = some x) (h2 : ys[j]? = some y) : sameT (xs.drop j) (ys.drop j) = (sameN x y && sameT (xs.drop (j + 1)) (ys.drop (j + 1))) := by
  rw [tdrop_get h1, tdrop_get h2, sameT]
theorem sameT_end {xs ys : List TN} {j : Nat} (h1 : xs.length ≤ j) (h2 : ys.length ≤ j) : sameT (xs.drop j) (ys.drop j) = true := by
  rw [List.drop_of_length_le h1, List.drop_of_length_le h2]; rfl
set_option maxHeartbeats 1000000 in
theorem rsame_any (A : Option Addr) (n c : Nat) (xs : List TN) (B : Option Addr) (m d : Nat) (ys : List TN) (w : World) (h : Tr w A n c xs) (h' : Tr w B m d ys) (hn : n ≤ 600) (hm : m ≤ 600) (hu : Shorts xs) (hu' : Shorts ys) :
    Calls Tryz.prog 21 #[.slice A n c, .slice B m d] w fun e w' => e = .returned (.bool (sameT xs ys)) ∧ Below w.heap.size w w' := by
  have HL := hid h.len; have HL' := hid h'.len; have H := hid h; have H' := hid h'; have HU := hid hu; have HU' := hid hu'
  clear h h' hu hu'
  by_cases hnm : n = m
  · subst hnm
    go_enter Tryz.func21, Tryz.ntmps21
    go_wp2
    go_loopw [13, 4] (fun i _ wr => ∃ j : Nat, i = .int .i64 j ∧ j ≤ n ∧ Hid (sameT xs ys = sameT (xs.drop j) (ys.drop j)) ∧ Below w.heap.size w wr) (fun i _ _ => n - (intOf i).toNat)
    case atStart => exact ⟨0, rfl, by omega, hid rfl, Below.refl _ _⟩
    case round =>
      obtain ⟨j, hi, hj, HJ, hbr⟩ := hrel
      subst hi
      have HB := hid hbr; clear hbr
      by_cases hlt : j < n
      · obtain ⟨b, o, x, A2, c2, rfl, hx, c0, c1, c2', c3, c4, c5, hsx⟩ := (H.out.ext HB.out).at hlt
        obtain ⟨b', o', y, B2, d2, rfl, hy, d0, d1, d2', d3, d4, d5, hsy⟩ := (H'.out.ext HB.out).at hlt
        have hj0 : (0 : Int) ≤ (j : Int) := by omega
        have hj1 : (j : Int) < (n : Int) := by omega
        have hux := HU.out _ _ hx
        have huy := HU'.out _ _ hy
        have HD := hid (sameT_drop hx hy)
        clear hx hy
        have HSX := hid hsx; have HSY := hid hsy
        clear hsx hsy
        have hlb : b < wr.heap.size := block_lt_of_cell c0
        have hlb2 : b' < wr.heap.size := block_lt_of_cell d0
        have hbz := HB.out.size
        rcases hs : sameN x y with _ | _
        · have HF := hid (show sameT xs ys = false by rw [HJ.out, HD.out, hs, Bool.false_and])
          go_wp2
          go_region_held3 (fun w' => w'.cell? ⟨b, o + j * 6, none⟩ = some (.int .i64 x.k) ∧ w'.cell? ⟨b, o + j * 6 + 1, none⟩ = some (.int .i64 x.i) ∧ w'.cell? ⟨b, o + j * 6 + 2, none⟩ = some (.int .i64 x.e) ∧ w'.cell? ⟨b, o + j * 6 + 3, none⟩ = some (.int .i64 x.s) ∧ w'.cell? ⟨b, o + j * 6 + 4, none⟩ = some (.int .i64 x.h) ∧ w'.cell? ⟨b, o + j * 6 + 5, none⟩ = some (.slice A2 x.u.length c2) ∧ w'.cell? ⟨b', o' + j * 6, none⟩ = some (.int .i64 y.k) ∧ w'.cell? ⟨b', o' + j * 6 + 1, none⟩ = some (.int .i64 y.i) ∧ w'.cell? ⟨b', o' + j * 6 + 2, none⟩ = some (.int .i64 y.e) ∧ w'.cell? ⟨b', o' + j * 6 + 3, none⟩ = some (.int .i64 y.s) ∧ w'.cell? ⟨b', o' + j * 6 + 4, none⟩ = some (.int .i64 y.h) ∧ w'.cell? ⟨b', o' + j * 6 + 5, none⟩ = some (.slice B2 y.u.length d2)) (first | exact ⟨c0, c1, c2', c3, c4, c5, d0, d1, d2', d3, d4, d5⟩ | exact ⟨r0, r1, r2, r3, r4, r5, r6, r7, r8, r9, r10, r11⟩ | go_keep) (first
            | (go_at_call 28; refine (samenode_any x y A2 c2 B2 d2 _ HSX.out.drew HSY.out.drew hux huy).mono ?_; rintro e1 w1 ⟨rfl, hb1⟩; rw [hs]; have HB1 := hid hb1; have r0 := (hb1.cell (p := ⟨b, o + j * 6, none⟩) hlb).trans c0; have r1 := (hb1.cell (p := ⟨b, o + j * 6 + 1, none⟩) hlb).trans c1; have r2 := (hb1.cell (p := ⟨b, o + j * 6 + 2, none⟩) hlb).trans c2'; have r3 := (hb1.cell (p := ⟨b, o + j * 6 + 3, none⟩) hlb).trans c3; have r4 := (hb1.cell (p := ⟨b, o + j * 6 + 4, none⟩) hlb).trans c4; have r5 := (hb1.cell (p := ⟨b, o + j * 6 + 5, none⟩) hlb).trans c5; have r6 := (hb1.cell (p := ⟨b', o' + j * 6, none⟩) hlb2).trans d0; have r7 := (hb1.cell (p := ⟨b', o' + j * 6 + 1, none⟩) hlb2).trans d1; have r8 := (hb1.cell (p := ⟨b', o' + j * 6 + 2, none⟩) hlb2).trans d2'; have r9 := (hb1.cell (p := ⟨b', o' + j * 6 + 3, none⟩) hlb2).trans d3; have r10 := (hb1.cell (p := ⟨b', o' + j * 6 + 4, none⟩) hlb2).trans d4; have r11 := (hb1.cell (p := ⟨b', o' + j * 6 + 5, none⟩) hlb2).trans d5; clear hb1))
          go_wp2
          go_ret
          exact ⟨by rw [HF.out]; rfl, (below_drew HB.out).trans (HB1.out.mono hbz)⟩
        · have HF := hid (show sameT xs ys = sameT (xs.drop (j + 1)) (ys.drop (j + 1)) by rw [HJ.out, HD.out, hs, Bool.true_and])
          go_wp2
          go_region_held3 (fun w' => w'.cell? ⟨b, o + j * 6, none⟩ = some (.int .i64 x.k) ∧ w'.cell? ⟨b, o + j * 6 + 1, none⟩ = some (.int .i64 x.i) ∧ w'.cell? ⟨b, o + j * 6 + 2, none⟩ = some (.int .i64 x.e) ∧ w'.cell? ⟨b, o + j * 6 + 3, none⟩ = some (.int .i64 x.s) ∧ w'.cell? ⟨b, o + j * 6 + 4, none⟩ = some (.int .i64 x.h) ∧ w'.cell? ⟨b, o + j * 6 + 5, none⟩ = some (.slice A2 x.u.length c2) ∧ w'.cell? ⟨b', o' + j * 6, none⟩ = some (.int .i64 y.k) ∧ w'.cell? ⟨b', o' + j * 6 + 1, none⟩ = some (.int .i64 y.i) ∧ w'.cell? ⟨b', o' + j * 6 + 2, none⟩ = some (.int .i64 y.e) ∧ w'.cell? ⟨b', o' + j * 6 + 3, none⟩ = some (.int .i64 y.s) ∧ w'.cell? ⟨b', o' + j * 6 + 4, none⟩ = some (.int .i64 y.h) ∧ w'.cell? ⟨b', o' + j * 6 + 5, none⟩ = some (.slice B2 y.u.length d2)) (first | exact ⟨c0, c1, c2', c3, c4, c5, d0, d1, d2', d3, d4, d5⟩ | exact ⟨r0, r1, r2, r3, r4, r5, r6, r7, r8, r9, r10, r11⟩ | go_keep) (first
            | (go_at_call 28; refine (samenode_any x y A2 c2 B2 d2 _ HSX.out.drew HSY.out.drew hux huy).mono ?_; rintro e1 w1 ⟨rfl, hb1⟩; rw [hs]; have HB1 := hid hb1; have r0 := (hb1.cell (p := ⟨b, o + j * 6, none⟩) hlb).trans c0; have r1 := (hb1.cell (p := ⟨b, o + j * 6 + 1, none⟩) hlb).trans c1; have r2 := (hb1.cell (p := ⟨b, o + j * 6 + 2, none⟩) hlb).trans c2'; have r3 := (hb1.cell (p := ⟨b, o + j * 6 + 3, none⟩) hlb).trans c3; have r4 := (hb1.cell (p := ⟨b, o + j * 6 + 4, none⟩) hlb).trans c4; have r5 := (hb1.cell (p := ⟨b, o + j * 6 + 5, none⟩) hlb).trans c5; have r6 := (hb1.cell (p := ⟨b', o' + j * 6, none⟩) hlb2).trans d0; have r7 := (hb1.cell (p := ⟨b', o' + j * 6 + 1, none⟩) hlb2).trans d1; have r8 := (hb1.cell (p := ⟨b', o' + j * 6 + 2, none⟩) hlb2).trans d2'; have r9 := (hb1.cell (p := ⟨b', o' + j * 6 + 3, none⟩) hlb2).trans d3; have r10 := (hb1.cell (p := ⟨b', o' + j * 6 + 4, none⟩) hlb2).trans d4; have r11 := (hb1.cell (p := ⟨b', o' + j * 6 + 5, none⟩) hlb2).trans d5; clear hb1))
          go_wp2
          go_roundw
          case rel => exact ⟨j + 1, by go_num, by omega, HF, (below_drew HB.out).trans (HB1.out.mono hbz)⟩
          case measure => simp [intOf]; omega
      · have HF := hid (show sameT xs ys = true by rw [HJ.out, sameT_end (by have := HL.out; omega) (by have := HL'.out; omega)])
        go_wp2
        go_ret
        exact ⟨by rw [HF.out]; rfl, HB.out⟩
  · have HF := hid (sameT_len xs ys (by rw [HL.out, HL'.out]; exact hnm))
    have hnm' : ((n : Int) != (m : Int)) = true := bne_iff_ne.2 (by omega)
    clear hnm
    go_enter Tryz.func21, Tryz.ntmps21
    go_wp2
    go_ret
    exact ⟨by rw [HF.out]; rfl, Below.refl _ _⟩
end Go.Proofs.YtfmkniakfgpgjaaGreatDoor

/- the reference of layer 6: a tree's numbers. -/
namespace Go.Proofs.YtfmkniakfgpgjaaGreatDoor
open Go.RowKit Go.KK Go.Shelf
set_option linter.unusedVariables false
set_option linter.unusedSimpArgs false

end Go.Proofs.YtfmkniakfgpgjaaGreatDoor

/- the reference of layer 7: how many leaves, whether some are there, whether all of a node is zero. -/
namespace Go.Proofs.YtfmkniakfgpgjaaGreatDoor
open Go.RowKit Go.KK Go.Shelf
set_option linter.unusedVariables false
set_option linter.unusedSimpArgs false

end Go.Proofs.YtfmkniakfgpgjaaGreatDoor

/- the reference of layer 7: whether a node may stand at its place. -/
namespace Go.Proofs.YtfmkniakfgpgjaaGreatDoor
open Go.RowKit Go.KK Go.Shelf
set_option linter.unusedVariables false
set_option linter.unusedSimpArgs false

end Go.Proofs.YtfmkniakfgpgjaaGreatDoor

/- the reference of layer 7: a node at its place; Check. -/
namespace Go.Proofs.YtfmkniakfgpgjaaGreatDoor
open Go.RowKit Go.KK Go.Shelf
set_option linter.unusedVariables false
set_option linter.unusedSimpArgs false

end Go.Proofs.YtfmkniakfgpgjaaGreatDoor

/- the plain law of Check: what the program asks of a tree is what the document asks. -/
namespace Go.Proofs.YtfmkniakfgpgjaaGreatDoor
open Go.RowKit Go.KK Go.Shelf
set_option linter.unusedVariables false
set_option linter.unusedSimpArgs false

/-- The node above a leaf at a level. -/
def nd (i j : Nat) : Nat := (i / 2 ^ j) * 2 ^ (j + 1) + 2 ^ j - 1
theorem nd_facts : ((List.range 256).all fun i => (List.range 9).all fun j => decide (lvl (nd i j : Int) = j) && decide (nd i j ≤ 510) && (decide (j = 8) || decide (upV (nd i j : Int) = (nd i (j + 1) : Int)))) = true := by decide +kernel
theorem nd_is {i j : Nat} (hi : i < 256) (hj : j ≤ 8) : lvl (nd i j : Int) = j ∧ nd i j ≤ 510 ∧ (j < 8 → upV (nd i j : Int) = (nd i (j + 1) : Int)) := by
  have h := List.all_eq_true.1 (List.all_eq_true.1 nd_facts i (List.mem_range.2 hi)) j (List.mem_range.2 (by omega))
  simp only [Bool.and_eq_true, Bool.or_eq_true, decide_eq_true_eq] at h
  exact ⟨h.1.1, h.1.2, fun h8 => by rcases h.2 with h2 | h2; · omega
                                    · exact h2⟩
theorem nd0 (i : Nat) : nd i 0 = 2 * i := by unfold nd; simp; omega
theorem nd_inj {i j k : Nat} (hi : i < 256) (hj : j ≤ 8) (hk : k ≤ 8) (h : nd i j = nd i k) : j = k := by
  have a1 := (nd_is hi hj).1
  have a2 := (nd_is hi hk).1
  rw [h] at a1
  omega
end Go.Proofs.YtfmkniakfgpgjaaGreatDoor

/- the plain law of Check, its end. -/
namespace Go.Proofs.YtfmkniakfgpgjaaGreatDoor
open Go.RowKit Go.KK Go.Shelf
set_option linter.unusedVariables false
set_option linter.unusedSimpArgs false

/-- A number that an int can hold. -/
def W64 (a : Int) : Prop := -9223372036854775808 ≤ a ∧ a < 9223372036854775808
end Go.Proofs.YtfmkniakfgpgjaaGreatDoor

/- Check, both ways: one answer. -/
namespace Go.Proofs.YtfmkniakfgpgjaaGreatDoor
open Go.RowKit Go.KK Go.Shelf
set_option linter.unusedVariables false
set_option linter.unusedSimpArgs false

end Go.Proofs.YtfmkniakfgpgjaaGreatDoor

/- plain: layer 22's laws in words of makes: patches, what changed, what opens. -/
namespace Go.Proofs.YtfmkniakfgpgjaaGreatDoor
open Go.RowKit Go.KK Go.Shelf Go.Maps
set_option linter.unusedVariables false
set_option linter.unusedSimpArgs false

/-- The first so many terms put in. -/
def ptS (l a w : List Int) : Nat → List Int
  | 0 => l
  | j + 1 => (ptS l a w j).set (a.getD j 0).toNat (w.getD j 0)
def patB (l a w : List Int) : Bool := decide (a.length ≠ w.length) || a.any (fun x => decide (x < 0) || decide ((l.length : Int) ≤ x))
def patF (l a w : List Int) : List Int × Int := if patB l a w then ([], 1) else (ptS l a w a.length, 0)
theorem txS_eq {s t : ByteArray} (h : txN s = txN t) : s = t := by
  unfold txN at h
  simp only [ND.mk.injEq, true_and, and_true] at h
  exact h
/-- Begun again, where the export secret is there. -/
theorem be_again {Y : List ND} (ok : Okay Y) {ep : List Int} {cx ex : Int} (h : XpAt Y ex ep lbNodes cx) : beF Y ep cx = ⟨Y, 0⟩ ∧ beI Y ep cx = ex := by
  have := xp_again ok h
  unfold beF beI
  rw [this]
  exact ⟨rfl, rfl⟩
/-- The keys are made, where there is room. -/
theorem ky_room {Y : List ND} {ex x : Int} (he : hasB Y ex = true) (hx : I64 x) (hl : Y.length + 5 ≤ 100000) : (kyF ex ⟨Y, 0⟩ x).1.e = 0 := by
  have h1 : makE Y (txN (digB x)) = 0 := mk_may (by omega) (by rw [text_may]; exact decide_eq_true (by have h1 := hx.1; have h2 := hx.2; have := Lib.itoa_length_le x (by omega) (by omega); rw [digB_size]; omega))
  have e1 : kyA ⟨Y, 0⟩ x = (⟨makT Y (txN (digB x)), 0⟩, makI Y (txN (digB x))) := by
    unfold kyA doF txF
    rw [if_pos rfl]
    show ((⟨makT Y _, makE Y _⟩ : KS), _) = _
    rw [h1]; rfl
  obtain ⟨m, hm⟩ := mak_pre Y (txN (digB x))
  have hlen := mak_len Y (txN (digB x))
  have ht := (mk_at h1).1.has
  have hex : hasB (makT Y (txN (digB x))) ex = true := by rw [hm]; exact has_ext he m
  have h2 := exd_ok (lab := lbNode) hex ht (by decide) (by omega)
  have e2 : kyB ex ⟨Y, 0⟩ x = (⟨(exdF (makT Y (txN (digB x))) ex lbNode (makI Y (txN (digB x)))).1, 0⟩, (exdF (makT Y (txN (digB x))) ex lbNode (makI Y (txN (digB x)))).2.1) := by
    unfold kyB
    rw [e1]
    unfold doF
    rw [if_pos rfl]
    dsimp only
    rw [h2]
  have hlen2 := gw_exd ex lbNode (makI Y (txN (digB x))) (makT Y (txN (digB x)))
  obtain ⟨m2, hm2⟩ := (sb_exd ex lbNode (makI Y (txN (digB x)))).ext (makT Y (txN (digB x)))
  try dsimp only at hlen2 hm2
  have h3 := exd_ok (xs := (exdF (makT Y (txN (digB x))) ex lbNode (makI Y (txN (digB x)))).1) (s := ex) (c := makI Y (txN (digB x))) (lab := lbNonce) (by rw [hm2]; exact has_ext hex m2) (by rw [hm2]; exact has_ext ht m2) (by decide) (by omega)
  unfold kyF
  rw [e2, e1]
  unfold doF
  rw [if_pos rfl]
  exact h3
/-- What was locked elsewhere, under another epoch's secret, or with another context, does not open. -/
theorem end_no {Y : List ND} {ex ex' cx cx' v : Int} {x y : Int} {n : TN} (h : LockAt Y v ex cx y n) (hx : hasB Y cx' = true) (k : (kyF ex' ⟨Y, 0⟩ x).1.e = 0) (hne : ex ≠ ex' ∨ x ≠ y ∨ cx ≠ cx') :
    ∃ k' n' a' c', At Y v (ndN 9 [k', n', a', c']) ∧ hasB Y cx' = true ∧ ([k', n', a'] == [(kyB ex' ⟨Y, 0⟩ x).2, (kyF ex' ⟨Y, 0⟩ x).2, cx']) = false := by
  obtain ⟨t, key, nonce, c, o, ki, li, us, h1, h2, h3⟩ := h
  refine ⟨key, nonce, cx, c, h3, hx, ?_⟩
  rw [beq_eq_false_iff_ne]
  intro e
  simp only [List.cons.injEq, and_true] at e
  obtain ⟨ek, -, ec⟩ := e
  have g := ky_go ex' ⟨Y, 0⟩ x
  have k1 := (ky_at k).hk
  have kt := (ky_at k).ht
  have k2 := g.key h1.hk
  rw [ek] at k2
  obtain ⟨e1, -, e3⟩ := k2.eq k1
  rw [e3] at h1
  have e4 := txS_eq ((g.at h1.ht).eq kt)
  rcases hne with hne | hne | hne
  · exact hne e1
  · exact hne (digB_inj e4).symm
  · exact hne ec
/-- Where one does not open: what 'open_any' asks. -/
theorem no_open {Y : List ND} {ep : List Int} {l : List Int} {cx ex cx' v y : Int} {n : TN} {m : Nat} (hv : l.getD m 0 = v) (h : LockAt Y v ex cx y n) (hx : hasB Y cx' = true) (h5 : hasB Y (ep.getD 5 0) = true) (hl : Y.length + 20 ≤ 100000) (hm : m < 1000000) (hne : ex ≠ beI Y ep cx' ∨ (m : Int) ≠ y ∨ cx ≠ cx') :
    (beF Y ep cx').e = 0 ∧ (kyF (beI Y ep cx') (beF Y ep cx') m).1.e = 0 ∧ ∃ k' n' a' c', At (beF Y ep cx').x (l.getD m 0) (ndN 9 [k', n', a', c']) ∧ hasB (beF Y ep cx').x cx' = true ∧ ([k', n', a'] == [(kyB (beI Y ep cx') (beF Y ep cx') m).2, (kyF (beI Y ep cx') (beF Y ep cx') m).2, cx']) = false := by
  have e0 : (beF Y ep cx').e = 0 := xp_ok (lab := lbNodes) hx h5 (by decide) (by omega)
  have hat := xp_at (lab := lbNodes) (show (xpF Y ep lbNodes cx').2.2 = 0 from e0)
  have hh : hasB (beF Y ep cx').x (beI Y ep cx') = true := by obtain ⟨_, _, _, _, h2⟩ := hat; exact h2.has
  have hg := be_go Y ep cx'
  have hlen := hg.len
  obtain ⟨m2, hm2⟩ := hg.ext
  generalize beI Y ep cx' = ex' at *
  generalize beF Y ep cx' = B at *
  obtain ⟨BX, be⟩ := B
  dsimp only at e0 hm2 hlen hh ⊢
  subst e0
  refine ⟨rfl, ?_⟩
  have hk := ky_room (x := (m : Int)) hh ⟨by omega, by omega⟩ (by omega)
  refine ⟨hk, ?_⟩
  subst hm2
  rw [hv]
  exact end_no (h.ext m2) (has_ext hx m2) hk hne
theorem badN_g {X : List ND} {n : TN} (h : badN X n = false) : (n.k = 0 ∨ n.k = 1 ∨ n.k = 2) ∧ ∀ i ∈ n.u, 0 ≤ i ∧ i < 1000000000 := by
  unfold badN at h
  simp only [Bool.or_eq_false_iff, decide_eq_false_iff_not] at h
  refine ⟨by omega, fun i hi => ?_⟩
  have := List.any_eq_false.1 h.2 i hi
  simp only [Bool.or_eq_true, decide_eq_true_eq, not_or] at this
  omega
end Go.Proofs.YtfmkniakfgpgjaaGreatDoor

/- nodes: Patch, and the document's. -/
namespace Go.Proofs.YtfmkniakfgpgjaaGreatDoor
open Go.RowKit Go.KK Go.Shelf Go.Maps
set_option linter.unusedVariables false
set_option linter.unusedSimpArgs false

end Go.Proofs.YtfmkniakfgpgjaaGreatDoor

/- the document's arena beside the law's: calls that take a step. -/
namespace Go.Proofs.YtfmkniakfgpgjaaGreatDoor
open Go.RowKit Go.KK Go.Shelf Go.Maps
set_option linter.unusedVariables false
set_option linter.unusedSimpArgs false

/-- The document's arena, and what the call has left alone. -/
structure LQ (w0 W : World) (Z : Nat → Prop) (sb : Nat) (ys : List ND) : Prop where
  ar : AQ W Z sb ys
  z : ∀ b, Z b → w0.heap.size ≤ b
  bl : Below w0.heap.size w0 W
section
variable {w0 W W' : World} {Z Z' Z2 : Nat → Prop} {sa sb : Nat} {xs xs' ys ys' : List ND}
theorem LQ.mv (h : LQ w0 W Z sb ys) (m : Mv Z W Z' W') (ha : AQ W' Z' sb ys') : LQ w0 W' Z' sb ys' :=
  ⟨ha, fun b hb => (m.n b hb).elim (h.z b) fun h' => Nat.le_trans h.bl.size h', h.bl.trans (m.t.below h.z h.bl.size)⟩
theorem LQ.ext (h : LQ w0 W Z sb ys) (hb : Below W.heap.size W W') : LQ w0 W' Z sb ys := h.mv (.below hb) (h.ar.ext hb)
theorem LQ.alloc (h : LQ w0 W Z sb ys) (o : Obj) : LQ w0 (W.alloc o) Z sb ys := h.ext ((Below.refl _ _).alloc (Nat.le_refl _) o)
theorem LQ.sz (h : LQ w0 W Z sb ys) : w0.heap.size ≤ W.heap.size := h.bl.size
/-- Both arenas, side by side: the law's holds these nodes, the document's those. -/
structure Tx (w0 W : World) (sa sb : Nat) (Z Z' : Nat → Prop) (xs ys : List ND) : Prop where
  a : LA w0 W Z sa xs
  b : LQ w0 W Z' sb ys
  d : ∀ b, Z b → ¬ Z' b
theorem Tx.of {xs : List ND} (h : Tw w0 W sa sb Z Z' xs) : Tx w0 W sa sb Z Z' xs xs := ⟨⟨h.a, h.za, h.bl⟩, ⟨h.b, h.zb, h.bl⟩, h.d⟩
/-- The law's arena took a step. -/
theorem Tx.onA (h : Tx w0 W sa sb Z Z' xs ys) (la : LA w0 W' Z2 sa xs') (m : Mv Z W Z2 W') : Tx w0 W' sa sb Z2 Z' xs' ys :=
  ⟨la, ⟨h.b.ar.turn m.t fun b hb k => h.d b k hb, h.b.z, la.bl⟩, fun b hb hb' => by
    rcases m.n b hb with k | k
    · exact h.d b k hb'
    · have := h.b.ar.zlt b hb'; omega⟩
/-- The document's arena took a step. -/
theorem Tx.onB (h : Tx w0 W sa sb Z Z' xs ys) (lq : LQ w0 W' Z2 sb ys') (m : Mv Z' W Z2 W') : Tx w0 W' sa sb Z Z2 xs ys' :=
  ⟨⟨AR.turn h.a.ar m.t fun b hb k => h.d b hb k, h.a.z, lq.bl⟩, lq, fun b hb hb' => by
    rcases m.n b hb' with k | k
    · exact h.d b hb k
    · have := h.a.ar.zlt b hb; omega⟩
theorem Tx.ext (h : Tx w0 W sa sb Z Z' xs ys) (hb : Below W.heap.size W W') : Tx w0 W' sa sb Z Z' xs ys := ⟨h.a.ext hb, h.b.ext hb, h.d⟩
theorem Tx.alloc (h : Tx w0 W sa sb Z Z' xs ys) (o : Obj) : Tx w0 (W.alloc o) sa sb Z Z' xs ys := h.ext ((Below.refl _ _).alloc (Nat.le_refl _) o)
/-- A call of the document's that takes a step. -/
def LrQ (w0 W : World) (Z : Nat → Prop) (sb : Nat) (r : Rs) (e : Ending) (w' : World) : Prop := ∃ Z', e = .returned (.tuple #[.int .i64 r.2.1, .int .i64 r.2.2]) ∧ LQ w0 w' Z' sb r.1 ∧ Mv Z W Z' w'
theorem q_mke (h : LQ w0 W Z sb ys) {x : ND} {A : Option Addr} {c : Nat} (hl : SlA W 1 A x.l.length c (x.l.map (.int .i64))) (hx : NdI x) :
    Calls Tryz.prog 74 #[.pointer (some ⟨sb, 0, none⟩), .agg #[.int .i64 x.o, .int .i64 x.n, .string x.s, .slice A x.l.length c]] W (LrQ w0 W Z sb (mk ys x)) := by
  refine (rmke_any Z sb ys W x A c h.ar hl hx).mono ?_
  rintro e w' ⟨rfl, Z', h1, h2, h3⟩
  exact ⟨Z', rfl, h.mv ⟨h2, h3⟩ h1, ⟨h2, h3⟩⟩
theorem q_of (h : LQ w0 W Z sb ys) {o : Int} {A : Option Addr} {n c : Nat} {l : List Int} (hl : SlA W 1 A n c (l.map (.int .i64))) (ho : I64 o) (hi : ∀ i ∈ l, I64 i) :
    Calls Tryz.prog 54 #[.pointer (some ⟨sb, 0, none⟩), .int .i64 o, .slice A n c] W (LrQ w0 W Z sb (mk ys (ndN o l))) := by
  have e := hl.lenI
  subst e
  have HM := hid (q_mke h (x := ndN o l) hl (ndI_nd ho hi))
  clear h hl
  go_enter Tryz.func54, Tryz.ntmps54
  go_wp2_with fail
  refine HM.out.mono ?_
  rintro e w' ⟨Z', rfl, h1, h2⟩
  have H1 := hid h1; have H2 := hid h2
  clear h1 h2
  go_wp2_with fail
  go_ret2
  exact ⟨Z', rfl, H1.out, H2.out⟩
theorem q_list (h : LQ w0 W Z sb ys) {A : Option Addr} {n c : Nat} {l : List Int} (hl : SlA W 1 A n c (l.map (.int .i64))) (hi : ∀ i ∈ l, I64 i) :
    Calls Tryz.prog 93 #[.pointer (some ⟨sb, 0, none⟩), .slice A n c] W (LrQ w0 W Z sb (mk ys (ndN 3 l))) := by
  have HM := hid (q_of h (o := 3) hl (i64_lit (by decide) (by decide)) hi)
  clear h hl hi
  generalize mk ys (ndN 3 l) = r at *
  unfold LrQ at HM ⊢
  go_enter Tryz.func93, Tryz.ntmps93
  go_wp2_with fail
  refine HM.out.mono ?_
  rintro e w' ⟨Z', rfl, h1, h2⟩
  have H1 := hid h1; have H2 := hid h2
  clear h1 h2
  go_wp2_with fail
  go_ret2
  exact ⟨Z', rfl, H1.out, H2.out⟩
theorem q_text (h : LQ w0 W Z sb ys) (s : ByteArray) :
    Calls Tryz.prog 91 #[.pointer (some ⟨sb, 0, none⟩), .string s] W (LrQ w0 W Z sb (mk ys (txN s))) := by
  have HM := hid (q_mke h (x := txN s) (SlA.nil _ _) (ndI_tx s))
  clear h
  go_enter Tryz.func91, Tryz.ntmps91
  go_wp2_with fail
  refine HM.out.mono ?_
  rintro e w' ⟨Z', rfl, h1, h2⟩
  have H1 := hid h1; have H2 := hid h2
  clear h1 h2
  go_wp2_with fail
  go_ret2
  exact ⟨Z', rfl, H1.out, H2.out⟩
end
end Go.Proofs.YtfmkniakfgpgjaaGreatDoor

/- the document's layers 4 and 11: Expand, Derive, Joiner, Psk. -/
namespace Go.Proofs.YtfmkniakfgpgjaaGreatDoor
open Go.RowKit Go.KK Go.Shelf Go.Maps
set_option linter.unusedVariables false
set_option linter.unusedSimpArgs false

theorem rlen5_any (st : Nat) (xs : List ND) (w : World) (h : ArV w 99 st xs) :
    Calls Tryz.prog 55 #[.pointer (some ⟨st, 0, none⟩)] w fun e w' => e = .returned (.int .i64 xs.length) ∧ w' = w := by
  obtain ⟨A, c, m, h0, h1, hn⟩ := h.parts
  clear hn h
  go_enter Tryz.func55, Tryz.ntmps55
  go_wp2
  go_ret
  exact ⟨rfl, rfl⟩
section
variable {w0 W W' : World} {Z Z' : Nat → Prop} {sa : Nat} {xs xs' : List ND}
theorem bad_any (st : Nat) (w : World) (A : Option Addr) (n c : Nat) (l : List Int) (h : ArV w 99 st xs) (hl : SlA w 1 A n c (l.map (.int .i64))) (hn : n ≤ 2147483648) :
    Calls Tryz.prog 98 #[.pointer (some ⟨st, 0, none⟩), .slice A n c] w fun e w' => e = .returned (.bool (!(kno xs l))) ∧ w' = w := by
  have H := hid h; have HS := hid hl; have HL := hid hl.lenI
  clear h hl
  unfold kno
  go_enter Tryz.func98, Tryz.ntmps98
  go_wp2
  go_loopw [9] (fun i wr => ∃ j : Nat, i = .int .i64 j ∧ j ≤ n ∧ Hid (l.all (hasB xs) = (l.drop j).all (hasB xs)) ∧ wr = w) (fun i _ => n - (intOf i).toNat)
  case atStart => exact ⟨0, rfl, by omega, hid rfl, rfl⟩
  case round =>
    obtain ⟨j, hi, hj, HJ, hw⟩ := hrel
    subst hi; subst hw
    by_cases hlt : j < n
    · obtain ⟨b1, o, z, rfl, hz, hc⟩ := HS.out.elemI hlt
      have HD := hid (drop_get hz); clear hz
      by_cases hz0 : z < 0
      · have HF := hid (show l.all (hasB xs) = false by
          rw [HJ.out, HD.out, List.all_cons, show hasB xs z = false by unfold hasB; rw [decide_eq_false (by omega : ¬ 0 ≤ z)]; rfl]; rfl)
        go_wp2
        go_ret
        exact ⟨by rw [HF.out]; rfl, rfl⟩
      · by_cases hz1 : (xs.length : Int) ≤ z
        · have HF := hid (show l.all (hasB xs) = false by
            rw [HJ.out, HD.out, List.all_cons, show hasB xs z = false by unfold hasB; rw [decide_eq_false (by omega : ¬ z < (xs.length : Int))]; simp]; rfl)
          go_wp2_with (go_at_call 55; refine (rlen5_any st xs _ H.out).mono ?_; rintro e w' ⟨rfl, hw'⟩; subst hw')
          go_ret
          exact ⟨by rw [HF.out]; rfl, rfl⟩
        · have HF := hid (show l.all (hasB xs) = (l.drop (j + 1)).all (hasB xs) by
            rw [HJ.out, HD.out, List.all_cons, show hasB xs z = true by unfold hasB; rw [decide_eq_true (by omega : z < (xs.length : Int)), decide_eq_true (by omega : 0 ≤ z)]; rfl]; rfl)
          go_wp2_with (go_at_call 55; refine (rlen5_any st xs _ H.out).mono ?_; rintro e w' ⟨rfl, hw'⟩; subst hw')
          go_roundw
          case rel => exact ⟨j + 1, by go_num, by omega, HF, by first | rfl | trivial⟩
          case measure => simp [intOf]; omega
    · have HF := hid (show l.all (hasB xs) = true by rw [HJ.out, List.drop_of_length_le (by have := HL.out; omega)]; rfl)
      go_wp2
      go_ret
      exact ⟨by rw [HF.out]; rfl, rfl⟩
/-- The document's mix, at its caller's. -/
theorem q_mix (h : LQ w0 W Z sa xs) {s t : Int} (hs : I64 s) (ht : I64 t) :
    Calls Tryz.prog 54 #[.pointer (some ⟨sa, 0, none⟩), .int .i64 5, .slice (some ⟨W.heap.size, 0, none⟩) 2 2] (W.alloc (.cells #[.int .i64 s, .int .i64 t] 3)) (LrQ w0 W Z sa (exF xs s t)) := by
  refine (q_of (h.alloc (.cells #[.int .i64 s, .int .i64 t] 3)) (o := 5) (l := [s, t]) (sla_row #[.int .i64 s, .int .i64 t] (by unfold maxLen; simp)) (i64_lit (by decide) (by decide)) (fun i hi => by
    simp only [List.mem_cons, List.mem_nil_iff, or_false] at hi
    rcases hi with rfl | rfl
    · exact hs
    · exact ht)).mono ?_
  rintro e w' ⟨Z', rfl, h1, h2⟩
  exact ⟨Z', rfl, h1, (Mv.alloc Z W (.cells #[.int .i64 s, .int .i64 t] 3)).trans h2⟩
theorem q_pub (h : LQ w0 W Z sa xs) {s : Int} (hs : I64 s) :
    Calls Tryz.prog 54 #[.pointer (some ⟨sa, 0, none⟩), .int .i64 7, .slice (some ⟨W.heap.size, 0, none⟩) 1 1] (W.alloc (.cells #[.int .i64 s] 3)) (LrQ w0 W Z sa (pbF xs s)) := by
  refine (q_of (h.alloc (.cells #[.int .i64 s] 3)) (o := 7) (l := [s]) (sla_row #[.int .i64 s] (by unfold maxLen; simp)) (i64_lit (by decide) (by decide)) (fun i hi => by
    rw [List.mem_singleton] at hi
    subst hi
    exact hs)).mono ?_
  rintro e w' ⟨Z', rfl, h1, h2⟩
  exact ⟨Z', rfl, h1, (Mv.alloc Z W (.cells #[.int .i64 s] 3)).trans h2⟩
set_option maxHeartbeats 2000000 in
set_option maxRecDepth 100000 in
theorem q_exd (h : LQ w0 W Z sa xs) {s c : Int} (hs : I64 s) (hc : I64 c) (lab : ByteArray) :
    Calls Tryz.prog 90 #[.pointer (some ⟨sa, 0, none⟩), .int .i64 s, .string lab, .int .i64 c] W (LrQ w0 W Z sa (exdF xs s lab c)) := by
  have HA := hid (h.alloc (.cells #[.int .i64 s, .int .i64 c] 3))
  have HM := hid (Mv.alloc Z W (.cells #[.int .i64 s, .int .i64 c] 3))
  have HK := hid (bad_any sa (W.alloc (.cells #[.int .i64 s, .int .i64 c] 3)) (some ⟨W.heap.size, 0, none⟩) 2 2 [s, c] HA.out.ar.vw (sla_row #[.int .i64 s, .int .i64 c] (by unfold maxLen; simp)) (by omega))
  have hti := idx_i64 h.ar.ok (txN lab)
  clear h
  rcases hk : kno xs [s, c] with _ | _
  · have HF := hid (show exdF xs s lab c = (xs, 0, 1) by unfold exdF; rw [if_neg (by rw [hk]; decide)])
    rw [HF.out]
    rw [hk] at HK
    clear hk hti
    go_enter Tryz.func90, Tryz.ntmps90
    go_wp2_with fail
    refine HK.out.mono ?_
    rintro e w' ⟨rfl, hw⟩
    subst hw
    go_wp2_with fail
    go_ret2
    exact ⟨Z, rfl, HA.out, HM.out⟩
  · rw [hk] at HK
    have HX := hid (q_text HA.out lab)
    by_cases he : makE xs (txN lab) = 0
    · have HF := hid (show exdF xs s lab c = mk (makT xs (txN lab)) (ndN 6 [s, makI xs (txN lab), c]) by unfold exdF; rw [if_pos hk]; unfold bdF; rw [if_pos (show (mk xs (txN lab)).2.2 = 0 from he)]; rfl)
      rw [HF.out]
      unfold LrQ mk at HX
      rw [he] at HX
      clear hk he
      generalize makI xs (txN lab) = ti at *
      generalize makT xs (txN lab) = Y at *
      obtain ⟨r, hr⟩ : ∃ r : Rs, r = mk Y (ndN 6 [s, ti, c]) := ⟨_, rfl⟩
      rw [← hr]
      have HR := hid hr
      clear hr HF
      go_enter Tryz.func90, Tryz.ntmps90
      go_wp2_with fail
      refine HK.out.mono ?_
      rintro e w' ⟨rfl, hw⟩
      subst hw
      go_wp2_with fail
      refine HX.out.mono ?_
      rintro e w2 ⟨Z2, rfl, l2, m2⟩
      have HO := hid (q_of (l2.alloc (.cells #[.int .i64 s, .int .i64 ti, .int .i64 c] 3)) (o := 6) (l := [s, ti, c]) (sla_row #[.int .i64 s, .int .i64 ti, .int .i64 c] (by unfold maxLen; simp)) (i64_lit (by decide) (by decide)) (fun i hi => by
        simp only [List.mem_cons, List.mem_nil_iff, or_false] at hi
        rcases hi with rfl | rfl | rfl
        · exact hs
        · exact hti
        · exact hc))
      rw [← HR.out] at HO
      have M2 := hid ((HM.out.trans m2).trans (Mv.alloc Z2 w2 (.cells #[.int .i64 s, .int .i64 ti, .int .i64 c] 3)))
      clear l2 m2 HX HK
      go_wp2_with fail
      refine HO.out.mono ?_
      rintro e w3 ⟨Z3, rfl, l3, m3⟩
      have L3 := hid l3; have M3 := hid (M2.out.trans m3)
      clear l3 m3 HO
      go_wp2_with fail
      go_ret2
      exact ⟨Z3, rfl, L3.out, M3.out⟩
    · have HF := hid (show exdF xs s lab c = (makT xs (txN lab), 0, makE xs (txN lab)) by unfold exdF; rw [if_pos hk]; unfold bdF; rw [if_neg (show ¬ (mk xs (txN lab)).2.2 = 0 from he)]; rfl)
      rw [HF.out]
      unfold LrQ mk at HX
      have hne : (makE xs (txN lab) != 0) = true := bne_iff_ne.2 he
      clear hk he
      generalize makE xs (txN lab) = te at *
      generalize makI xs (txN lab) = ti at *
      generalize makT xs (txN lab) = Y at *
      go_enter Tryz.func90, Tryz.ntmps90
      go_wp2_with fail
      refine HK.out.mono ?_
      rintro e w' ⟨rfl, hw⟩
      subst hw
      go_wp2_with fail
      refine HX.out.mono ?_
      rintro e w2 ⟨Z2, rfl, l2, m2⟩
      have L2 := hid l2; have M2 := hid (HM.out.trans m2)
      clear l2 m2 HX HK HF
      go_wp2_with fail
      go_ret2
      exact ⟨Z2, rfl, L2.out, M2.out⟩
set_option maxHeartbeats 2000000 in
set_option maxRecDepth 100000 in
theorem q_dv (h : LQ w0 W Z sa xs) {s : Int} (hs : I64 s) (lab : ByteArray) :
    Calls Tryz.prog 89 #[.pointer (some ⟨sa, 0, none⟩), .int .i64 s, .string lab] W (LrQ w0 W Z sa (dvF xs s lab)) := by
  have HA := hid (h.alloc (.cells #[.int .i64 s] 3))
  have HM := hid (Mv.alloc Z W (.cells #[.int .i64 s] 3))
  have HK := hid (bad_any sa (W.alloc (.cells #[.int .i64 s] 3)) (some ⟨W.heap.size, 0, none⟩) 1 1 [s] HA.out.ar.vw (sla_row #[.int .i64 s] (by unfold maxLen; simp)) (by omega))
  have hti := idx_i64 h.ar.ok (ndN 3 [])
  clear h
  rcases hk : kno xs [s] with _ | _
  · have HF := hid (show dvF xs s lab = (xs, 0, 1) by unfold dvF; rw [if_neg (by rw [hk]; decide)])
    rw [HF.out]
    rw [hk] at HK
    clear hk hti
    go_enter Tryz.func89, Tryz.ntmps89
    go_wp2_with fail
    refine HK.out.mono ?_
    rintro e w' ⟨rfl, hw⟩
    subst hw
    go_wp2_with fail
    go_ret2
    exact ⟨Z, rfl, HA.out, HM.out⟩
  · rw [hk] at HK
    have HX := hid (q_list HA.out (l := []) (SlA.nil _ _) (fun i hi => by simp at hi))
    by_cases he : makE xs (ndN 3 []) = 0
    · have HF := hid (show dvF xs s lab = exdF (makT xs (ndN 3 [])) s lab (makI xs (ndN 3 [])) by unfold dvF; rw [if_pos hk]; unfold bdF; rw [if_pos (show (mk xs (ndN 3 [])).2.2 = 0 from he)]; rfl)
      rw [HF.out]
      unfold LrQ mk at HX
      rw [he] at HX
      clear hk he
      generalize makI xs (ndN 3 []) = ti at *
      generalize makT xs (ndN 3 []) = Y at *
      obtain ⟨r, hr⟩ : ∃ r : Rs, r = exdF Y s lab ti := ⟨_, rfl⟩
      rw [← hr]
      have HR := hid hr
      clear hr HF
      go_enter Tryz.func89, Tryz.ntmps89
      go_wp2_with fail
      refine HK.out.mono ?_
      rintro e w' ⟨rfl, hw⟩
      subst hw
      go_wp2_with fail
      refine HX.out.mono ?_
      rintro e w2 ⟨Z2, rfl, l2, m2⟩
      have HO := hid (q_exd l2 hs hti lab)
      rw [← HR.out] at HO
      have M2 := hid (HM.out.trans m2)
      clear l2 m2 HX HK
      go_wp2_with fail
      refine HO.out.mono ?_
      rintro e w3 ⟨Z3, rfl, l3, m3⟩
      have L3 := hid l3; have M3 := hid (M2.out.trans m3)
      clear l3 m3 HO
      go_wp2_with fail
      go_ret2
      exact ⟨Z3, rfl, L3.out, M3.out⟩
    · have HF := hid (show dvF xs s lab = (makT xs (ndN 3 []), 0, makE xs (ndN 3 [])) by unfold dvF; rw [if_pos hk]; unfold bdF; rw [if_neg (show ¬ (mk xs (ndN 3 [])).2.2 = 0 from he)]; rfl)
      rw [HF.out]
      unfold LrQ mk at HX
      have hne : (makE xs (ndN 3 []) != 0) = true := bne_iff_ne.2 he
      clear hk he
      generalize makE xs (ndN 3 []) = te at *
      generalize makI xs (ndN 3 []) = ti at *
      generalize makT xs (ndN 3 []) = Y at *
      go_enter Tryz.func89, Tryz.ntmps89
      go_wp2_with fail
      refine HK.out.mono ?_
      rintro e w' ⟨rfl, hw⟩
      subst hw
      go_wp2_with fail
      refine HX.out.mono ?_
      rintro e w2 ⟨Z2, rfl, l2, m2⟩
      have L2 := hid l2; have M2 := hid (HM.out.trans m2)
      clear l2 m2 HX HK HF
      go_wp2_with fail
      go_ret2
      exact ⟨Z2, rfl, L2.out, M2.out⟩
theorem q_jn (h : LQ w0 W Z sa xs) {i c x : Int} (hi : I64 i) (hc : I64 c) (hx : I64 x) :
    Calls Tryz.prog 75 #[.pointer (some ⟨sa, 0, none⟩), .int .i64 i, .int .i64 c, .int .i64 x] W (LrQ w0 W Z sa (jnF xs i c x)) := by
  have HX := hid (q_mix h hi hc)
  have hmi : I64 (exF xs i c).2.1 := idx_i64 h.ar.ok (ndN 5 [i, c])
  clear h
  by_cases he : (exF xs i c).2.2 = 0
  · have HF := hid (show jnF xs i c x = exdF (exF xs i c).1 (exF xs i c).2.1 lbJoiner x by unfold jnF bdF; rw [if_pos he])
    rw [HF.out]
    unfold LrQ at HX
    rw [he] at HX
    clear he
    generalize exF xs i c = r at *
    obtain ⟨Y, m, er⟩ := r
    obtain ⟨r, hr⟩ : ∃ r : Rs, r = exdF Y m lbJoiner x := ⟨_, rfl⟩
    rw [← hr]
    have HR := hid hr
    clear hr HF
    go_enter Tryz.func75, Tryz.ntmps75
    go_wp2_with fail
    refine HX.out.mono ?_
    rintro e w2 ⟨Z2, rfl, l2, m2⟩
    have HO := hid (q_exd l2 hmi hx lbJoiner)
    rw [← HR.out] at HO
    unfold lbJoiner at HO
    have M2 := hid m2
    clear l2 m2 HX
    go_wp2_with fail
    refine HO.out.mono ?_
    rintro e w3 ⟨Z3, rfl, l3, m3⟩
    have L3 := hid l3; have M3 := hid (M2.out.trans m3)
    clear l3 m3 HO
    go_wp2_with fail
    go_ret2
    exact ⟨Z3, rfl, L3.out, M3.out⟩
  · have HF := hid (show jnF xs i c x = ((exF xs i c).1, 0, (exF xs i c).2.2) by unfold jnF bdF; rw [if_neg he])
    rw [HF.out]
    unfold LrQ at HX
    have hne : ((exF xs i c).2.2 != 0) = true := bne_iff_ne.2 he
    clear he
    generalize exF xs i c = r at *
    obtain ⟨Y, m, er⟩ := r
    go_enter Tryz.func75, Tryz.ntmps75
    go_wp2_with fail
    refine HX.out.mono ?_
    rintro e w2 ⟨Z2, rfl, l2, m2⟩
    have L2 := hid l2; have M2 := hid m2
    clear l2 m2 HX HF
    go_wp2_with fail
    go_ret2
    exact ⟨Z2, rfl, L2.out, M2.out⟩
end
end Go.Proofs.YtfmkniakfgpgjaaGreatDoor

/- the document's Psk, Begin. -/
namespace Go.Proofs.YtfmkniakfgpgjaaGreatDoor
open Go.RowKit Go.KK Go.Shelf Go.Maps
set_option linter.unusedVariables false
set_option linter.unusedSimpArgs false

theorem sla_tq {w : World} {A : Option Addr} {n c : Nat} {l : List Int} (h : SlA w 1 A n c (l.map (.int .i64))) (hl : l.length = n) {p : Nat} (hp : p ≤ n) : SlA w 1 A p c ((l.take p).map (.int .i64)) := by
  have := h.nc
  refine ⟨by omega, h.cm, by rw [List.length_map, List.length_take]; omega, fun j u hj => h.cells j u ?_⟩
  rw [List.getElem?_map, List.getElem?_take] at hj
  split at hj
  · rw [List.getElem?_map]; exact hj
  · cases hj
theorem SlM.cut {W : World} {Z : Nat → Prop} {A : Option Addr} {n c : Nat} {l : List Int} (h : SlM W Z A n c l) {k : Nat} (hk : k ≤ n) : SlM W Z A k c (l.take k) :=
  ⟨sla_tq h.1 h.1.lenI hk, fun b o e h0 => h.2 b o e (by omega)⟩
section
variable {w0 W W' : World} {Z Z' : Nat → Prop} {sa : Nat} {xs xs' : List ND}
set_option maxHeartbeats 2000000 in
set_option maxRecDepth 100000 in
theorem q_psk : ∀ (n : Nat) {W : World} {Z : Nat → Prop} {xs : List ND} {A : Option Addr} {c : Nat} {l : List Int}, LQ w0 W Z sa xs → SlM W Z A n c l → n ≤ 100000 → (∀ i ∈ l, I64 i) →
    Calls Tryz.prog 76 #[.pointer (some ⟨sa, 0, none⟩), .slice A n c] W (LrQ w0 W Z sa (pskF xs l)) := by
  intro n
  induction n with
  | zero =>
    intro W Z xs A c l h hl hn hi
    obtain rfl : l = [] := List.eq_nil_of_length_eq_zero hl.1.lenI
    have HX := hid (q_text h ⟨#[]⟩)
    clear h hl hi
    go_enter Tryz.func76, Tryz.ntmps76
    go_wp2_with fail
    refine HX.out.mono ?_
    rintro e w2 ⟨Z2, rfl, l2, m2⟩
    have L2 := hid l2; have M2 := hid m2
    clear l2 m2 HX
    go_wp2_with fail
    go_ret2
    exact (show LrQ _ _ _ _ _ _ _ from ⟨Z2, rfl, L2.out, M2.out⟩)
  | succ k ih =>
    intro W Z xs A c l h hl hn hi
    have HL := hid hl; have HI := hid hi
    have hlen := hl.1.lenI
    have HP := hid (ih (l := l.take k) h (hl.cut (Nat.le_succ k)) (by omega) (fun i hi' => hi i (List.mem_of_mem_take hi')))
    have hcc : k ≤ c := by have := hl.1.nc; omega
    obtain ⟨b, off, y, rfl, hy, -⟩ := hl.1.elemI (Nat.lt_succ_self k)
    have hyi : I64 y := hi y (List.mem_of_getElem? hy)
    have htk : l.take (k + 1) = l := List.take_of_length_le (by omega)
    have hcut := run_cut_to6 (P := Tryz.prog) (A := some ⟨b, off, none⟩) (n := k + 1) (c := c) Tryz.underlying33 (fun W => Tryz.sizeOf3 W) hcc
    have hne0 : ¬ ((k : Int) + 1 = 0) := by omega
    by_cases he : (pskF xs (l.take k)).2.2 = 0
    · have HF := hid (show pskF xs l = exF (pskF xs (l.take k)).1 (pskF xs (l.take k)).2.1 y by
        have := psk_one (xs := xs) hy he
        rwa [htk] at this)
      have hpi : I64 (pskF xs (l.take k)).2.1 ∨ True := .inr trivial
      have HPI := hid (fun U Zq (hla : LQ w0 U Zq sa (pskF xs (l.take k)).1) => (show I64 (pskF xs (l.take k)).2.1 from by
        have a := has_iff.1 ((sb_psk (l.take k)).has xs he)
        have b := hla.ar.ok.len
        try dsimp only at a b
        exact ⟨by omega, by omega⟩))
      rw [HF.out]
      unfold LrQ at HP
      rw [he] at HP
      have HY := hid hy
      clear he h hl hi hy hlen htk hpi HF ih
      generalize pskF xs (l.take k) = r at *
      obtain ⟨Y, m, er⟩ := r
      obtain ⟨r, hr⟩ : ∃ r : Rs, r = exF Y m y := ⟨_, rfl⟩
      rw [← hr]
      have HR := hid hr
      clear hr
      go_enter Tryz.func76, Tryz.ntmps76
      go_wp2_with fail
      refine HP.out.mono ?_
      rintro e w2 ⟨Z2, rfl, l2, m2⟩
      obtain ⟨b1, o1, y1, e1, hy1, hcy⟩ := (HL.out.mv m2).1.elemI (Nat.lt_succ_self k)
      injection e1 with e1
      injection e1 with e1 e2
      subst e1; subst e2
      have ey : y1 = y := Option.some.inj (hy1.symm.trans HY.out)
      subst ey
      have HX := hid (q_mix l2 (HPI.out _ _ l2) hyi)
      rw [← HR.out] at HX
      have M2 := hid m2
      clear l2 m2 HP hy1
      go_wp2_with fail
      refine HX.out.mono ?_
      rintro e w3 ⟨Z3, rfl, l3, m3⟩
      have L3 := hid l3; have M3 := hid (M2.out.trans m3)
      clear l3 m3 HX
      go_wp2_with fail
      go_ret2
      exact (show LrQ _ _ _ _ _ _ _ from ⟨Z3, rfl, L3.out, M3.out⟩)
    · have HF := hid (show pskF xs l = ((pskF xs (l.take k)).1, 0, (pskF xs (l.take k)).2.2) by
        exact psk_stuck (xs := xs) (l := l) (j := k) (by omega) he)
      rw [HF.out]
      unfold LrQ at HP
      have hne : ((pskF xs (l.take k)).2.2 != 0) = true := bne_iff_ne.2 he
      clear he h hl hi hy hlen htk HF ih
      generalize pskF xs (l.take k) = r at *
      obtain ⟨Y, m, er⟩ := r
      go_enter Tryz.func76, Tryz.ntmps76
      go_wp2_with fail
      refine HP.out.mono ?_
      rintro e w2 ⟨Z2, rfl, l2, m2⟩
      have L2 := hid l2; have M2 := hid m2
      clear l2 m2 HP
      go_wp2_with fail
      go_ret2
      exact (show LrQ _ _ _ _ _ _ _ from ⟨Z2, rfl, L2.out, M2.out⟩)
end
end Go.Proofs.YtfmkniakfgpgjaaGreatDoor

/- the document's Begin. -/
namespace Go.Proofs.YtfmkniakfgpgjaaGreatDoor
open Go.RowKit Go.KK Go.Shelf Go.Maps
set_option linter.unusedVariables false
set_option linter.unusedSimpArgs false
theorem bgR_stuck {xs : List ND} {j p x : Int} {k : Nat} (h : (bgR xs j p x k).2.2 ≠ 0) : ∀ d, bgR xs j p x (k + d) = bgR xs j p x k := by
  intro d
  induction d with
  | zero => rfl
  | succ d ih =>
    rw [← ih] at h ⊢
    by_cases hl : k + d < (bgS j p x).length
    · unfold bgR at h ⊢
      rw [show k + (d + 1) = k + d + 1 by omega, run_take (List.getElem?_eq_getElem hl)]
      unfold rnS
      rw [if_neg h]
    · unfold bgR
      rw [List.take_of_length_le (by omega), List.take_of_length_le (by omega)]
theorem beg_no {xs : List ND} {j p x : Int} {k : Nat} {f : List Int → List ND → Rs} {R : List ND × List Int × Int} (hR : R = bgR xs j p x k) (hk : (bgS j p x)[k]? = some f) (h0 : R.2.2 = 0) (he : (f R.2.1 R.1).2.2 ≠ 0) : begF xs j p x = ((f R.2.1 R.1).1, epZ, (f R.2.1 R.1).2.2) := by
  have hn : bgR xs j p x (k + 1) = ((f R.2.1 R.1).1, R.2.1, (f R.2.1 R.1).2.2) := by
    unfold bgR
    rw [run_take hk]
    change rnS (bgR xs j p x k) f = _
    rw [← hR]
    unfold rnS
    rw [if_pos h0, if_neg he]
  have hkl : k < 12 := (List.getElem?_eq_some_iff.1 hk).1
  have hs := bgR_stuck (xs := xs) (j := j) (p := p) (x := x) (k := k + 1) (by rw [hn]; exact he) (11 - k)
  rw [show k + 1 + (11 - k) = 12 by omega, hn] at hs
  have hb : bgF xs j p x = bgR xs j p x 12 := by unfold bgR; rw [List.take_of_length_le (show (bgS j p x).length ≤ 12 from Nat.le_refl 12)]; rfl
  unfold begF
  rw [hb, hs]
  exact if_neg he
theorem beg_yes {xs : List ND} {j p x : Int} {R : List ND × List Int × Int} (hR : R = bgR xs j p x 12) (h0 : R.2.2 = 0) : begF xs j p x = (R.1, epL j R.2.1, 0) := by
  have hb : bgF xs j p x = R := by rw [hR]; unfold bgR; rw [List.take_of_length_le (show (bgS j p x).length ≤ 12 from Nat.le_refl 12)]; rfl
  unfold begF
  rw [hb, if_pos h0]
theorem bgR_next {xs : List ND} {j p x : Int} {k : Nat} {f : List Int → List ND → Rs} {R : List ND × List Int × Int} (hR : R = bgR xs j p x k) (hk : (bgS j p x)[k]? = some f) : rnS R f = bgR xs j p x (k + 1) := by
  unfold bgR
  rw [run_take hk, hR]

theorem LQ.put1 {w0 W : World} {Z : Nat → Prop} {sa b o : Nat} {xs : List ND} (h : LQ w0 W Z sa xs) (v : Value) (hz : ¬ Z b) (hb : w0.heap.size ≤ b) : LQ w0 (W.setCell ⟨b, o, none⟩ v) Z sa xs := by
  have ht : Turn (fun k => k = b) W (W.setCell ⟨b, o, none⟩ v) := Turn.setCell v (.inl rfl)
  exact ⟨h.ar.turn ht fun k hk e => hz (e ▸ hk), h.z, h.bl.trans (ht.below (fun k e => e ▸ hb) h.bl.size)⟩
theorem lq_set {w0 W U : World} {Z Zr : Nat → Prop} {sa b o : Nat} {X : List ND} {v : Value} (h : LQ w0 U Zr sa X ∧ Mv Z W Zr U) (hz : ¬ Zr b) (hb : W.heap.size ≤ b) (hw : w0.heap.size ≤ W.heap.size) : LQ w0 (U.setCell ⟨b, o, none⟩ v) Zr sa X ∧ Mv Z W Zr (U.setCell ⟨b, o, none⟩ v) :=
  ⟨h.1.put1 v hz (Nat.le_trans hw hb), h.2.step (H := W.heap.size) (Turn.setCell v (.inl (.inr hb))) (fun _ h => .inl h) (Nat.le_refl _)⟩
theorem Mv.cellR {Z Z1 : Nat → Prop} {V W1 : World} {b : Nat} {cs : Array Value} {T : TypeId} (hb : V.heap[b]? = some (.cells cs T (0, 0))) (m : Mv Z V Z1 W1) (hz : ¬ Z b) : W1.heap[b]? = some (.cells cs T (0, 0)) ∧ ¬ Z1 b :=
  have hlt := (Array.getElem?_eq_some_iff.1 hb).1
  ⟨(m.t.block b hlt hz).trans hb, fun h => (m.n b h).elim hz fun h' => by omega⟩
/-- A call of the document's that makes an epoch. -/
def EpQ (w0 W : World) (Z : Nat → Prop) (sa : Nat) (r : List ND × List Int × Int) (e : Ending) (w' : World) : Prop := ∃ Z', e = .returned (.tuple #[epV r.2.1, .int .i64 r.2.2]) ∧ LQ w0 w' Z' sa r.1 ∧ Mv Z W Z' w'
/-- The way out of Begin. -/
def QO (w0 W : World) (Z : Nat → Prop) (sa : Nat) (X : List ND) (U : World) : Prop := ∃ Zu, (LQ w0 U Zu sa X ∧ Mv Z W Zu U) ∧ U.heap[W.heap.size]? = some (.cells #[.int .i64 0, .int .i64 0, .int .i64 0, .int .i64 0, .int .i64 0, .int .i64 0, .int .i64 0, .int .i64 0, .int .i64 0, .int .i64 0, .int .i64 0] 29 (0, 0)) ∧ ¬ Zu W.heap.size
/-- Where the document's Begin stands. -/
structure QI (w0 W : World) (Z : Nat → Prop) (sa : Nat) (j : Int) (k : Nat) (R : List ND × List Int × Int) (wr : World) (Zr : Nat → Prop) (ob : Nat) : Prop where
  la : LQ w0 wr Zr sa R.1
  mv : Mv Z W Zr wr
  r : wr.heap[W.heap.size]? = some (.cells #[.int .i64 0, .int .i64 0, .int .i64 0, .int .i64 0, .int .i64 0, .int .i64 0, .int .i64 0, .int .i64 0, .int .i64 0, .int .i64 0, .int .i64 0] 29 (0, 0))
  rz : ¬ Zr W.heap.size
  o : wr.heap[ob]? = some (.cells ((epL j R.2.1).map (.int .i64)).toArray 29 (0, 0))
  oz : ¬ Zr ob
  ow : W.heap.size < ob
  n : R.2.1.length = k
  i64 : ∀ a ∈ R.2.1, I64 a
  e0 : R.2.2 = 0
section
variable {w0 W wr w' : World} {Z Zr Z' : Nat → Prop} {sa ob k : Nat} {j : Int} {R : List ND × List Int × Int} {f : List Int → List ND → Rs}
theorem QI.res (h : QI w0 W Z sa j k R wr Zr ob) (hl : LQ w0 w' Z' sa (f R.2.1 R.1).1) (he : (f R.2.1 R.1).2.2 = 0) (hsb : Sb (f R.2.1)) : I64 (f R.2.1 R.1).2.1 := by
  have a := has_iff.1 (hsb.has R.1 he)
  have b := hl.ar.ok.len
  try dsimp only at b
  exact ⟨by omega, by omega⟩
theorem rnS_ok (h0 : R.2.2 = 0) (he : (f R.2.1 R.1).2.2 = 0) : rnS R f = ((f R.2.1 R.1).1, R.2.1 ++ [(f R.2.1 R.1).2.1], 0) := by
  unfold rnS
  rw [if_pos h0, if_pos he]
/-- A step that turns none of the epoch's numbers. -/
theorem QI.step0 (h : QI w0 W Z sa j k R wr Zr ob) (hl : LQ w0 w' Z' sa (f R.2.1 R.1).1) (m : Mv Zr wr Z' w') (he : (f R.2.1 R.1).2.2 = 0) (hsb : Sb (f R.2.1)) (hq : epL j (R.2.1 ++ [(f R.2.1 R.1).2.1]) = epL j R.2.1) : QI w0 W Z sa j (k + 1) (rnS R f) w' Z' ob := by
  have hi := h.res hl he hsb
  rw [rnS_ok h.e0 he]
  obtain ⟨r1, r2⟩ := Mv.cellR h.r m h.rz
  obtain ⟨o1, o2⟩ := Mv.cellR h.o m h.oz
  exact ⟨hl, h.mv.trans m, r1, r2, by dsimp only; rw [hq]; exact o1, o2, h.ow, by simp [h.n], fun a ha => by
    rcases List.mem_append.1 ha with ha | ha
    · exact h.i64 a ha
    · rw [List.mem_singleton] at ha; subst ha; exact hi, rfl⟩
theorem QI.put (h : QI w0 W Z sa j k R wr Zr ob) (hw : w0.heap.size ≤ W.heap.size) {b q : Nat} {v : Value} (h1 : W.heap.size < b) (h2 : b ≠ ob) (h3 : ¬ Zr b) : QI w0 W Z sa j k R (wr.setCell ⟨b, q, none⟩ v) Zr ob := by
  obtain ⟨a, c⟩ := lq_set (o := q) (v := v) ⟨h.la, h.mv⟩ h3 (Nat.le_of_lt h1) hw
  exact ⟨a, c, by rw [Below.heap_setCell _ _ _ _ (by simp; omega)]; exact h.r, h.rz, by rw [Below.heap_setCell _ _ _ _ (by simp; omega)]; exact h.o, h.oz, h.ow, h.n, h.i64, h.e0⟩
/-- A step that turns one of them. -/
theorem QI.step (h : QI w0 W Z sa j k R wr Zr ob) (hw : w0.heap.size ≤ W.heap.size) (hl : LQ w0 w' Z' sa (f R.2.1 R.1).1) (m : Mv Zr wr Z' w') (he : (f R.2.1 R.1).2.2 = 0) (hsb : Sb (f R.2.1)) {q : Nat} (hq : epL j (R.2.1 ++ [(f R.2.1 R.1).2.1]) = (epL j R.2.1).set q (f R.2.1 R.1).2.1) : QI w0 W Z sa j (k + 1) (rnS R f) (w'.setCell ⟨ob, q, none⟩ (.int .i64 (f R.2.1 R.1).2.1)) Z' ob := by
  have hi := h.res hl he hsb
  rw [rnS_ok h.e0 he]
  obtain ⟨r1, r2⟩ := Mv.cellR h.r m h.rz
  obtain ⟨o1, o2⟩ := Mv.cellR h.o m h.oz
  have how := h.ow
  obtain ⟨a, c⟩ := lq_set (o := q) (v := .int .i64 (f R.2.1 R.1).2.1) ⟨hl, h.mv.trans m⟩ o2 (Nat.le_of_lt h.ow) hw
  exact ⟨a, c, by rw [Below.heap_setCell _ _ _ _ (by simp; omega)]; exact r1, r2, by
    rw [heap_setCell_same _ _ _ _ _ _ o1]
    dsimp only
    rw [hq, List.map_set, List.setIfInBounds_toArray], o2, h.ow, by simp [h.n], fun a ha => by
    rcases List.mem_append.1 ha with ha | ha
    · exact h.i64 a ha
    · rw [List.mem_singleton] at ha; subst ha; exact hi, rfl⟩
/-- The way out behind a step, the epoch's field turned. -/
theorem QI.no (h : QI w0 W Z sa j k R wr Zr ob) (hw : w0.heap.size ≤ W.heap.size) {X : List ND} (hl : LQ w0 w' Z' sa X) (m : Mv Zr wr Z' w') {q : Nat} {v : Value} : QO w0 W Z sa X (w'.setCell ⟨ob, q, none⟩ v) := by
  obtain ⟨r1, r2⟩ := Mv.cellR h.r m h.rz
  obtain ⟨o1, o2⟩ := Mv.cellR h.o m h.oz
  have how := h.ow
  exact ⟨Z', lq_set (o := q) (v := v) ⟨hl, h.mv.trans m⟩ o2 (Nat.le_of_lt h.ow) hw, by rw [Below.heap_setCell _ _ _ _ (by simp; omega)]; exact r1, r2⟩
theorem QI.no0 (h : QI w0 W Z sa j k R wr Zr ob) {X : List ND} (hl : LQ w0 w' Z' sa X) (m : Mv Zr wr Z' w') : QO w0 W Z sa X w' := by
  obtain ⟨r1, r2⟩ := Mv.cellR h.r m h.rz
  exact ⟨Z', ⟨hl, h.mv.trans m⟩, r1, r2⟩
theorem QI.mvm (h : QI w0 W Z sa j k R wr Zr ob) (hl : LQ w0 w' Z' sa R.1) (m : Mv Zr wr Z' w') : QI w0 W Z sa j k R w' Z' ob := by
  obtain ⟨r1, r2⟩ := Mv.cellR h.r m h.rz
  obtain ⟨o1, o2⟩ := Mv.cellR h.o m h.oz
  exact ⟨hl, h.mv.trans m, r1, r2, o1, o2, h.ow, h.n, h.i64, h.e0⟩
theorem QI.cell (h : QI w0 W Z sa j k R wr Zr ob) {q : Nat} {v : Int} (hv : (epL j R.2.1)[q]? = some v) : wr.cell? ⟨ob, q, none⟩ = some (.int .i64 v) := by
  rw [cell_of_row wr ob q _ _ (0, 0) h.o]
  simp [hv]
theorem epL_snoc {acc : List Int} {v : Int} {n : Nat} (h : acc.length = n) (h1 : 1 ≤ n) (h8 : n ≤ 8) : epL j (acc ++ [v]) = (epL j acc).set n v := by
  obtain rfl | rfl | rfl | rfl | rfl | rfl | rfl | rfl : n = 1 ∨ n = 2 ∨ n = 3 ∨ n = 4 ∨ n = 5 ∨ n = 6 ∨ n = 7 ∨ n = 8 := by omega
  all_goals simp [epL, getD_snoc h, -List.getD_eq_getElem?_getD]
theorem epL_snoc9 {acc : List Int} {v : Int} (h : acc.length = 9) : epL j (acc ++ [v]) = (epL j acc).set 10 v := by simp [epL, getD_snoc h, -List.getD_eq_getElem?_getD]
theorem epL_snoc11 {acc : List Int} {v : Int} (h : acc.length = 11) : epL j (acc ++ [v]) = (epL j acc).set 9 v := by simp [epL, getD_snoc h, -List.getD_eq_getElem?_getD]
theorem epL_snoc0 {acc : List Int} {v : Int} {n : Nat} (h : acc.length = n) (hn : n = 0 ∨ n = 10) : epL j (acc ++ [v]) = epL j acc := by
  rcases hn with rfl | rfl
  all_goals simp [epL, getD_snoc h, -List.getD_eq_getElem?_getD]
end
end Go.Proofs.YtfmkniakfgpgjaaGreatDoor

