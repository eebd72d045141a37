/- math: the way up. -/
import Derived.Test.YtimdohjlhbpmhaaDoorM2
namespace Go.Proofs.YtimdohjlhbpmhaaDoor
open Go.RowKit Go.KK
set_option linter.unusedVariables false
set_option linter.unusedSimpArgs false

theorem Tryd.infoInt : (Tryd.prog.info? 3).map (fun i => (i.zero, i.size, i.bytes)) = some (some (.int .i64 0), 1, 8) := by kernel_rfl

def pathF : Nat → Int → Int → List Int
  | 0, _, _ => []
  | f + 1, x, n => if x = n - 1 then [] else upV x :: pathF f (upV x) n
/-- The nodes above one. -/
def pathL (x n : Int) : List Int := pathF 9 x n
theorem up_facts : ((List.range 257).all fun n => !fullN (n : Int) || (List.range (2 * n - 1)).all fun x => x == n - 1 || (decide (0 ≤ upV (x : Int)) && decide (upV (x : Int) < 2 * n - 1) && decide (lvl (upV (x : Int)) = lvl (x : Int) + 1))) = true := by decide +kernel
theorem up_in {x n : Int} (hf : fullN n = true) (h0 : 0 ≤ x) (h1 : x < 2 * n - 1) (h2 : x ≠ n - 1) : 0 ≤ upV x ∧ upV x < 2 * n - 1 ∧ lvl (upV x) = lvl x + 1 := by
  obtain ⟨a, b⟩ := fullN_le hf
  obtain ⟨m, rfl⟩ := Int.eq_ofNat_of_zero_le (show 0 ≤ n by omega)
  obtain ⟨y, rfl⟩ := Int.eq_ofNat_of_zero_le h0
  have h := List.all_eq_true.1 up_facts m (List.mem_range.2 (by omega))
  rw [hf, Bool.not_true, Bool.false_or] at h
  have h' := List.all_eq_true.1 h y (List.mem_range.2 (by omega))
  have hne : (y == m - 1) = false := beq_eq_false_iff_ne.2 (by omega)
  rw [hne, Bool.false_or] at h'
  simp only [Bool.and_eq_true, decide_eq_true_eq] at h'
  exact ⟨h'.1.1, h'.1.2, h'.2⟩

theorem path_no (x n : Int) (w : World) (h : (fullN n && decide (0 ≤ x) && decide (x < 2 * n - 1)) = false) :
    Calls Tryd.prog 59 #[.int .i64 x, .int .i64 n] w fun e w' => e = .returned (.tuple #[.slice none 0 0, .int .i64 1]) ∧ w' = w := by
  go_enter Tryd.func59, Tryd.ntmps59
  go_wp2_with (go_at_call 77; refine (inside_any x n _).mono ?_; rintro e w' ⟨rfl, rfl⟩; rw [h])
  go_ret2
  exact ⟨rfl, rfl⟩
theorem path_any (x n : Int) (w : World) (hf : fullN n = true) (h0 : 0 ≤ x) (h1 : x < 2 * n - 1) (hT : Tab w) :
    Calls Tryd.prog 59 #[.int .i64 x, .int .i64 n] w fun e w' => ∃ v, e = .returned (.tuple #[v, .int .i64 0]) ∧ w'.ownsRow w.heap.size 3 1 v (pathL x n).length ((pathL x n).map (.int .i64)) ∧ Below w.heap.size w w' := by
  have HT := hid hT; clear hT
  have HF := hid hf
  have hin : (fullN n && decide (0 ≤ x) && decide (x < 2 * n - 1)) = true := by simp [hf, h0, h1]
  go_enter Tryd.func59, Tryd.ntmps59
  go_wp2_with (go_at_call 77; refine (inside_any x n _).mono ?_; rintro e w' ⟨rfl, rfl⟩; rw [hin])
  obtain ⟨i0, hi, hz0, hz1, hz2⟩ := info_parts Tryd.infoInt
  have HIN := hid (@up_in x n); clear hin
  go_loopw [0, 6] (fun y v wr => ∃ (j : Nat) (z : Int), y = .int .i64 z ∧ 0 ≤ z ∧ z < 2 * n - 1 ∧ lvl z = lvl x + j ∧ wr.ownsRow w'.heap.size 3 1 v j (((pathL x n).take j).map (.int .i64)) ∧ pathL x n = (pathL x n).take j ++ pathF (9 - j) z n ∧ Below w'.heap.size w' wr) (fun y _ _ => 10 - lvl (intOf y))
  case atStart => exact ⟨0, x, rfl, h0, h1, by omega, World.ownsRow_nil _ _ _ _, rfl, Below.refl _ _⟩
  case round =>
    obtain ⟨j, z, hz, hza, hzb, hlv, hown, hpl, hbr⟩ := hrel
    subst hz
    have hszr := hbr.size
    obtain ⟨f0, f1⟩ := fullN_le HF.out
    have hz8 := lvl_le hza (by omega)
    by_cases he : z = n - 1
    · subst he
      have hle : pathL x n = (pathL x n).take j := by
        rw [show 9 - j = (9 - j - 1) + 1 by omega, pathF, if_pos rfl, List.append_nil] at hpl
        exact hpl
      have HL := hid hle; clear hle hpl
      have hjl := hown.1
      have htst : (n - 1 != n - 1) = false := by simp
      go_wp2
      go_ret2
      refine ⟨_, rfl, ?_, hbr⟩
      rw [HL.out]
      simp only [List.length_map, Nat.mul_one] at hjl
      rw [hjl]
      exact hown
    · obtain ⟨u0, u1, u2⟩ := up_in HF.out hza hzb he
      have htst : (z != n - 1) = true := bne_iff_ne.2 he
      have hcons : pathF (9 - j) z n = upV z :: pathF (9 - (j + 1)) (upV z) n := by
        rw [show 9 - j = (9 - (j + 1)) + 1 by omega, pathF, if_neg he]
      have HC := hid hcons; have HP := hid hpl; clear hcons hpl
      have hup := up_any z wr hza (by omega) (HT.out.ext hbr)
      have HJ := hid (hown.1)
      generalize upV z = u at *
      have hown2 : wr.drew.ownsRow w'.heap.size 3 1 _ j (((pathL x n).take j).map (.int .i64)) := hown
      have hown3 := hown2.alloc (.cells #[.int .i64 u] 3)
      have hlit := SlA.lit1 (w := wr.drew) (T := 3) (.int .i64 u)
      have hj8 : j ≤ 8 := by omega
      have HS := hid (take_step (L := pathL x n) (j := j) (HC.out ▸ HP.out) (by have := HJ.out; simpa using this))
      go_wp2_with (first
        | (go_at_call 78; refine hup.mono ?_; rintro e w2 ⟨rfl, rfl⟩)
        | (at_builtin; refine wpList_append_sl _ rfl _ _ 23 rfl w'.heap.size 3 i0 (.int .i64 0) 1 8 Tryd.underlying23 hi hz0 hz1 hz2 rfl (by decide) _ _ _ rfl hown3 _ 1 1 _ rfl hlit (one_int _ _) (by unfold maxLen; omega) (by omega) (by simp; omega) ?_; intro v3 w3 hown4 hg4 _))
      go_roundw
      case rel =>
        refine ⟨j + 1, u, rfl, u0, u1, by omega, ?_, ?_, below_append (below_drew (hbr.alloc (by omega) _)) hg4 hown3 (Nat.le_refl _) (by simp; omega)⟩
        · rw [HS.out.1, List.map_append]
          exact hown4
        · exact HS.out.2
      case measure => simp [intOf]; omega

end Go.Proofs.YtimdohjlhbpmhaaDoor
