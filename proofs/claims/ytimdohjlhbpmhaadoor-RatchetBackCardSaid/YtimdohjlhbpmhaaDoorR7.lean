/- ratchet: whether a tree may be, as one answer; who is in it; a tree copied. -/
import Derived.Test.YtimdohjlhbpmhaaDoorR6
import Derived.Test.YtimdohjlhbpmhaaDoorT2
import Derived.Test.YtimdohjlhbpmhaaDoorK2
namespace Go.Proofs.YtimdohjlhbpmhaaDoor
open Go.RowKit Go.KK
set_option linter.unusedVariables false
set_option linter.unusedSimpArgs false

def chkE (xs : List TN) : Int := if chkB xs then 0 else 1
theorem chk_any (A : Option Addr) (n c : Nat) (xs : List TN) (w : World) (h : Tr w A n c xs) (hnm : n ≤ 600) (hT : Tab w) (hu : Shorts xs) :
    Calls Tryd.prog 29 #[.slice A n c] w fun e w' => e = .returned (.int .i64 (chkE xs)) ∧ Below w.heap.size w w' := by
  have hl := h.len
  rcases hf : fullN (lvN n) with _ | _
  · have hc : chkE xs = 1 := by unfold chkE chkB; rw [hl, hf]; rfl
    rw [hc]; exact check_no A n c xs w h hnm (.inl hf)
  · by_cases hn : 2 * (lvN n : Int) - 1 = n
    · rcases hh : halfB xs with _ | _
      · have hc : chkE xs = allR xs := by
          unfold chkE chkB allR
          rw [hl, hf, hh, hn]
          simp
        rw [hc]; exact check_go A n c xs w h hnm hf hn hh hT hu
      · have hc : chkE xs = 1 := by unfold chkE chkB; rw [hh]; simp
        rw [hc]; exact check_no A n c xs w h hnm (.inr (.inr ⟨hf, hn, hh⟩))
    · have hc : chkE xs = 1 := by
        unfold chkE chkB
        rw [hl, show (2 * (lvN n : Int) - 1 == (n : Int)) = false from beq_eq_false_iff_ne.2 hn]
        simp
      rw [hc]; exact check_no A n c xs w h hnm (.inr (.inl ⟨hf, hn⟩))
theorem chk_full {xs : List TN} (h : chkB xs = true) : fullN (lvN xs.length) = true ∧ 2 * (lvN xs.length : Int) - 1 = (xs.length : Int) ∧ halfB xs = false ∧ ∀ k, k < xs.length → okAt xs k = true := by
  unfold chkB at h
  simp only [Bool.and_eq_true, beq_iff_eq, Bool.not_eq_true', List.all_eq_true, List.mem_range] at h
  exact ⟨h.1.1.1, h.1.1.2, h.1.2, h.2⟩

/-- Who is in a tree. -/
def memL (xs : List TN) (j : Nat) : List Int := ((List.range j).map fun i : Nat => (i : Int)).filter (pres xs)
def mems (xs : List TN) : List Int := if chkB xs then memL xs (lvN xs.length) else []
theorem memL_le (xs : List TN) (j : Nat) : (memL xs j).length ≤ j := by
  unfold memL
  have := List.length_filter_le (pres xs) ((List.range j).map fun i : Nat => (i : Int))
  rw [List.length_map, List.length_range] at this
  exact this
theorem memL_yes {xs : List TN} {j : Nat} (h : pres xs (j : Int) = true) : memL xs (j + 1) = memL xs j ++ [(j : Int)] := by
  unfold memL
  rw [List.range_succ, List.map_append, List.filter_append]
  congr 1
  exact List.filter_cons_of_pos h
theorem memL_no {xs : List TN} {j : Nat} (h : pres xs (j : Int) = false) : memL xs (j + 1) = memL xs j := by
  unfold memL
  rw [List.range_succ, List.map_append, List.filter_append]
  have : List.filter (pres xs) (List.map (fun i : Nat => (i : Int)) [j]) = [] := by
    rw [List.map_cons, List.filter_cons_of_neg (by rw [h]; decide)]; rfl
  rw [this, List.append_nil]
set_option maxHeartbeats 1000000 in
theorem members_any (A : Option Addr) (n c : Nat) (xs : List TN) (w : World) (h : Tr w A n c xs) (hnm : n ≤ 600) (hT : Tab w) (hu : Shorts xs) :
    Calls Tryd.prog 32 #[.slice A n c] w fun e w' => ∃ v, e = .returned v ∧ w'.ownsRow w.heap.size 3 1 v (mems xs).length ((mems xs).map (.int .i64)) ∧ Below w.heap.size w w' := by
  have H0 := hid h; have HT := hid hT; have HU := hid hu
  have HL := hid h.len
  clear h hT hu
  rcases hc : chkB xs with _ | _
  · have he : chkE xs = 1 := by unfold chkE; rw [hc]; rfl
    have HM := hid (show mems xs = [] by unfold mems; rw [hc]; rfl)
    go_enter Tryd.func32, Tryd.ntmps32
    go_wp2_with (go_at_call 29; refine (chk_any _ n c xs _ H0.out hnm HT.out HU.out).mono ?_; rintro e1 w1 ⟨rfl, hb1⟩; rw [he])
    go_ret
    refine ⟨_, rfl, ?_, hb1⟩
    rw [HM.out]
    exact World.ownsRow_nil _ _ _ _
  · have he : chkE xs = 0 := by unfold chkE; rw [hc]; rfl
    have HM := hid (show mems xs = memL xs (lvN n) by unfold mems; rw [hc, HL.out]; rfl)
    clear hc
    obtain ⟨i0, hi, hz0, hz1, hz2⟩ := info_parts Tryd.infoInt
    have hN : lvN n ≤ 301 := by unfold lvN; omega
    go_enter Tryd.func32, Tryd.ntmps32
    go_wp2_with (first
      | (go_at_call 29; refine (chk_any _ n c xs _ H0.out hnm HT.out HU.out).mono ?_; rintro e1 w1 ⟨rfl, hb1⟩; rw [he]; have HB := hid hb1; clear hb1)
      | (go_at_call 36; refine (leavesT_any _ n c _ hnm).mono ?_; rintro e w' ⟨rfl, hw'⟩; subst w'))
    go_loopw [10, 3] (fun i v wr => ∃ j : Nat, i = .int .i64 j ∧ j ≤ lvN n ∧ wr.ownsRow w.heap.size 3 1 v (memL xs j).length ((memL xs j).map (.int .i64)) ∧ Below w.heap.size w wr) (fun i _ _ => lvN n - (intOf i).toNat)
    case atStart => exact ⟨0, rfl, by omega, World.ownsRow_nil _ _ _ _, HB.out⟩
    case round =>
      obtain ⟨j, hi1, hj, hown, hbr⟩ := hrel
      subst hi1
      have HBr := hid hbr; clear hbr
      by_cases hlt : j < lvN n
      · rcases hp : pres xs (j : Int) with _ | _
        · have HJ := hid (memL_no hp)
          go_wp2_with (go_at_call 35; refine (present_any _ n c xs _ _ (H0.out.ext HBr.out) hnm).mono ?_; rintro e w' ⟨rfl, hw'⟩; subst w'; rw [hp])
          go_roundw
          case rel => exact ⟨j + 1, by go_num, by omega, by rw [HJ.out]; exact hown, HBr.out⟩
          case measure => simp [intOf]; omega
        · have HJ := hid (memL_yes hp)
          have hml := memL_le xs j
          have hz := HBr.out.size
          have hown3 := hown.alloc (.cells #[.int .i64 j] 3)
          have hlit := SlA.lit1 (w := wr) (T := 3) (.int .i64 j)
          go_wp2_with (first
            | (go_at_call 35; refine (present_any _ n c xs _ _ (H0.out.ext HBr.out) hnm).mono ?_; rintro e w' ⟨rfl, hw'⟩; subst w'; rw [hp])
            | (at_builtin; refine wpList_append_sl _ rfl _ _ 23 rfl w.heap.size 3 i0 (.int .i64 0) 1 8 Tryd.underlying23 hi hz0 hz1 hz2 rfl (by decide) _ _ _ rfl hown3 _ 1 1 _ rfl hlit (one_int _ _) (by unfold maxLen; omega) (by omega) (by simp; omega) ?_; intro v3 w3 hown4 hg4 _))
          go_roundw
          case rel =>
            refine ⟨j + 1, by go_num, by omega, ?_, below_append (HBr.out.alloc hz _) hg4 hown3 (Nat.le_refl _) (by simp; omega)⟩
            rw [HJ.out, List.map_append, List.length_append]
            exact hown4
          case measure => simp [intOf]; omega
      · have hjn : j = lvN n := by omega
        have HJ := hid hjn; clear hjn
        go_wp2
        go_ret
        refine ⟨_, rfl, ?_, HBr.out⟩
        rw [HM.out, ← HJ.out]
        exact hown

end Go.Proofs.YtimdohjlhbpmhaaDoor
