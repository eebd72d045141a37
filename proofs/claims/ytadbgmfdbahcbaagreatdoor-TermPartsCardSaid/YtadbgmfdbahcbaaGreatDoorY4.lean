/- the document's layer 3: Show, Size, Atoms. -/
import Derived.Test.YtadbgmfdbahcbaaGreatDoorY3
import Derived.Test.YtadbgmfdbahcbaaGreatDoorP2
namespace Go.Proofs.YtadbgmfdbahcbaaGreatDoor
open Go.RowKit Go.KK Go.Shelf Go.Maps
set_option linter.unusedVariables false
set_option linter.unusedSimpArgs false

/-- Out of an arena: on which side. -/
theorem has_not {xs : List ND} {t : Int} (h : hasB xs t = false) : t < 0 ∨ (0 ≤ t ∧ (xs.length : Int) ≤ t) := by
  rcases Int.lt_or_le t 0 with h1 | h1
  · exact .inl h1
  · refine .inr ⟨h1, ?_⟩
    rcases Int.lt_or_le t (xs.length : Int) with h2 | h2
    · rw [has_iff.2 ⟨h1, h2⟩] at h; cases h
    · exact h2
section
variable (sb : Nat) (xs : List ND)
set_option maxHeartbeats 2000000 in
set_option maxRecDepth 100000 in
theorem rshow_any (w : World) (hA : ArV w 58 sb xs) (hok : Okay xs) (t : Int) :
    Calls Tryz.prog 22 #[.pointer (some ⟨sb, 0, none⟩), .int .i64 t] w fun e w' => e = .returned (.tuple #[.string ⟨(showF xs t).1.toArray⟩, .int .i64 (showF xs t).2]) ∧ Below w.heap.size w w' := by
  obtain ⟨Al, cl, ml, h0, -, -⟩ := hA.parts
  rcases hh : hasB xs t with _ | _
  · have HF := hid (show showF xs t = ([], 4) by unfold showF; rw [hh]; rfl)
    have hn := has_not hh
    clear hh hA
    rcases hn with hneg | ⟨h0', hge⟩
    all_goals
      go_enter Tryz.func22, Tryz.ntmps22
      go_wp2_with fail
      go_ret2
      exact ⟨by first | (rw [HF.out]; rfl) | rfl, Below.refl _ _⟩
  · have h2 := has_iff.1 hh
    obtain ⟨j, rfl⟩ := Int.eq_ofNat_of_zero_le h2.1
    have hj : j < xs.length := by omega
    have hj2 : ¬ (xs.length : Int) ≤ (j : Int) := by omega
    have hj1 : (j : Int) < (xs.length : Int) := by omega
    have hxn := hok.len
    have HR := hid (fun U (hb : Below w.heap.size w U) => rsh_full w sb xs hA hok (j + 1) j (by omega) hj 4000 U (by omega) (by omega) hb)
    have HF := hid (show showF xs (j : Int) = if (showL xs j).length ≤ 4000 then (showL xs j, 0) else ([], 2) by unfold showF; rw [hh]; rfl)
    clear hA hh h2
    go_enter Tryz.func22, Tryz.ntmps22
    go_wp2_with fail
    refine (HR.out _ (Below.refl _ _)).mono ?_
    rintro e w2 ⟨S, rfl, hS, hb⟩
    have HB := hid hb
    clear hb HR
    by_cases hle : (showL xs j).length ≤ 4000
    · have hS' := hid (hS (by omega))
      rw [decide_eq_true (show ((showL xs j).length : Int) ≤ 4000 by omega)]
      have HF2 := hid (show showF xs (j : Int) = (showL xs j, 0) by rw [HF.out, if_pos hle])
      clear hle hS
      go_wp2_with fail
      go_ret2
      exact ⟨by rw [HF2.out, ← hS'.out]; rfl, HB.out⟩
    · rw [decide_eq_false (show ¬ ((showL xs j).length : Int) ≤ 4000 by omega)]
      have HF2 := hid (show showF xs (j : Int) = ([], 2) by rw [HF.out, if_neg hle])
      clear hle hS
      go_wp2_with fail
      go_ret2
      exact ⟨by first | (rw [HF2.out]; rfl) | rfl, HB.out⟩
/-- What Parts leaves, whatever the term. -/
def PrtA (w : World) (t : Int) (e : Ending) (w' : World) : Prop := ∃ (A : Option Addr) (c : Nat) (PL : List Int), e = .returned (.slice A PL.length c) ∧ SlA w' 1 A PL.length c (PL.map (.int .i64)) ∧ (∀ x, x ∈ PL ↔ Rch xs t x) ∧ PL.Nodup ∧ PL.length ≤ xs.length ∧ Below w.heap.size w w'
set_option maxHeartbeats 2000000 in
theorem rparts_all (w : World) (hA : ArV w 58 sb xs) (hok : Okay xs) (t : Int) :
    Calls Tryz.prog 41 #[.pointer (some ⟨sb, 0, none⟩), .int .i64 t] w (PrtA xs w t) := by
  rcases hh : hasB xs t with _ | _
  · have HE := hid (show ∀ x, x ∈ ([] : List Int) ↔ Rch xs t x from fun x => ⟨fun h => by simp at h, fun h => by have := (h.has hok).1; rw [hh] at this; cases this⟩)
    obtain ⟨Al, cl, ml, h0, -, -⟩ := hA.parts
    have hn := has_not hh
    clear hh hA hok
    rcases hn with hneg | ⟨h0', hge⟩
    · have hd0 : decide (t < 0) = true := decide_eq_true hneg
      go_enter Tryz.func41, Tryz.ntmps41
      go_wp2_with fail
      go_ret
      exact ⟨none, 0, [], rfl, SlA.nil _ _, HE.out, List.nodup_nil, Nat.zero_le _, Below.refl _ _⟩
    · have hd0 : decide (t < 0) = false := decide_eq_false (by omega)
      go_enter Tryz.func41, Tryz.ntmps41
      go_wp2_with fail
      go_ret
      exact ⟨none, 0, [], rfl, SlA.nil _ _, HE.out, List.nodup_nil, Nat.zero_le _, Below.refl _ _⟩
  · have h2 := has_iff.1 hh
    obtain ⟨j, rfl⟩ := Int.eq_ofNat_of_zero_le h2.1
    refine (rparts_any sb xs w hA hok j (by omega)).mono ?_
    rintro e w' ⟨A, c, PL, rfl, h3, h4, h5, h6, h7⟩
    refine ⟨A, c, PL, rfl, h3, fun x => (h4 x).trans ⟨fun h => ?_, fun h => ⟨_, by simp, h⟩⟩, h5.imp (fun h => by omega), h6, h7⟩
    obtain ⟨k, hk, h⟩ := h
    rw [List.mem_singleton] at hk
    rw [← hk]; exact h
theorem rsize_any (w : World) (hA : ArV w 58 sb xs) (hok : Okay xs) (t : Int) :
    Calls Tryz.prog 23 #[.pointer (some ⟨sb, 0, none⟩), .int .i64 t] w fun e w' => ∃ n : Nat, e = .returned (.int .i64 n) ∧ SizeIs xs t n ∧ Below w.heap.size w w' := by
  have HP := hid (rparts_all sb xs w hA hok t)
  clear hA hok
  go_enter Tryz.func23, Tryz.ntmps23
  go_wp2_with fail
  refine HP.out.mono ?_
  rintro e w2 ⟨A, c, PL, rfl, h3, h4, h5, h6, h7⟩
  have HM := hid (show SizeIs xs t PL.length from ⟨PL, h5, h4, rfl⟩)
  have HB := hid h7
  clear h3 h4 h5 h6 h7
  generalize PL.length = n at *
  go_wp2_with fail
  go_ret
  exact ⟨n, rfl, HM.out, HB.out⟩
theorem ris_at {xs : List ND} (hok : Okay xs) {t : Int} {PL : List Int} (hm : ∀ x, x ∈ PL ↔ Rch xs t x) : risL (atL xs PL) = atF xs t := by
  refine sorted_ext _ _ (ris_ok _ [] List.Pairwise.nil).1 (atF_lt hok t) fun x => ?_
  rw [atF_mem hok]
  have h := (ris_ok (atL xs PL) [] List.Pairwise.nil).2 x
  unfold risL
  rw [h]
  unfold atL
  simp only [List.not_mem_nil, false_or, List.mem_map, List.mem_filter, beq_iff_eq]
  constructor
  · rintro ⟨k, ⟨h1, h2⟩, h3⟩; exact ⟨k, (hm k).1 h1, h2, h3⟩
  · rintro ⟨k, h1, h2, h3⟩; exact ⟨k, ⟨(hm k).2 h1, h2⟩, h3⟩
set_option maxHeartbeats 4000000 in
set_option maxRecDepth 100000 in
theorem ratoms_any (w : World) (hA : ArV w 58 sb xs) (hok : Okay xs) (t : Int) :
    Calls Tryz.prog 26 #[.pointer (some ⟨sb, 0, none⟩), .int .i64 t] w fun e w' => ∃ v, e = .returned v ∧ RowI w' w.heap.size v (atF xs t) ∧ Below w.heap.size w w' := by
  obtain ⟨i0, hi, hz0, hz1, hz2⟩ := info_parts Tryz.infoInt
  obtain ⟨Al, cl, ml, h0, -, hnd⟩ := hA.parts
  have HP := hid (rparts_all sb xs w hA hok t)
  have HOK := hid hok; have HND := hid hnd; have HC0 := hid h0
  have hxn : xs.length ≤ 100000 := hok.len
  clear hA hok hnd h0
  go_enter Tryz.func26, Tryz.ntmps26
  go_wp2_with fail
  refine HP.out.mono ?_
  rintro e w2 ⟨A, c, PL, rfl, h3, h4, h5, h6, h7⟩
  have HS := hid h3; have HM := hid h4; have HB := hid h7
  clear h3 h4 h5 h7 HP
  go_wp2_with fail
  go_loopw [12, 5] (fun v o wq => ∃ j : Nat, v = .int .i64 j ∧ j ≤ PL.length ∧ Hid (wq.ownsRow w2.heap.size 3 1 o (atL xs (PL.take j)).length ((atL xs (PL.take j)).map (.int .i64)) ∧ Below w2.heap.size w2 wq)) (fun v _ _ => PL.length - (intOf v).toNat)
  case atStart => exact ⟨0, rfl, Nat.zero_le _, hid ⟨World.ownsRow_nil _ _ _ _, Below.refl _ _⟩⟩
  case round =>
    obtain ⟨j, hv, hj, HQ⟩ := hrel
    subst hv
    obtain ⟨Ao, co, rfl, -⟩ := SlA.owned HQ.out.1
    by_cases hlt : j < PL.length
    · have hlt' : (j : Int) < (PL.length : Int) := by omega
      obtain ⟨bq, oq, y, rfl, hy, hcy⟩ := (HS.out.ext HQ.out.2).elemI hlt
      have hyh := has_iff.1 (((HM.out y).1 (List.mem_of_getElem? hy)).has HOK.out).2.1
      obtain ⟨q, rfl⟩ := Int.eq_ofNat_of_zero_le hyh.1
      have hyx : (q : Int) < (xs.length : Int) := hyh.2
      have HPS := hid (show atL xs (PL.take (j + 1)) = if (nodeF xs (q : Int)).o = 1 then atL xs (PL.take j) ++ [(nodeF xs (q : Int)).n] else atL xs (PL.take j) by rw [take_one hy, atL_snoc])
      have HPL := hid (show (atL xs (PL.take j)).length ≤ j from Nat.le_trans (atL_len _ _) (by rw [List.length_take]; omega))
      have HBQ := hid (HB.out.trans (HQ.out.2.mono HB.out.size))
      obtain ⟨bn, on, An, cn, rfl, hcz⟩ := rnode_cells xs HND.out (t := q) (by omega)
      obtain ⟨y0, y1, -⟩ := hcz _ HBQ.out
      have c0 := (HBQ.out.cell (p := ⟨sb, 0, none⟩) (block_lt_of_cell HC0.out)).trans HC0.out
      have HOW := hid HQ.out.1
      have HBL := hid HQ.out.2
      clear hcz hy hyh HQ
      generalize atL xs (PL.take j) = pj at *
      generalize (nodeF xs (q : Int)).n = nn at *
      by_cases ho : (nodeF xs (q : Int)).o = 1
      · rw [ho] at y0
        have HP1 := hid (show atL xs (PL.take (j + 1)) = pj ++ [nn] by rw [HPS.out, if_pos ho])
        clear HPS ho
        go_wp2_with (first
          | (at_builtin; refine wpList_append_sl _ rfl _ _ 27 rfl _ 3 i0 (.int .i64 0) 1 8 Tryz.underlying27 hi hz0 hz1 hz2 rfl (by decide) (.slice Ao pj.length co) pj.length (pj.map (.int .i64)) rfl (HOW.out.alloc _) _ 1 1 [.int .i64 nn] rfl (SlA.lit1 _) (one_int _ _) (by have := HPL.out; unfold maxLen; omega) (by have := HPL.out; omega) (by have := HBL.out.size; simp; omega) ?_; intro v5 w5 own5 gr5 loc5; have HO5 := hid own5; have HB5 := hid (below_append (HBL.out.alloc HBL.out.size (.cells #[.int .i64 nn] 3)) gr5 (HOW.out.alloc _) (Nat.le_refl _) (by have := HBL.out.size; simp; omega)); clear own5 gr5 loc5)
          | fail)
        go_roundw
        case rel => exact ⟨j + 1, by go_num, by omega, hid ⟨by rw [HP1.out, List.length_append, List.map_append]; exact HO5.out, HB5.out⟩⟩
        case measure => simp [intOf]; omega
      · have HP1 := hid (show atL xs (PL.take (j + 1)) = pj by rw [HPS.out, if_neg ho])
        have hb1 : ((nodeF xs (q : Int)).o == 1) = false := beq_eq_false_iff_ne.2 ho
        clear HPS ho
        go_wp2_with fail
        go_roundw
        case rel => exact ⟨j + 1, by go_num, by omega, hid ⟨by rw [HP1.out]; exact HOW.out, HBL.out⟩⟩
        case measure => simp [intOf]; omega
    · obtain rfl : j = PL.length := by omega
      have hlt' : ¬ (PL.length : Int) < (PL.length : Int) := by omega
      have HRA := hid (show risL (atL xs (PL.take PL.length)) = atF xs t by rw [List.take_length]; exact ris_at HOK.out HM.out)
      have HPL := hid (show (atL xs (PL.take PL.length)).length ≤ 100000 from Nat.le_trans (atL_len _ _) (by rw [List.take_length]; omega))
      have HSO := hid (SlA.of_own HQ.out.1).2
      have HBQ := hid (HB.out.trans (HQ.out.2.mono HB.out.size))
      clear HQ
      generalize atL xs (PL.take PL.length) = F at *
      go_wp2_with fail
      refine (rising_any Ao _ co F _ HSO.out HPL.out).mono ?_
      rintro e w9 ⟨v9, rfl, o9, b9⟩
      have HB9 := hid (HBQ.out.trans (b9.mono HBQ.out.size))
      rw [HRA.out] at o9
      have HO9 := hid (own_mono o9 HBQ.out.size)
      clear o9 b9
      go_wp2_with fail
      go_ret
      exact ⟨v9, rfl, HO9.out, HB9.out⟩
end
end Go.Proofs.YtadbgmfdbahcbaaGreatDoor
