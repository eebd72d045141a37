/- the document's term: May, walked (2). -/
import Derived.Test.YtkgobglmkhkbbaaGreatDoorRF
namespace Go.Proofs.YtkgobglmkhkbbaaGreatDoor
open Go.RowKit Go.KK Go.Shelf
set_option linter.unusedVariables false
set_option linter.unusedSimpArgs false

set_option maxHeartbeats 8000000 in
set_option maxRecDepth 20000 in
theorem rmay_good (st : Nat) (xs : List ND) (x : ND) (A : Option Addr) (c : Nat) (w : World) (h : ArV w 104 st xs) (hl : SlA w 1 A x.l.length c (x.l.map (.int .i64))) (hb : shB x = true) :
    Calls Tryz.prog 104 #[.pointer (some ⟨st, 0, none⟩), .agg #[.int .i64 x.o, .int .i64 x.n, .string x.s, .slice A x.l.length c]] w fun e w' => e = .returned (.bool (mayB xs x)) ∧ Below w.heap.size w w' := by
  have H := hid h; have HS := hid hl
  have HM := hid (len_eqR x.o x.l.length)
  have B0 := hid (show Below w.heap.size w (w.alloc (.cells #[.int .i64 x.o, .int .i64 x.n, .string x.s, .slice A x.l.length c] 88)) from (Below.refl _ _).alloc (by simp) _)
  have hu : mayB xs x = (lenB x.o x.l.length && decide (x.l.length ≤ 64) && decide (0 ≤ x.n) && decide (x.s.size ≤ 200) && (x.o == 1 || x.n == 0) && (x.o == 2 || x.s.size == 0) && x.l.all (hasB xs) && (x.o != 6 || opAt xs (x.l.getD 1 0) == 2)) := rfl
  have C0 := hid (show let W := w.alloc (.cells #[.int .i64 x.o, .int .i64 x.n, .string x.s, .slice A x.l.length c] 88)
    W.cell? ⟨w.heap.size, 0, none⟩ = some (.int .i64 x.o) ∧ W.cell? ⟨w.heap.size, 1, none⟩ = some (.int .i64 x.n) ∧ W.cell? ⟨w.heap.size, 2, none⟩ = some (.string x.s) ∧ W.cell? ⟨w.heap.size, 3, none⟩ = some (.slice A x.l.length c) ∧ w.heap.size < W.heap.size by
      refine ⟨?_, ?_, ?_, ?_, by simp⟩
      all_goals (rw [World.cell?_alloc_at _ _ _ _ (by simp)]; rfl))
  clear h hl hu
  go_enter Tryz.func104, Tryz.ntmps104
  go_wp2_with fail
  refine (rarity_any x.o _).mono ?_
  rintro e1 w1 ⟨rfl, hw1⟩
  subst w1
  have B1 := B0
  obtain ⟨k0, k1, k2, k3, hlt⟩ := C0.out
  generalize w.alloc (.cells #[.int .i64 x.o, .int .i64 x.n, .string x.s, .slice A x.l.length c] 88) = w1 at *
  have H1 := hid (H.out.ext B1.out)
  have HS1 := hid (HS.out.ext B1.out)
  clear hlt C0 B0 H HS
  have HK := hid (show 0 ≤ arR x.o ∨ arR x.o = -1 by unfold arR; rcases arN x.o with _ | k; exact .inr rfl; exact .inl (Int.natCast_nonneg k))
  have HR := hid (show mayB xs x = (x.l.all (hasB xs) && (x.o != 6 || opAt xs (x.l.getD 1 0) == 2)) by
    have : mayB xs x = (shB x && x.l.all (hasB xs) && (x.o != 6 || opAt xs (x.l.getD 1 0) == 2)) := rfl
    rw [this, hb]; rfl)
  have hsh := hb
  unfold shB at hsh
  simp only [Bool.and_eq_true, Bool.or_eq_true, decide_eq_true_eq, beq_iff_eq] at hsh
  obtain ⟨⟨⟨⟨⟨hs1, hs2⟩, hs3⟩, hs4⟩, hs5⟩, hs6⟩ := hsh
  have hcase : ((arR x.o < 0 ∧ (x.o != 3) = false) ∨ (0 ≤ arR x.o ∧ ((x.l.length : Int) != arR x.o) = false)) := by
    rw [HM.out] at hs1
    rcases HK.out with h | h
    · right
      refine ⟨h, ?_⟩
      rw [decide_eq_true h] at hs1
      rcases hq : ((x.l.length : Int) != arR x.o) with _ | _
      · rfl
      · rw [hq] at hs1; simp at hs1
    · left
      refine ⟨by omega, ?_⟩
      rw [h] at hs1
      rcases hq : (x.o != 3) with _ | _
      · rfl
      · rw [hq] at hs1; simp at hs1
  have HL := hid hs1
  have hc2 : ((x.o != 1) = false ∧ (x.o != 2) = true ∧ x.s.toList.isEmpty = true) ∨ ((x.o != 1) = true ∧ (x.n != 0) = false ∧ (x.o != 2) = false) ∨ ((x.o != 1) = true ∧ (x.n != 0) = false ∧ (x.o != 2) = true ∧ x.s.toList.isEmpty = true) := by
    by_cases h1 : x.o = 1
    · exact .inl ⟨by rw [h1]; rfl, by rw [h1]; rfl, none_yes (by omega)⟩
    · by_cases h2 : x.o = 2
      · exact .inr (.inl ⟨by rw [h2]; rfl, by rw [bne_eq_false_iff_eq]; omega, by rw [h2]; rfl⟩)
      · exact .inr (.inr ⟨bne_iff_ne.2 h1, by rw [bne_eq_false_iff_eq]; omega, bne_iff_ne.2 h2, none_yes (by omega)⟩)
  have hc4 : (arR x.o < 0 ∧ (x.o != 3) = false) → ((x.o != 1) = true ∧ (x.n != 0) = false ∧ (x.o != 2) = true ∧ x.s.toList.isEmpty = true) := fun ⟨_, h⟩ => by
    rw [bne_eq_false_iff_eq] at h
    exact ⟨by rw [h]; rfl, by rw [bne_eq_false_iff_eq]; omega, by rw [h]; rfl, none_yes (by omega)⟩
  have a4' : ¬ (64 : Int) < (x.l.length : Int) := by omega
  have a5 : ¬ x.n < 0 := by omega
  have a6' : ¬ (200 : Int) < (x.s.size : Int) := by omega
  have hlen : x.l.length ≤ 2147483648 := by omega
  clear hs1 hs2 hs3 hs4 hs5 hs6 hb HK
  generalize arR x.o = K at *
  have hc : ((K < 0 ∧ (x.o != 3) = false) ∧ ((x.o != 1) = true ∧ (x.n != 0) = false ∧ (x.o != 2) = true ∧ x.s.toList.isEmpty = true)) ∨ ((0 ≤ K ∧ ((x.l.length : Int) != K) = false) ∧ (((x.o != 1) = false ∧ (x.o != 2) = true ∧ x.s.toList.isEmpty = true) ∨ ((x.o != 1) = true ∧ (x.n != 0) = false ∧ (x.o != 2) = false) ∨ ((x.o != 1) = true ∧ (x.n != 0) = false ∧ (x.o != 2) = true ∧ x.s.toList.isEmpty = true))) := by
    rcases hcase with h | h
    · exact .inl ⟨h, hc4 h⟩
    · exact .inr ⟨h, hc2⟩
  clear hcase hc2 hc4
  rcases hc with ⟨⟨q1, q2⟩, p1, p2, p3, p4⟩ | ⟨⟨q1, q2⟩, ⟨p1, p2, p3⟩ | ⟨p1, p2, p3⟩ | ⟨p1, p2, p3, p4⟩⟩
  all_goals
    go_wp2_with fail
    go_loopw [69] (fun i wr => ∃ j : Nat, i = .int .i64 j ∧ j ≤ x.l.length ∧ Hid (x.l.all (hasB xs) = (x.l.drop j).all (hasB xs)) ∧ wr = w1) (fun i _ => x.l.length - (intOf i).toNat)
    case atStart => exact ⟨0, rfl, by omega, hid rfl, rfl⟩
    case round =>
      obtain ⟨j, hi, hj, HJ, hw⟩ := hrel
      subst hi
      subst wr
      clear p1 p2 p3 q1 q2
      obtain ⟨A', c', m', q0, qm, hnd⟩ := H1.out.parts
      have HND := hid hnd
      clear hnd
      by_cases hltj : j < x.l.length
      · obtain ⟨bz, oz, z, hA, hz, hcz⟩ := HS1.out.elemI hltj
        subst hA
        have HD := hid (drop_get hz); clear hz
        by_cases hz0 : z < 0
        · have HF := hid (show mayB xs x = false by
            rw [HR.out, HJ.out, HD.out, List.all_cons, show hasB xs z = false by unfold hasB; rw [decide_eq_false (by omega : ¬ 0 ≤ z)]; rfl]; rfl)
          go_wp2_with fail
          go_ret
          exact ⟨by rw [HF.out]; rfl, B1.out⟩
        · by_cases hz1 : (xs.length : Int) ≤ z
          · have HF := hid (show mayB xs x = false by
              rw [HR.out, HJ.out, HD.out, List.all_cons, show hasB xs z = false by unfold hasB; rw [decide_eq_false (by omega : ¬ z < (xs.length : Int))]; simp]; rfl)
            go_wp2_with fail
            go_ret
            exact ⟨by rw [HF.out]; rfl, B1.out⟩
          · have HF := hid (show x.l.all (hasB xs) = (x.l.drop (j + 1)).all (hasB xs) by
              rw [HJ.out, HD.out, List.all_cons, show hasB xs z = true by unfold hasB; rw [decide_eq_true (by omega : z < (xs.length : Int)), decide_eq_true (by omega : 0 ≤ z)]; rfl]; rfl)
            go_wp2_with fail
            go_roundw
            case rel => exact ⟨j + 1, by go_num, by omega, HF, by first | rfl | trivial⟩
            case measure => simp [intOf]; omega
      · have hall : x.l.all (hasB xs) = true := by rw [HJ.out, List.drop_of_length_le (by omega)]; rfl
        by_cases h6 : x.o = 6
        · have h6' : (x.o != 6) = false := by rw [bne_eq_false_iff_eq]; exact h6
          have hl3 : x.l.length = 3 := by
            have := HL.out
            rw [h6] at this
            simpa [lenB, arN] using this
          obtain ⟨bx, ox, z, hA, hz, hcz⟩ := HS1.out.elemI (k := 1) (by omega)
          have hhz : hasB xs z = true := List.all_eq_true.1 hall z (List.mem_of_getElem? hz)
          unfold hasB at hhz
          simp only [Bool.and_eq_true, decide_eq_true_eq] at hhz
          obtain ⟨hz0, hz1⟩ := hhz
          obtain ⟨k, rfl⟩ := Int.eq_ofNat_of_zero_le hz0
          obtain ⟨bn, on, y, Ay, cy, hA', hy, y0, y1, y2, y3, -⟩ := HND.out.at (j := k) (by omega)
          have HF := hid (show mayB xs x = (y.o == 2) by
            rw [HR.out, hall, h6, List.getD, hz]
            show (_ && opAt xs (k : Int) == 2) = _
            unfold opAt
            rw [Int.toNat_natCast, hy]
            rfl)
          subst hA
          subst hA'
          clear hall hz hy h6
          go_wp2_with fail
          go_quiet (fail)
          go_wp2
          go_ret
          exact ⟨by rw [HF.out]; rfl, below_drewN B1.out _⟩
        · have h6' : (x.o != 6) = true := bne_iff_ne.2 h6
          have HF := hid (show mayB xs x = true by rw [HR.out, hall, h6']; rfl)
          clear hall h6
          go_wp2_with fail
          go_quiet (fail)
          go_wp2
          go_ret
          exact ⟨by rw [HF.out]; rfl, below_drewN B1.out _⟩
theorem rmay_any (st : Nat) (xs : List ND) (x : ND) (A : Option Addr) (c : Nat) (w : World) (h : ArV w 104 st xs) (hl : SlA w 1 A x.l.length c (x.l.map (.int .i64))) :
    Calls Tryz.prog 104 #[.pointer (some ⟨st, 0, none⟩), .agg #[.int .i64 x.o, .int .i64 x.n, .string x.s, .slice A x.l.length c]] w fun e w' => e = .returned (.bool (mayB xs x)) ∧ Below w.heap.size w w' := by
  rcases hb : shB x with _ | _
  · exact rmay_bad st xs x A c w h hl hb
  · exact rmay_good st xs x A c w h hl hb
end Go.Proofs.YtkgobglmkhkbbaaGreatDoor
