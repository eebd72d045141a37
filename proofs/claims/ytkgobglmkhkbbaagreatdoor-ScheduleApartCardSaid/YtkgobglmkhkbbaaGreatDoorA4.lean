/- term: whether a node may be, walked. -/
import Derived.Test.YtkgobglmkhkbbaaGreatDoorA3
import Derived.Deep.Cut
namespace Go.Proofs.YtkgobglmkhkbbaaGreatDoor
open Go.RowKit Go.KK Go.Shelf
set_option linter.unusedVariables false
set_option linter.unusedSimpArgs false

theorem drop_get {α : Type} {l : List α} {j : Nat} {x : α} (h : l[j]? = some x) : l.drop j = x :: l.drop (j + 1) := by
  obtain ⟨hj, rfl⟩ := List.getElem?_eq_some_iff.1 h
  exact List.drop_eq_getElem_cons hj
set_option maxHeartbeats 1000000 in
theorem ixf_may (st b : Nat) (xs : List ND) (A : Option Addr) (n c : Nat) (l : List Int) (w : World) (h : ArV w 124 st xs) (hb : w.cell? ⟨b, 0, none⟩ = some (.pointer (some ⟨st, 0, none⟩))) (hl : SlA w 1 A n c (l.map (.int .i64))) (hn : n ≤ 2147483648) :
    Calls Tryz.prog 114 #[.slice A n c, .func (.func 111) #[] #[.pointer (some ⟨b, 0, none⟩)]] w fun e w' => (∃ k : Int, e = .returned (.int .i64 k) ∧ decide (0 ≤ k) = !l.all (hasB xs)) ∧ w' = w := by
  have H := hid h; have HB := hid hb; have HS := hid hl; have HL := hid hl.lenI
  clear h hb hl
  go_enter Tryz.func114, Tryz.ntmps114
  go_wp2
  go_loopw [8] (fun i wr => ∃ j : Nat, i = .int .i64 j ∧ j ≤ n ∧ Hid (l.all (hasB xs) = (l.drop j).all (hasB xs)) ∧ wr = w) (fun i _ => n - (intOf i).toNat)
  case atStart => exact ⟨0, rfl, by omega, hid rfl, rfl⟩
  case round =>
    obtain ⟨j, hi, hj, HJ, hw⟩ := hrel
    subst hi; subst hw
    by_cases hlt : j < n
    · obtain ⟨b1, o, z, rfl, hz, hc⟩ := HS.out.elemI hlt
      have HD := hid (drop_get hz); clear hz
      rcases hh : hasB xs z with _ | _
      · have HF := hid (show l.all (hasB xs) = false by rw [HJ.out, HD.out, List.all_cons, hh]; rfl)
        go_wp2_with (go_at_call 111; refine (may1_any st b xs z _ H.out HB.out).mono ?_; rintro e w' ⟨rfl, hw'⟩; subst hw'; rw [hh])
        go_ret
        exact ⟨⟨j, rfl, by rw [HF.out, decide_eq_true (by omega)]; rfl⟩, rfl⟩
      · have HF := hid (show l.all (hasB xs) = (l.drop (j + 1)).all (hasB xs) by rw [HJ.out, HD.out, List.all_cons, hh]; rfl)
        go_wp2_with (go_at_call 111; refine (may1_any st b xs z _ H.out HB.out).mono ?_; rintro e w' ⟨rfl, hw'⟩; subst hw'; rw [hh])
        go_roundw
        case rel => exact ⟨j + 1, by go_num, by omega, HF, by first | rfl | trivial⟩
        case measure => simp [intOf]; omega
    · have HF := hid (show l.all (hasB xs) = true by rw [HJ.out, List.drop_of_length_le (by have := HL.out; omega)]; rfl)
      go_wp2
      go_ret
      exact ⟨⟨-1, rfl, by rw [HF.out]; rfl⟩, rfl⟩
theorem ctf_may (st b : Nat) (xs : List ND) (A : Option Addr) (n c : Nat) (l : List Int) (w : World) (h : ArV w 124 st xs) (hb : w.cell? ⟨b, 0, none⟩ = some (.pointer (some ⟨st, 0, none⟩))) (hl : SlA w 1 A n c (l.map (.int .i64))) (hn : n ≤ 2147483648) :
    Calls Tryz.prog 98 #[.slice A n c, .func (.func 111) #[] #[.pointer (some ⟨b, 0, none⟩)]] w fun e w' => e = .returned (.bool (!l.all (hasB xs))) ∧ w' = w := by
  have HX := hid (ixf_may st b xs A n c l w h hb hl hn)
  clear h hb hl
  go_enter Tryz.func98, Tryz.ntmps98
  go_wp2_with fail
  refine HX.out.mono ?_
  rintro e w' ⟨⟨k, rfl, hk⟩, hw⟩
  subst hw
  have HK := hid hk
  clear hk
  go_wp2
  go_ret
  exact ⟨by rw [← HK.out]; rfl, rfl⟩

theorem len_eq (o : Int) (n : Nat) : lenB o n = !((arP o == -2) || (decide (0 ≤ arP o) && ((n : Int) != arP o))) := by
  unfold arP lenB
  rcases arN o with _ | k
  · by_cases h : o = 3
    · rw [h]; rfl
    · simp [h]
  · by_cases hk : n = k
    · subst hk
      simp
    · have h2 : ((n : Int) != (k : Int)) = true := bne_iff_ne.2 (by omega)
      have h3 : (n == k) = false := beq_eq_false_iff_ne.2 hk
      simp [h2, h3]
theorem str_none {s : ByteArray} (h : s.size = 0) : s = ⟨#[]⟩ := by
  obtain ⟨s⟩ := s
  have : s = #[] := Array.eq_empty_of_size_eq_zero h
  rw [this]
theorem none_yes {s : ByteArray} (h : s.size = 0) : s.toList.isEmpty = true := by rw [str_none h]; simp
theorem none_no {s : ByteArray} (h : ¬ s.size = 0) : s.toList.isEmpty = false := by
  have h1 : (s.toList == (⟨#[]⟩ : ByteArray).toList) = false := by
    rw [← beq_toListBytes, Bool.eq_false_iff]
    intro e
    rw [Go.MapKept.bytes_beq] at e
    rw [e] at h
    exact h rfl
  rcases hl : s.toList with _ | ⟨b, l⟩
  · rw [hl] at h1; simp at h1
  · rfl
set_option maxHeartbeats 8000000 in
set_option maxRecDepth 20000 in
theorem may_any (st : Nat) (xs : List ND) (x : ND) (A : Option Addr) (c : Nat) (w : World) (h : ArV w 124 st xs) (hl : SlA w 1 A x.l.length c (x.l.map (.int .i64))) :
    Calls Tryz.prog 91 #[.pointer (some ⟨st, 0, none⟩), .agg #[.int .i64 x.o, .int .i64 x.n, .string x.s, .slice A x.l.length c]] w fun e w' => e = .returned (.bool (mayB xs x)) ∧ Below w.heap.size w w' := by
  have H := hid h; have HS := hid hl
  have HM := hid (len_eq x.o x.l.length)
  have B0 := hid (show Below w.heap.size w ((w.alloc (.cells #[.pointer (some ⟨st, 0, none⟩)] 25)).alloc (.cells #[.int .i64 x.o, .int .i64 x.n, .string x.s, .slice A x.l.length c] 88)) from ((Below.refl _ _).alloc (Nat.le_refl _) _).alloc (by simp) _)
  have hu : mayB xs x = (lenB x.o x.l.length && decide (x.l.length ≤ 64) && decide (0 ≤ x.n) && decide (x.s.size ≤ 200) && (x.o == 1 || x.n == 0) && (x.o == 2 || x.s.size == 0) && x.l.all (hasB xs) && (x.o != 6 || opAt xs (x.l.getD 1 0) == 2)) := rfl
  have HU := hid hu
  have C0 := hid (show let W := (w.alloc (.cells #[.pointer (some ⟨st, 0, none⟩)] 25)).alloc (.cells #[.int .i64 x.o, .int .i64 x.n, .string x.s, .slice A x.l.length c] 88)
    W.cell? ⟨w.heap.size, 0, none⟩ = some (.pointer (some ⟨st, 0, none⟩)) ∧ W.cell? ⟨w.heap.size + 1, 0, none⟩ = some (.int .i64 x.o) ∧ W.cell? ⟨w.heap.size + 1, 1, none⟩ = some (.int .i64 x.n) ∧ W.cell? ⟨w.heap.size + 1, 2, none⟩ = some (.string x.s) ∧ W.cell? ⟨w.heap.size + 1, 3, none⟩ = some (.slice A x.l.length c) ∧ w.heap.size + 1 < W.heap.size by
      refine ⟨?_, ?_, ?_, ?_, ?_, by simp⟩
      · rw [World.cell?_alloc_old _ _ _ (by simp), World.cell?_alloc_at _ _ _ _ rfl]; rfl
      all_goals (rw [World.cell?_alloc_at _ _ _ _ (by simp)]; rfl))
  clear h hl hu
  go_enter Tryz.func91, Tryz.ntmps91
  go_wp2_with fail
  refine (arity_any x.o _).mono ?_
  rintro e1 w1 ⟨rfl, b1⟩
  have B1 := hid (B0.out.trans (b1.mono B0.out.size))
  obtain ⟨c0, c1, c2, c3, c4, hlt⟩ := C0.out
  have kp := (b1.cell (p := ⟨w.heap.size, 0, none⟩) (by simp only at hlt ⊢; omega)).trans c0
  have k0 := (b1.cell (p := ⟨w.heap.size + 1, 0, none⟩) hlt).trans c1
  have k1 := (b1.cell (p := ⟨w.heap.size + 1, 1, none⟩) hlt).trans c2
  have k2 := (b1.cell (p := ⟨w.heap.size + 1, 2, none⟩) hlt).trans c3
  have k3 := (b1.cell (p := ⟨w.heap.size + 1, 3, none⟩) hlt).trans c4
  have H1 := hid (H.out.ext B1.out)
  have HS1 := hid (HS.out.ext B1.out)
  clear b1 c0 c1 c2 c3 c4 hlt C0 B0 H HS
  generalize hK : arP x.o = K at *
  clear hK
  by_cases a1 : K = -2
  · have HF := hid (show mayB xs x = false by rw [HU.out, HM.out, a1]; rfl)
    subst a1
    go_wp2_with fail
    go_ret
    exact ⟨by rw [HF.out]; rfl, B1.out⟩
  have a1' : (K == -2) = false := beq_eq_false_iff_ne.2 a1
  by_cases a2 : 0 ≤ K ∧ (x.l.length : Int) ≠ K
  · have a2' : ((x.l.length : Int) != K) = true := bne_iff_ne.2 a2.2
    have HF := hid (show mayB xs x = false by rw [HU.out, HM.out, a1', decide_eq_true a2.1, a2']; rfl)
    have a3 := a2.1
    clear a2
    go_wp2_with fail
    go_ret
    exact ⟨by rw [HF.out]; rfl, B1.out⟩
  have HL := hid (show lenB x.o x.l.length = true by
    rw [HM.out, a1']
    by_cases h0 : 0 ≤ K
    · rw [show ((x.l.length : Int) != K) = false from by rw [bne_eq_false_iff_eq]; omega]; simp
    · rw [decide_eq_false h0]; rfl)
  have a2' : (0 ≤ K ∧ ((x.l.length : Int) != K) = false) ∨ K < 0 := by
    by_cases h0 : 0 ≤ K
    · exact .inl ⟨h0, by rw [bne_eq_false_iff_eq]; omega⟩
    · exact .inr (by omega)
  clear a1 a2
  by_cases a4 : 64 < x.l.length
  · have HF := hid (show mayB xs x = false by rw [HU.out, decide_eq_false (show ¬ x.l.length ≤ 64 by omega)]; simp)
    have a4' : (64 : Int) < (x.l.length : Int) := by omega
    rcases a2' with ⟨q1, q2⟩ | q1
    all_goals
      go_wp2_with fail
      go_ret
      exact ⟨by rw [HF.out]; rfl, B1.out⟩
  have a4' : ¬ (64 : Int) < (x.l.length : Int) := by omega
  by_cases a5 : x.n < 0
  · have HF := hid (show mayB xs x = false by rw [HU.out, decide_eq_false (show ¬ 0 ≤ x.n by omega)]; simp)
    rcases a2' with ⟨q1, q2⟩ | q1
    all_goals
      go_wp2_with fail
      go_ret
      exact ⟨by rw [HF.out]; rfl, B1.out⟩
  by_cases a6 : 200 < x.s.size
  · have HF := hid (show mayB xs x = false by rw [HU.out, decide_eq_false (show ¬ x.s.size ≤ 200 by omega)]; simp)
    have a6' : (200 : Int) < (x.s.size : Int) := by omega
    rcases a2' with ⟨q1, q2⟩ | q1
    all_goals
      go_wp2_with fail
      go_ret
      exact ⟨by rw [HF.out]; rfl, B1.out⟩
  have a6' : ¬ (200 : Int) < (x.s.size : Int) := by omega
  by_cases b1 : x.o ≠ 1 ∧ x.n ≠ 0
  · have b1a : (x.o != 1) = true := bne_iff_ne.2 b1.1
    have b1b : (x.n != 0) = true := bne_iff_ne.2 b1.2
    have HF := hid (show mayB xs x = false by rw [HU.out, beq_eq_false_iff_ne.2 b1.1, beq_eq_false_iff_ne.2 b1.2]; simp)
    clear b1
    rcases a2' with ⟨q1, q2⟩ | q1
    all_goals
      go_wp2_with fail
      go_ret
      exact ⟨by rw [HF.out]; rfl, B1.out⟩
  have b1' : (x.o != 1) = false ∨ ((x.o != 1) = true ∧ (x.n != 0) = false) := by
    by_cases h : x.o = 1
    · exact .inl (by rw [bne_eq_false_iff_eq]; exact h)
    · exact .inr ⟨bne_iff_ne.2 h, by rw [bne_eq_false_iff_eq]; omega⟩
  by_cases b2 : x.o ≠ 2 ∧ ¬ x.s.size = 0
  · have b2a : (x.o != 2) = true := bne_iff_ne.2 b2.1
    have b2b := none_no b2.2
    have HF := hid (show mayB xs x = false by rw [HU.out, beq_eq_false_iff_ne.2 b2.1, beq_eq_false_iff_ne.2 b2.2]; simp)
    clear b2
    rcases a2' with ⟨q1, q2⟩ | q1 <;> rcases b1' with b1' | ⟨b1', b1''⟩
    all_goals
      go_wp2_with fail
      go_ret
      exact ⟨by rw [HF.out]; rfl, B1.out⟩
  have b2' : (x.o != 2) = false ∨ ((x.o != 2) = true ∧ x.s.toList.isEmpty = true) := by
    by_cases h : x.o = 2
    · exact .inl (by rw [bne_eq_false_iff_eq]; exact h)
    · exact .inr ⟨bne_iff_ne.2 h, none_yes (by omega)⟩
  have HR := hid (show mayB xs x = (x.l.all (hasB xs) && (x.o != 6 || opAt xs (x.l.getD 1 0) == 2)) by
    have h1 : (x.o == 1 || x.n == 0) = true := by
      rcases Decidable.em (x.o = 1) with h | h
      · rw [h]; rfl
      · rw [show x.n = 0 by omega]; simp
    have h2 : (x.o == 2 || x.s.size == 0) = true := by
      rcases Decidable.em (x.o = 2) with h | h
      · rw [h]; rfl
      · rw [show x.s.size = 0 by omega]; simp
    rw [HU.out, HL.out, h1, h2, decide_eq_true (show x.l.length ≤ 64 by omega), decide_eq_true (show 0 ≤ x.n by omega), decide_eq_true (show x.s.size ≤ 200 by omega)]
    rfl)
  clear b1 b2
  have hlen : x.l.length ≤ 2147483648 := by omega
  rcases a2' with ⟨q1, q2⟩ | q1 <;> rcases b1' with b1' | ⟨b1', b1''⟩ <;> rcases b2' with b2' | ⟨b2', b2''⟩
  all_goals
    go_wp2_with fail
    refine (ctf_may st w.heap.size xs A _ c x.l _ H1.out kp HS1.out hlen).mono ?_
    rintro e2 w2 ⟨rfl, hw2⟩
    subst w2
    rcases hall : x.l.all (hasB xs) with _ | _
    · have HF := hid (show mayB xs x = false by rw [HR.out, hall]; rfl)
      clear hall
      go_wp2_with fail
      go_ret
      exact ⟨by rw [HF.out]; rfl, B1.out⟩
    · by_cases h6 : x.o = 6
      · have h6' : (x.o != 6) = false := by rw [bne_eq_false_iff_eq]; exact h6
        have hl3 : x.l.length = 3 := by
          have := HL.out
          rw [h6] at this
          simpa [lenB, arN] using this
        obtain ⟨bx, ox, z, hA, hz, hcz⟩ := HS1.out.elemI (k := 1) (by omega)
        have hhz : hasB xs z = true := List.all_eq_true.1 hall z (List.mem_of_getElem? hz)
        unfold hasB at hhz
        simp only [Bool.and_eq_true, decide_eq_true_eq] at hhz
        obtain ⟨hz0, hz1⟩ := hhz
        obtain ⟨j, rfl⟩ := Int.eq_ofNat_of_zero_le hz0
        obtain ⟨A', c', m', q0, qm, hnd⟩ := H1.out.parts
        obtain ⟨bn, on, y, Ay, cy, rfl, hy, y0, y1, y2, y3, -⟩ := hnd.at (j := j) (by omega)
        have HF := hid (show mayB xs x = (y.o == 2) by
          rw [HR.out, hall, h6, List.getD, hz]
          show (_ && opAt xs (j : Int) == 2) = _
          unfold opAt
          rw [Int.toNat_natCast, hy]
          rfl)
        subst hA
        clear hall hz hy hnd h6
        go_wp2_with fail
        go_quiet (fail)
        go_wp2
        go_ret
        exact ⟨by rw [HF.out]; rfl, below_drewN B1.out _⟩
      · have h6' : (x.o != 6) = true := bne_iff_ne.2 h6
        have HF := hid (show mayB xs x = true by rw [HR.out, hall, h6']; rfl)
        clear hall h6
        go_wp2_with fail
        go_quiet (fail)
        go_wp2
        go_ret
        exact ⟨by rw [HF.out]; rfl, below_drewN B1.out _⟩
end Go.Proofs.YtkgobglmkhkbbaaGreatDoor
