import Derived.Test.YtadbgmfdbahcbaaDoorZR3
/- the document's layer 5: numbers in order; bad, Derives. -/
namespace Go.KK
open Go.RowKit
set_option linter.unusedVariables false
set_option linter.unusedSimpArgs false
theorem sorted_ext : ∀ (l m : List Int), l.Pairwise (· < ·) → m.Pairwise (· < ·) → (∀ x, x ∈ l ↔ x ∈ m) → l = m
  | [], [], _, _, _ => rfl
  | [], y :: m, _, _, h => by have := (h y).2 (by simp); simp at this
  | x :: l, [], _, _, h => by have := (h x).1 (by simp); simp at this
  | x :: l, y :: m, hl, hm, h => by
    have h1 := List.pairwise_cons.1 hl
    have h2 := List.pairwise_cons.1 hm
    have hxy : x = y := by
      have a := (h x).1 (by simp)
      have b := (h y).2 (by simp)
      rcases List.mem_cons.1 a with e | e
      · exact e
      · rcases List.mem_cons.1 b with e' | e'
        · exact e'.symm
        · have := h2.1 x e
          have := h1.1 y e'
          omega
    subst hxy
    rw [sorted_ext l m h1.2 h2.2 fun z => ?_]
    constructor
    · intro hz
      have := h1.1 z hz
      rcases List.mem_cons.1 ((h z).1 (by simp [hz])) with e | e
      · omega
      · exact e
    · intro hz
      have := h2.1 z hz
      rcases List.mem_cons.1 ((h z).2 (by simp [hz])) with e | e
      · omega
      · exact e
theorem kn_sorted (xs : List ND) (l : List Int) : (knF xs l).Pairwise (· < ·) := by
  unfold knF
  rw [List.pairwise_map]
  refine List.Pairwise.filter _ ?_
  exact (List.pairwise_lt_range (n := xs.length)).imp fun h => by omega
end Go.KK
namespace Go.Proofs.YtadbgmfdbahcbaaDoor
open Go.RowKit Go.KK Go.Shelf Go.Maps

theorem pos_spec (acc : List Int) (n : Int) : ∀ k, (∀ i, posF acc n k ≤ i → i < k → n < acc.getD i 0) ∧ (0 < posF acc n k → acc.getD (posF acc n k - 1) 0 ≤ n)
  | 0 => ⟨fun i h1 h2 => by omega, fun h => by simp [posF] at h⟩
  | k + 1 => by
    rw [posF]
    split
    · rename_i h
      obtain ⟨h1, h2⟩ := pos_spec acc n k
      refine ⟨fun i hi hk => ?_, h2⟩
      by_cases e : i = k
      · subst e; exact h
      · exact h1 i hi (by omega)
    · rename_i h
      exact ⟨fun i h1 h2 => by omega, fun _ => by rw [Nat.add_sub_cancel]; omega⟩
theorem insR_ok {acc : List Int} {n : Int} (h : acc.Pairwise (· < ·)) : (insR acc n).Pairwise (· < ·) ∧ ∀ x, x ∈ insR acc n ↔ x = n ∨ x ∈ acc := by
  obtain ⟨s1, s2⟩ := pos_spec acc n acc.length
  have hp := posF_le acc n acc.length
  unfold insR
  generalize posF acc n acc.length = p at *
  by_cases hc : 0 < p ∧ acc.getD (p - 1) 0 = n
  · rw [if_pos hc]
    refine ⟨h, fun x => ⟨.inr, fun e => e.elim (fun e => ?_) id⟩⟩
    rw [e, ← hc.2]
    exact getD_mem (by omega)
  · rw [if_neg hc]
    have hix := List.pairwise_iff_getElem.1 h
    have hlt : ∀ y ∈ acc.take p, y < n := fun y hy => by
      obtain ⟨i, hi, rfl⟩ := List.mem_iff_getElem.1 hy
      rw [List.length_take] at hi
      rw [List.getElem_take]
      have h2 := s2 (by omega)
      have h3 : acc.getD (p - 1) 0 ≠ n := fun e => hc ⟨by omega, e⟩
      have e1 : acc.getD (p - 1) 0 = acc[p - 1]'(by omega) := by rw [List.getD, List.getElem?_eq_getElem (by omega)]; rfl
      rw [e1] at h2 h3
      by_cases e : i = p - 1
      · subst e; omega
      · have := hix i (p - 1) (by omega) (by omega) (by omega)
        omega
    have hgt : ∀ y ∈ acc.drop p, n < y := fun y hy => by
      obtain ⟨i, hi, rfl⟩ := List.mem_iff_getElem.1 hy
      rw [List.length_drop] at hi
      rw [List.getElem_drop]
      have := s1 (p + i) (by omega) (by omega)
      rwa [List.getD, List.getElem?_eq_getElem (by omega)] at this
    refine ⟨?_, fun x => ?_⟩
    · rw [List.pairwise_append]
      refine ⟨h.sublist (List.take_sublist _ _), List.pairwise_cons.2 ⟨hgt, h.sublist (List.drop_sublist _ _)⟩, fun a ha b hb => ?_⟩
      rcases List.mem_cons.1 hb with e | e
      · rw [e]; exact hlt a ha
      · have := hlt a ha; have := hgt b e; omega
    · rw [List.mem_append, List.mem_cons]
      have e : x ∈ acc ↔ x ∈ acc.take p ∨ x ∈ acc.drop p := by rw [← List.mem_append, List.take_append_drop]
      rw [e]
      constructor
      · rintro (h | h | h)
        · exact .inr (.inl h)
        · exact .inl h
        · exact .inr (.inr h)
      · rintro (h | h | h)
        · exact .inr (.inl h)
        · exact .inl h
        · exact .inr (.inr h)
theorem ris_ok : ∀ (l acc : List Int), acc.Pairwise (· < ·) → (l.foldl insR acc).Pairwise (· < ·) ∧ ∀ x, x ∈ l.foldl insR acc ↔ x ∈ acc ∨ x ∈ l
  | [], acc, h => ⟨h, fun x => by simp⟩
  | y :: l, acc, h => by
    obtain ⟨a, b⟩ := insR_ok (n := y) h
    obtain ⟨c, d⟩ := ris_ok l (insR acc y) a
    refine ⟨c, fun x => ?_⟩
    rw [List.foldl_cons, d, b, List.mem_cons]
    constructor
    · rintro ((h | h) | h)
      · exact .inr (.inl h)
      · exact .inl h
      · exact .inr (.inr h)
    · rintro (h | h | h)
      · exact .inl (.inr h)
      · exact .inl (.inl h)
      · exact .inr h
/-- What was met, in order, of it what can be derived. -/
theorem ris_kn {xs : List ND} (ok : Okay xs) {known P : List Int} {f : Int → Bool} (hP : ∀ x, x ∈ P ↔ KK.Met xs known x) (hf : ∀ t, hasB xs t = true → f t = derB xs known t) : (risL P).filter f = knF xs known := by
  obtain ⟨a, b⟩ := ris_ok P [] .nil
  refine sorted_ext _ _ (a.filter _) (kn_sorted xs known) fun x => ?_
  rw [List.mem_filter, knF_mem]
  have hb : x ∈ risL P ↔ x ∈ P := by have := b x; simpa [risL] using this
  rw [hb, hP]
  constructor
  · rintro ⟨h1, h2⟩
    have hh := met_has ok h1
    rw [hf x hh, derB_iff] at h2
    exact ⟨hh, h1, h2⟩
  · rintro ⟨h1, h2, h3⟩
    exact ⟨h2, by rw [hf x h1, derB_iff]; exact h3⟩
set_option maxHeartbeats 2000000 in
theorem bad_any (sb : Nat) (xs : List ND) (w : World) (hA : ArV w 59 sb xs) (A : Option Addr) (n c : Nat) (l : List Int) (hl : SlA w 1 A n c (l.map (.int .i64))) (hn : n ≤ 1000000) :
    Calls Tryd.prog 31 #[.pointer (some ⟨sb, 0, none⟩), .slice A n c] w fun e w' => e = .returned (.bool (!(l.all (hasB xs)))) ∧ w' = w := by
  have HA := hid hA; have HS := hid hl; have HL := hid hl.lenI
  clear hA hl
  go_enter Tryd.func31, Tryd.ntmps31
  go_wp2_with fail
  go_loopw [9] (fun v wr => ∃ j : Nat, v = .int .i64 j ∧ j ≤ n ∧ Hid (l.all (hasB xs) = (l.drop j).all (hasB xs)) ∧ wr = w) (fun v _ => n - (intOf v).toNat)
  case atStart => exact ⟨0, rfl, Nat.zero_le _, hid rfl, rfl⟩
  case round =>
    obtain ⟨j, hv, hj, HJ, hw⟩ := hrel
    subst hv; subst hw
    by_cases hlt : j < n
    · have hlt' : (j : Int) < (n : Int) := by omega
      obtain ⟨b, o, z, rfl, hz, hc⟩ := HS.out.elemI hlt
      have HD := hid (show l.drop j = z :: l.drop (j + 1) by
        obtain ⟨hk, rfl⟩ := List.getElem?_eq_some_iff.1 hz
        exact List.drop_eq_getElem_cons hk)
      have HI := hid (has_iff (xs := xs) (t := z))
      clear hz
      by_cases h0 : z < 0
      · have h0' : decide (z < 0) = true := decide_eq_true h0
        have HF := hid (show l.all (hasB xs) = false by
          rw [HJ.out, HD.out, List.all_cons, show hasB xs z = false from Bool.eq_false_iff.2 fun e => by have := HI.out.1 e; omega]; rfl)
        clear h0
        go_wp2_with fail
        go_ret
        exact ⟨by rw [HF.out]; rfl, rfl⟩
      · have h0' : decide (z < 0) = false := decide_eq_false h0
        by_cases h1 : (xs.length : Int) ≤ z
        · have h1' : decide ((xs.length : Int) ≤ z) = true := decide_eq_true h1
          have HF := hid (show l.all (hasB xs) = false by
            rw [HJ.out, HD.out, List.all_cons, show hasB xs z = false from Bool.eq_false_iff.2 fun e => by have := HI.out.1 e; omega]; rfl)
          clear h0
          go_wp2_with fail
          refine (rlen_any sb xs _ HA.out).mono ?_
          rintro e w2 ⟨rfl, hw2⟩
          subst hw2
          go_wp2_with fail
          go_ret
          exact ⟨by rw [HF.out]; rfl, rfl⟩
        · have h1' : decide ((xs.length : Int) ≤ z) = false := decide_eq_false h1
          have HF := hid (show l.all (hasB xs) = (l.drop (j + 1)).all (hasB xs) by
            rw [HJ.out, HD.out, List.all_cons, HI.out.2 ⟨by omega, by omega⟩]; rfl)
          clear h0
          go_wp2_with fail
          refine (rlen_any sb xs _ HA.out).mono ?_
          rintro e w2 ⟨rfl, hw2⟩
          subst hw2
          go_wp2_with fail
          go_roundw
          case rel => exact ⟨j + 1, by go_num, by omega, HF, by first | rfl | trivial⟩
          case measure => simp [intOf]; omega
    · have HF := hid (show l.all (hasB xs) = true by rw [HJ.out, List.drop_of_length_le (by have := HL.out; omega)]; rfl)
      have hlt' : ¬ (j : Int) < (n : Int) := by omega
      go_wp2_with fail
      go_ret
      exact ⟨by rw [HF.out]; rfl, rfl⟩
set_option maxHeartbeats 4000000 in
set_option maxRecDepth 100000 in
theorem rderives_any (sb : Nat) (xs : List ND) (w : World) (hA : ArV w 59 sb xs) (hok : Okay xs) (A : Option Addr) (n c : Nat) (known : List Int) (goal : Int) (hl : SlA w 1 A n c (known.map (.int .i64))) (hn : n ≤ 1000) :
    Calls Tryd.prog 20 #[.pointer (some ⟨sb, 0, none⟩), .slice A n c, .int .i64 goal] w fun e w' => e = .returned (.tuple #[.bool (drvB xs known goal), .int .i64 (drvE xs known goal)]) ∧ Below w.heap.size w w' := by
  obtain ⟨i0, hi, hz0, hz1, hz2⟩ := info_parts Tryd.infoInt
  have HA := hid hA; have HOK := hid hok; have HL := hid hl; have HLN := hid hl.lenI
  have HB0 := hid (show Below w.heap.size w (w.alloc (.cells #[.int .i64 goal] 3)) from (Below.refl _ _).alloc (Nat.le_refl _) _)
  have HO0 := hid (World.ownsRow_lit (e := 3) (base := w.heap.size) (size := 1) w #[.int .i64 goal] 1 (Nat.le_refl _) (by decide) rfl)
  clear hA hok hl
  go_enter Tryd.func20, Tryd.ntmps20
  go_wp2_with (first
    | (at_builtin; refine wpList_append_sl _ rfl _ _ 23 rfl w.heap.size 3 i0 (.int .i64 0) 1 8 Tryd.underlying23 hi hz0 hz1 hz2 rfl (by decide) (.slice (some ⟨w.heap.size, 0, none⟩) 1 1) 1 [.int .i64 goal] rfl HO0.out A n c (known.map (.int .i64)) rfl (HL.out.ext HB0.out) (ints_one _ _) (by unfold maxLen; omega) (by omega) HB0.out.size ?_; intro v6 w6 own6 gr6 loc6; obtain ⟨A6, c6, rfl, -⟩ := SlA.owned own6; have HS6 := hid (show SlA w6 1 A6 (1 + n) c6 ((goal :: known).map (.int .i64)) from (SlA.of_own own6).2); have HB6 := hid (below_append HB0.out gr6 HO0.out (Nat.le_refl _) HB0.out.size); clear own6 gr6 loc6)
    | fail)
  refine (bad_any sb xs w6 (HA.out.ext HB6.out) A6 (1 + n) c6 (goal :: known) HS6.out (by omega)).mono ?_
  rintro e w7 ⟨rfl, hw7⟩
  subst hw7
  rcases hall : (goal :: known).all (hasB xs) with _ | _
  · have HF := hid (show drvB xs known goal = false ∧ drvE xs known goal = 1 by
      rw [List.all_cons, Bool.and_comm] at hall
      unfold drvB drvE
      rw [hall]
      exact ⟨rfl, rfl⟩)
    clear hall
    go_wp2_with fail
    first | go_ret2 | go_ret
    exact ⟨by rw [HF.out.1, HF.out.2] <;> rfl, HB6.out⟩
  · have h2 := hall
    rw [List.all_cons, Bool.and_eq_true] at h2
    have HF := hid (show drvB xs known goal = derB xs known goal ∧ drvE xs known goal = 0 by
      unfold drvB drvE
      rw [h2.1, h2.2]
      exact ⟨rfl, rfl⟩)
    have HDV := hid (rderived_any sb xs w7 (HA.out.ext HB6.out) HOK.out A n c known (HL.out.ext HB6.out) (List.all_eq_true.1 h2.2) (by omega))
    have HGH := hid h2.1
    clear hall h2
    go_wp2_with fail
    refine HDV.out.mono ?_
    rintro e w8 ⟨mb, I, rfl, hI, hd, -, b8⟩
    have HD := hid (hd goal HGH.out)
    have hg := has_iff.1 HGH.out
    obtain ⟨kg, rfl⟩ := Int.eq_ofNat_of_zero_le hg.1
    have hkg : (kg : Int) < (xs.length : Int) := hg.2
    have hcg := hI.at (t := kg) (by omega)
    rw [HD.out] at hcg
    have HB8 := hid (HB6.out.trans (b8.mono HB6.out.size))
    clear hI hd b8 hg
    generalize derB xs known (kg : Int) = bb at *
    go_wp2_with fail
    first | go_ret2 | go_ret
    exact ⟨by rw [HF.out.1, HF.out.2] <;> rfl, HB8.out⟩
end Go.Proofs.YtadbgmfdbahcbaaDoor

