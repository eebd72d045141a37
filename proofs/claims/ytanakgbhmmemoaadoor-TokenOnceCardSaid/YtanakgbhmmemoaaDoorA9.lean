/- crypto: known, Unblind; token: known. -/
import Derived.Test.YtanakgbhmmemoaaDoorA8
namespace Go.Proofs.YtanakgbhmmemoaaDoor
open Go.RowKit Go.KK Go.Shelf Go.Maps
set_option linter.unusedVariables false
set_option linter.unusedSimpArgs false

theorem nd_at {xs : List ND} {t : Int} (h : hasB xs t = true) : ∃ j : Nat, t = (j : Int) ∧ xs[j]? = some (nodeF xs t) := by
  have hh := h
  unfold hasB at hh
  simp only [Bool.and_eq_true, decide_eq_true_eq] at hh
  obtain ⟨j, rfl⟩ := Int.eq_ofNat_of_zero_le hh.1
  have hj : j < xs.length := by omega
  refine ⟨j, rfl, ?_⟩
  unfold nodeF
  rw [h, if_pos rfl, Int.toNat_natCast, List.getD, List.getElem?_eq_getElem hj]
  rfl
theorem is_has {xs : List ND} {t op : Int} (h : ndIs xs t op = true) : hasB xs t = true ∧ (nodeF xs t).o = op := by
  unfold ndIs nodeE at h
  simp only [Bool.and_eq_true, beq_iff_eq] at h
  rcases hb : hasB xs t with _ | _
  · rw [hb] at h; exact absurd h.1 (by decide)
  · exact ⟨rfl, h.2⟩
theorem is_two {xs : List ND} {t op : Int} (hok : Okay xs) (h : ndIs xs t op = true) (ha : arN op = some 2) : ∃ a b, (nodeF xs t).l = [a, b] ∧ hasB xs a = true ∧ hasB xs b = true := by
  obtain ⟨h1, h2⟩ := is_has h
  obtain ⟨j, rfl, hj⟩ := nd_at h1
  have hm := hok.may j _ hj
  unfold mayB shB lenB at hm
  rw [h2, ha] at hm
  simp only [Bool.and_eq_true, beq_iff_eq, List.all_eq_true] at hm
  have hl := hm.1.1.1.1.1.1.1
  have hp := hm.1.2
  generalize nodeF xs (j : Int) = x at *
  obtain ⟨_, _, _, l⟩ := x
  simp only at hl hp
  rcases l with _ | ⟨a, _ | ⟨b, _ | ⟨c, l⟩⟩⟩
  · cases hl
  · cases hl
  · have up : ∀ i, hasB (xs.take j) i = true → hasB xs i = true := fun i hi => by
      unfold hasB at hi ⊢
      simp only [Bool.and_eq_true, decide_eq_true_eq, List.length_take] at hi ⊢
      omega
    exact ⟨a, b, rfl, up a (hp a (by simp)), up b (hp b (by simp))⟩
  · simp at hl
theorem has_i64 {xs : List ND} {t : Int} (hok : Okay xs) (h : hasB xs t = true) : I64 t := by
  unfold hasB at h
  simp only [Bool.and_eq_true, decide_eq_true_eq] at h
  have := hok.len
  exact ⟨by omega, by omega⟩
section
variable (Z : Nat → Prop) (st : Nat) (xs : List ND) (B : Nat) (w : World)
theorem cknown_any (A : Option Addr) (n c : Nat) (l : List Int) (h : ArV w 93 st xs) (hl : SlA w 1 A n c (l.map (.int .i64))) (hn : n ≤ 2147483648) :
    Calls Tryd.prog 69 #[.pointer (some ⟨st, 0, none⟩), .slice A n c] w fun e w' => e = .returned (.bool (kno xs l)) ∧ w' = w := by
  have H := hid h; have HS := hid hl; have HL := hid hl.lenI
  clear h hl
  unfold kno
  go_enter Tryd.func69, Tryd.ntmps69
  go_wp2
  go_loopw [9] (fun i wr => ∃ j : Nat, i = .int .i64 j ∧ j ≤ n ∧ Hid (l.all (hasB xs) = (l.drop j).all (hasB xs)) ∧ wr = w) (fun i _ => n - (intOf i).toNat)
  case atStart => exact ⟨0, rfl, by omega, hid rfl, rfl⟩
  case round =>
    obtain ⟨j, hi, hj, HJ, hw⟩ := hrel
    subst hi; subst hw
    by_cases hlt : j < n
    · obtain ⟨b1, o, z, rfl, hz, hc⟩ := HS.out.elemI hlt
      have HD := hid (drop_get hz); clear hz
      by_cases hz0 : z < 0
      · have HF := hid (show l.all (hasB xs) = false by
          rw [HJ.out, HD.out, List.all_cons, show hasB xs z = false by unfold hasB; rw [decide_eq_false (by omega : ¬ 0 ≤ z)]; rfl]; rfl)
        go_wp2
        go_ret
        exact ⟨by rw [HF.out]; rfl, rfl⟩
      · by_cases hz1 : (xs.length : Int) ≤ z
        · have HF := hid (show l.all (hasB xs) = false by
            rw [HJ.out, HD.out, List.all_cons, show hasB xs z = false by unfold hasB; rw [decide_eq_false (by omega : ¬ z < (xs.length : Int))]; simp]; rfl)
          go_wp2_with (go_at_call 53; refine (len_any st xs _ H.out).mono ?_; rintro e w' ⟨rfl, hw'⟩; subst hw')
          go_ret
          exact ⟨by rw [HF.out]; rfl, rfl⟩
        · have HF := hid (show l.all (hasB xs) = (l.drop (j + 1)).all (hasB xs) by
            rw [HJ.out, HD.out, List.all_cons, show hasB xs z = true by unfold hasB; rw [decide_eq_true (by omega : z < (xs.length : Int)), decide_eq_true (by omega : 0 ≤ z)]; rfl]; rfl)
          go_wp2_with (go_at_call 53; refine (len_any st xs _ H.out).mono ?_; rintro e w' ⟨rfl, hw'⟩; subst hw')
          go_roundw
          case rel => exact ⟨j + 1, by go_num, by omega, HF, by first | rfl | trivial⟩
          case measure => simp [intOf]; omega
    · have HF := hid (show l.all (hasB xs) = true by rw [HJ.out, List.drop_of_length_le (by have := HL.out; omega)]; rfl)
      go_wp2
      go_ret
      exact ⟨by rw [HF.out]; rfl, rfl⟩
theorem known1_any (b : Nat) (t : Int) (h : ArV w 93 st xs) (hb : w.cell? ⟨b, 0, none⟩ = some (.pointer (some ⟨st, 0, none⟩))) :
    Calls Tryd.prog 61 #[.int .i64 t, .pointer (some ⟨b, 0, none⟩)] w fun e w' => e = .returned (.bool (!hasB xs t)) ∧ w' = w := by
  have H := hid h
  clear h
  by_cases hz0 : t < 0
  · have HF := hid (show hasB xs t = false by unfold hasB; rw [decide_eq_false (by omega : ¬ 0 ≤ t)]; rfl)
    go_enter Tryd.func61, Tryd.ntmps61
    go_wp2
    go_ret
    exact ⟨by rw [HF.out]; rfl, rfl⟩
  · by_cases hz1 : (xs.length : Int) ≤ t
    · have HF := hid (show hasB xs t = false by unfold hasB; rw [decide_eq_false (by omega : ¬ t < (xs.length : Int))]; simp)
      go_enter Tryd.func61, Tryd.ntmps61
      go_wp2_with (go_at_call 53; refine (len_any st xs _ H.out).mono ?_; rintro e w' ⟨rfl, hw'⟩; subst hw')
      go_ret
      exact ⟨by rw [HF.out]; rfl, rfl⟩
    · have HF := hid (show hasB xs t = true by unfold hasB; rw [decide_eq_true (by omega : t < (xs.length : Int)), decide_eq_true (by omega : 0 ≤ t)]; rfl)
      go_enter Tryd.func61, Tryd.ntmps61
      go_wp2_with (go_at_call 53; refine (len_any st xs _ H.out).mono ?_; rintro e w' ⟨rfl, hw'⟩; subst hw')
      go_ret
      exact ⟨by rw [HF.out]; show Ending.returned (.bool (decide ((xs.length : Int) ≤ t))) = _; rw [decide_eq_false (by omega : ¬ (xs.length : Int) ≤ t)]; rfl, rfl⟩
set_option maxHeartbeats 1000000 in
theorem ixf_kn (b : Nat) (A : Option Addr) (n c : Nat) (l : List Int) (h : ArV w 93 st xs) (hb : w.cell? ⟨b, 0, none⟩ = some (.pointer (some ⟨st, 0, none⟩))) (hl : SlA w 1 A n c (l.map (.int .i64))) (hn : n ≤ 2147483648) :
    Calls Tryd.prog 87 #[.slice A n c, .func (.func 61) #[] #[.pointer (some ⟨b, 0, none⟩)]] w fun e w' => (∃ k : Int, e = .returned (.int .i64 k) ∧ decide (0 ≤ k) = !l.all (hasB xs)) ∧ w' = w := by
  have H := hid h; have HB := hid hb; have HS := hid hl; have HL := hid hl.lenI
  clear h hb hl
  go_enter Tryd.func87, Tryd.ntmps87
  go_wp2
  go_loopw [8] (fun i wr => ∃ j : Nat, i = .int .i64 j ∧ j ≤ n ∧ Hid (l.all (hasB xs) = (l.drop j).all (hasB xs)) ∧ wr = w) (fun i _ => n - (intOf i).toNat)
  case atStart => exact ⟨0, rfl, by omega, hid rfl, rfl⟩
  case round =>
    obtain ⟨j, hi, hj, HJ, hw⟩ := hrel
    subst hi; subst hw
    by_cases hlt : j < n
    · obtain ⟨b1, o, z, rfl, hz, hc⟩ := HS.out.elemI hlt
      have HD := hid (drop_get hz); clear hz
      rcases hh : hasB xs z with _ | _
      · have HF := hid (show l.all (hasB xs) = false by rw [HJ.out, HD.out, List.all_cons, hh]; rfl)
        go_wp2_with (go_at_call 61; refine (known1_any st xs _ b z H.out HB.out).mono ?_; rintro e w' ⟨rfl, hw'⟩; subst hw'; rw [hh])
        go_ret
        exact ⟨⟨j, rfl, by rw [HF.out, decide_eq_true (by omega)]; rfl⟩, rfl⟩
      · have HF := hid (show l.all (hasB xs) = (l.drop (j + 1)).all (hasB xs) by rw [HJ.out, HD.out, List.all_cons, hh]; rfl)
        go_wp2_with (go_at_call 61; refine (known1_any st xs _ b z H.out HB.out).mono ?_; rintro e w' ⟨rfl, hw'⟩; subst hw'; rw [hh])
        go_roundw
        case rel => exact ⟨j + 1, by go_num, by omega, HF, by first | rfl | trivial⟩
        case measure => simp [intOf]; omega
    · have HF := hid (show l.all (hasB xs) = true by rw [HJ.out, List.drop_of_length_le (by have := HL.out; omega)]; rfl)
      go_wp2
      go_ret
      exact ⟨⟨-1, rfl, by rw [HF.out]; rfl⟩, rfl⟩
theorem ctf_kn (b : Nat) (A : Option Addr) (n c : Nat) (l : List Int) (h : ArV w 93 st xs) (hb : w.cell? ⟨b, 0, none⟩ = some (.pointer (some ⟨st, 0, none⟩))) (hl : SlA w 1 A n c (l.map (.int .i64))) (hn : n ≤ 2147483648) :
    Calls Tryd.prog 60 #[.slice A n c, .func (.func 61) #[] #[.pointer (some ⟨b, 0, none⟩)]] w fun e w' => e = .returned (.bool (!l.all (hasB xs))) ∧ w' = w := by
  have HX := hid (ixf_kn st xs w b A n c l h hb hl hn)
  clear h hb hl
  go_enter Tryd.func60, Tryd.ntmps60
  go_wp2_with fail
  refine HX.out.mono ?_
  rintro e w' ⟨⟨k, rfl, hk⟩, hw⟩
  subst hw
  have HK := hid hk
  clear hk
  go_wp2
  go_ret
  exact ⟨by rw [← HK.out]; rfl, rfl⟩

/-- Whether all are terms. -/
theorem known_any (A : Option Addr) (n c : Nat) (l : List Int) (h : ArV w 93 st xs) (hl : SlA w 1 A n c (l.map (.int .i64))) (hn : n ≤ 2147483648) :
    Calls Tryd.prog 36 #[.pointer (some ⟨st, 0, none⟩), .slice A n c] w fun e w' => e = .returned (.bool (kno xs l)) ∧ Below w.heap.size w w' := by
  have B0 := hid (show Below w.heap.size w (w.alloc (.cells #[.pointer (some ⟨st, 0, none⟩)] 24)) from (Below.refl _ _).alloc (Nat.le_refl _) _)
  have HX := hid (ctf_kn st xs (w.alloc (.cells #[.pointer (some ⟨st, 0, none⟩)] 24)) w.heap.size A n c l (h.ext B0.out) (by rw [World.cell?_alloc_at _ _ _ _ rfl]; rfl) (hl.ext B0.out) hn)
  clear h hl
  go_enter Tryd.func36, Tryd.ntmps36
  go_wp2_with fail
  refine HX.out.mono ?_
  rintro e w' ⟨rfl, hw⟩
  subst hw
  go_wp2
  go_ret
  exact ⟨by unfold kno; simp, B0.out⟩
end
end Go.Proofs.YtanakgbhmmemoaaDoor
