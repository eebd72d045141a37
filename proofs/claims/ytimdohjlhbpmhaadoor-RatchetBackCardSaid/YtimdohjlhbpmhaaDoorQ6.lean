/- the reference of layer 7: a node at its place; Check. -/
import Derived.Test.YtimdohjlhbpmhaaDoorQ5
namespace Go.Proofs.YtimdohjlhbpmhaaDoor
open Go.RowKit Go.KK Go.Shelf
set_option linter.unusedVariables false
set_option linter.unusedSimpArgs false

def leafB (y : TN) : Bool := y.k == 1 && ((y.u.length : Nat) : Int) == 0
/-- A node may stand at its place. -/
def rnodeB (xs : List TN) (x : Nat) (y : TN) : Bool :=
  if y.k = 0 then zerB y else if (x : Int) % 2 = 0 then leafB y else y.k == 2 && y.i == 0 && y.s == 0 && rparF xs x (lfA (x : Int) - 1) y.u
theorem rnode_any1 (A : Option Addr) (n c : Nat) (xs : List TN) (x : Nat) (y : TN) (B : Option Addr) (d : Nat) (w : World) (ht : Tr w A n c xs) (hnm : n ≤ 600) (hs : SlA w 1 B y.u.length d (y.u.map (.int .i64))) (hu47 : y.u.length ≤ 2147483648) (hu : Shorts xs) (hf : fullN (lvN n) = true) (hn2 : 2 * (lvN n : Int) - 1 = n) (hx : x < n) :
    Calls Tryd.prog 50 #[.slice A n c, .int .i64 x, .agg #[.int .i64 y.k, .int .i64 y.i, .int .i64 y.e, .int .i64 y.s, .int .i64 y.h, .slice B y.u.length d]] w fun r w' => r = .returned (.bool (rnodeB xs x y)) ∧ Below w.heap.size w w' := by
  by_cases h0 : y.k = 0
  · have hr : rnodeB xs x y = zerB y := by unfold rnodeB; rw [if_pos h0]
    rw [hr]
    have h0' : (y.k == 0) = true := beq_iff_eq.2 h0
    clear hr h0 ht hs hu hf hn2
    go_enter Tryd.func50, Tryd.ntmps50
    go_wp2_with (go_at_call 67; refine (rzero_any y _ _ _).mono ?_; rintro e1 w1 ⟨rfl, hb1⟩)
    go_ret
    exact ⟨rfl, (below_new (Below.refl _ _) (Nat.le_refl _) hb1).1⟩
  · have h0' : (y.k == 0) = false := beq_eq_false_iff_ne.2 h0
    by_cases h2 : (x : Int) % 2 = 0
    · have hr : rnodeB xs x y = leafB y := by unfold rnodeB; rw [if_neg h0, if_pos h2]
      rw [hr]
      have h2' : ((x : Int) % 2 == 0) = true := beq_iff_eq.2 h2
      have HLF := hid (fun w => rleaf_any y.k y.i y.e y.s y.h B y.u.length d w)
      clear hr h0 h2 ht hs hu hf hn2
      go_enter Tryd.func50, Tryd.ntmps50
      go_wp2_with (go_at_call 41; refine (HLF.out _).mono ?_; rintro e1 w1 ⟨rfl, hb1⟩)
      go_ret
      exact ⟨rfl, (below_new (Below.refl _ _) (Nat.le_refl _) hb1).1⟩
    · have h2' : ((x : Int) % 2 == 0) = false := beq_eq_false_iff_ne.2 h2
      have hr : rnodeB xs x y = (y.k == 2 && y.i == 0 && y.s == 0 && rparF xs x (lfA (x : Int) - 1) y.u) := by unfold rnodeB; rw [if_neg h0, if_neg h2]
      rw [hr]
      clear hr
      obtain ⟨k, i, e, s, h, u⟩ := y
      simp only at h0 h0' hs hu47 ⊢
      by_cases hk : k = 2
      · subst hk
        by_cases hi : i = 0
        · subst hi
          by_cases hss : s = 0
          · subst hss
            have := rnode_go A n c xs x e h u B d w ht hnm hs hu47 hu hf hn2 hx h2
            simpa using this
          · have hss' : (s != 0) = true := bne_iff_ne.2 hss
            have hv : (2 == (2 : Int) && (0 : Int) == 0 && s == 0 && rparF xs x (lfA (x : Int) - 1) u) = false := by rw [beq_eq_false_iff_ne.2 hss]; simp
            rw [hv]
            clear hss hv h0 h2 ht hs hu hf hn2
            go_enter Tryd.func50, Tryd.ntmps50
            go_wp2
            go_ret
            exact ⟨rfl, (Below.refl _ _).alloc (Nat.le_refl _) _⟩
        · have hi' : (i != 0) = true := bne_iff_ne.2 hi
          have hv : (2 == (2 : Int) && i == 0 && s == 0 && rparF xs x (lfA (x : Int) - 1) u) = false := by rw [beq_eq_false_iff_ne.2 hi]; simp
          rw [hv]
          clear hi hv h0 h2 ht hs hu hf hn2
          go_enter Tryd.func50, Tryd.ntmps50
          go_wp2
          go_ret
          exact ⟨rfl, (Below.refl _ _).alloc (Nat.le_refl _) _⟩
      · have hk' : (k != 2) = true := bne_iff_ne.2 hk
        have hv : (k == 2 && i == 0 && s == 0 && rparF xs x (lfA (x : Int) - 1) u) = false := by rw [beq_eq_false_iff_ne.2 hk]; simp
        rw [hv]
        clear hk hv h0 h2 ht hs hu hf hn2
        go_enter Tryd.func50, Tryd.ntmps50
        go_wp2
        go_ret
        exact ⟨rfl, (Below.refl _ _).alloc (Nat.le_refl _) _⟩
/-- A tree may be: the document's answer. -/
def rnodeAt (xs : List TN) (x : Nat) : Bool := match xs[x]? with | some y => rnodeB xs x y | none => true
def rallR (xs : List TN) : Int := if (List.range xs.length).all (rnodeAt xs) then 0 else 1
theorem rallR_yes {xs : List TN} (h : ∀ k, k < xs.length → rnodeAt xs k = true) : rallR xs = 0 := by
  unfold rallR; rw [if_pos (List.all_eq_true.2 fun k hk => h k (List.mem_range.1 hk))]
theorem rallR_no {xs : List TN} {k : Nat} (hk : k < xs.length) (h : rnodeAt xs k = false) : rallR xs = 1 := by
  unfold rallR; rw [if_neg fun hh => by rw [List.all_eq_true.1 hh k (List.mem_range.2 hk)] at h; cases h]
theorem rlv_some {n : Nat} (h : rlv n ≠ 0) : fullN (lvN n) = true ∧ 2 * (lvN n : Int) - 1 = n ∧ rlv n = lvN n := by
  unfold rlv at h ⊢
  split at h
  · rename_i hc
    simp only [Bool.and_eq_true, beq_iff_eq] at hc
    exact ⟨hc.1, hc.2, by rw [if_pos (by simpa using hc)]⟩
  · exact absurd rfl h
set_option maxHeartbeats 2000000 in
theorem rcheck_go (A : Option Addr) (n c : Nat) (xs : List TN) (w : World) (ht : Tr w A n c xs) (hnm : n ≤ 600) (hu : Shorts xs) (h0 : rlv n ≠ 0) (h1 : someB xs 0 (lvN n) = true) (h2 : lvN n ≤ 1 ∨ someB xs (lvN n / 2) (lvN n) = true) :
    Calls Tryd.prog 21 #[.slice A n c] w fun e w' => e = .returned (.int .i64 (rallR xs)) ∧ Below w.heap.size w w' := by
  obtain ⟨hf, hn2, hr⟩ := rlv_some h0
  have HR := hid hr
  have hN := fullN_le hf
  have hN1 : 1 ≤ lvN n := by omega
  have hN2 : lvN n ≤ 256 := by omega
  have h00 : ((lvN n : Int) == 0) = false := beq_eq_false_iff_ne.2 (by omega)
  have hs1 : Calls Tryd.prog 49 #[.slice A n c, .int .i64 0, .int .i64 (lvN n)] w fun e w' => e = .returned (.bool (someB xs 0 (lvN n))) ∧ w' = w := some_any A n c xs 0 (lvN n) w ht hnm (Nat.le_refl _) (Nat.zero_le _)
  have hs2 := some_any A n c xs (lvN n / 2) (lvN n) w ht hnm (Nat.le_refl _) (by omega)
  rw [h1] at hs1
  have HS1 := hid hs1
  have HX := hid ht.len; have H := hid ht; have HU := hid hu; have HF := hid hf; have HN2 := hid hn2
  have hdiv : (lvN n : Int) / 2 = ((lvN n / 2 : Nat) : Int) := by omega
  have hz0 : ((0 : Nat) : Int) = 0 := rfl
  clear ht hu h0 hr hN hf hn2 h1 hs1
  generalize hP : lvN n / 2 = P at *
  have hgt : lvN n ≤ 1 ∨ (1 < lvN n ∧ Hid (Calls Tryd.prog 49 #[.slice A n c, .int .i64 P, .int .i64 (lvN n)] w fun e w' => e = .returned (.bool true) ∧ w' = w)) := by
    by_cases hl : lvN n ≤ 1
    · exact .inl hl
    · rcases h2 with h2 | h2
      · exact absurd h2 hl
      · rw [h2] at hs2; exact .inr ⟨by omega, hid hs2⟩
  clear h2 hs2 hP
  have main : ∀ W, W = w → True := fun _ _ => trivial
  rcases hgt with hl | ⟨hl, HS2⟩
  all_goals
    go_enter Tryd.func21, Tryd.ntmps21
    go_wp2_with (first
      | (go_at_call 42; refine (rleavesT_any _ n c _ hnm).mono ?_; rintro e1 w1 ⟨rfl, hw1⟩; subst w1; rw [HR.out])
      | (go_at_call 49; ((with_reducible refine HS1.out.mono ?_); rintro e1 w1 ⟨rfl, hw1⟩; subst w1))
      | (go_at_call 49; ((with_reducible refine HS2.out.mono ?_); rintro e1 w1 ⟨rfl, hw1⟩; subst w1)))
    go_loopw [30, 2] (fun i _ wr => ∃ j : Nat, i = .int .i64 j ∧ j ≤ n ∧ Hid (∀ k, k < j → rnodeAt xs k = true) ∧ Below w.heap.size w wr) (fun i _ _ => n - (intOf i).toNat)
    case atStart => exact ⟨0, rfl, by omega, hid (fun k hk => by omega), Below.refl _ _⟩
    case round =>
      obtain ⟨j, hi, hj, HJ, hbr⟩ := hrel
      subst hi
      have HB := hid hbr; clear hbr
      by_cases hlt : j < n
      · obtain ⟨b, o, y, A2, c2, rfl, hy, c0, c1, c2', c3, c4, c5, hsy⟩ := (H.out.ext HB.out).at hlt
        have huy := HU.out _ _ hy
        have HY := hid (show rnodeAt xs j = rnodeB xs j y by unfold rnodeAt; rw [hy])
        have hzr := HB.out.size
        have HSY := hid hsy
        clear hy hsy
        rcases hv : rnodeB xs j y with _ | _
        · have HV := hid (HY.out.trans hv)
          go_wp2_with (go_at_call 50; refine (rnode_any1 _ n c xs j y A2 c2 _ ((H.out.ext HB.out).alloc _) hnm (HSY.out.alloc _) huy HU.out HF.out HN2.out hlt).mono ?_; rintro e1 w1 ⟨rfl, hb1⟩; rw [hv]; have HB1 := hid (below_new HB.out hzr hb1).1; clear hb1)
          go_ret
          exact ⟨by rw [rallR_no (by rw [HX.out]; exact hlt) HV.out]; rfl, HB1.out⟩
        · have HV := hid (HY.out.trans hv)
          go_wp2_with (go_at_call 50; refine (rnode_any1 _ n c xs j y A2 c2 _ ((H.out.ext HB.out).alloc _) hnm (HSY.out.alloc _) huy HU.out HF.out HN2.out hlt).mono ?_; rintro e1 w1 ⟨rfl, hb1⟩; rw [hv]; have HB1 := hid (below_new HB.out hzr hb1).1; clear hb1)
          go_roundw
          case rel => exact ⟨j + 1, by go_num, by omega, hid (fun k hk => by
            by_cases hkj : k < j
            · exact HJ.out k hkj
            · rw [show k = j by omega]; exact HV.out), HB1.out⟩
          case measure => simp [intOf]; omega
      · have HE := hid (rallR_yes (xs := xs) fun k hk => HJ.out k (by rw [HX.out] at hk; omega))
        go_wp2
        go_ret
        exact ⟨by rw [HE.out]; rfl, HB.out⟩
theorem rcheck_no (A : Option Addr) (n c : Nat) (xs : List TN) (w : World) (ht : Tr w A n c xs) (hnm : n ≤ 600) (h : rlv n = 0 ∨ rlv n ≠ 0 ∧ someB xs 0 (lvN n) = false ∨ rlv n ≠ 0 ∧ someB xs 0 (lvN n) = true ∧ 1 < lvN n ∧ someB xs (lvN n / 2) (lvN n) = false) :
    Calls Tryd.prog 21 #[.slice A n c] w fun e w' => e = .returned (.int .i64 1) ∧ Below w.heap.size w w' := by
  have hN : lvN n ≤ 301 := by unfold lvN; omega
  rcases h with h | ⟨h0, h1⟩ | ⟨h0, h1, h2, h3⟩
  · go_enter Tryd.func21, Tryd.ntmps21
    go_wp2_with (go_at_call 42; refine (rleavesT_any _ n c _ hnm).mono ?_; rintro e1 w1 ⟨rfl, hw1⟩; subst w1; rw [h])
    go_ret
    exact ⟨rfl, Below.refl _ _⟩
  · obtain ⟨hf, hn2, hr⟩ := rlv_some h0
    have h00 : ((lvN n : Int) == 0) = false := beq_eq_false_iff_ne.2 (by have := fullN_le hf; omega)
    have hs1 : Calls Tryd.prog 49 #[.slice A n c, .int .i64 0, .int .i64 (lvN n)] w fun e w' => e = .returned (.bool (someB xs 0 (lvN n))) ∧ w' = w := some_any A n c xs 0 (lvN n) w ht hnm (Nat.le_refl _) (Nat.zero_le _)
    rw [h1] at hs1
    have HS1 := hid hs1; have HR := hid hr
    clear h0 h1 hf hn2 hr hs1 ht
    go_enter Tryd.func21, Tryd.ntmps21
    go_wp2_with (first
      | (go_at_call 42; refine (rleavesT_any _ n c _ hnm).mono ?_; rintro e1 w1 ⟨rfl, hw1⟩; subst w1; rw [HR.out])
      | (go_at_call 49; refine HS1.out.mono ?_; rintro e1 w1 ⟨rfl, hw1⟩; subst w1))
    go_ret
    exact ⟨rfl, Below.refl _ _⟩
  · obtain ⟨hf, hn2, hr⟩ := rlv_some h0
    have h00 : ((lvN n : Int) == 0) = false := beq_eq_false_iff_ne.2 (by omega)
    have hs1 : Calls Tryd.prog 49 #[.slice A n c, .int .i64 0, .int .i64 (lvN n)] w fun e w' => e = .returned (.bool (someB xs 0 (lvN n))) ∧ w' = w := some_any A n c xs 0 (lvN n) w ht hnm (Nat.le_refl _) (Nat.zero_le _)
    have hs2 := some_any A n c xs (lvN n / 2) (lvN n) w ht hnm (Nat.le_refl _) (by omega)
    rw [h1] at hs1
    rw [h3] at hs2
    have hdiv : (lvN n : Int) / 2 = ((lvN n / 2 : Nat) : Int) := by omega
    generalize lvN n / 2 = P at *
    have HS1 := hid hs1; have HS2 := hid hs2; have HR := hid hr
    clear h0 h1 h3 hf hn2 hr hs1 hs2 ht
    go_enter Tryd.func21, Tryd.ntmps21
    go_wp2_with (first
      | (go_at_call 42; refine (rleavesT_any _ n c _ hnm).mono ?_; rintro e1 w1 ⟨rfl, hw1⟩; subst w1; rw [HR.out])
      | (go_at_call 49; ((with_reducible refine HS1.out.mono ?_); rintro e1 w1 ⟨rfl, hw1⟩; subst w1))
      | (go_at_call 49; ((with_reducible refine HS2.out.mono ?_); rintro e1 w1 ⟨rfl, hw1⟩; subst w1)))
    go_ret
    exact ⟨rfl, Below.refl _ _⟩
end Go.Proofs.YtimdohjlhbpmhaaDoor
