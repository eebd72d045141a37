/- the reference of layer 7: whether a node may stand at its place. -/
import Derived.Test.YtimdohjlhbpmhaaDoorQ4
namespace Go.Proofs.YtimdohjlhbpmhaaDoor
open Go.RowKit Go.KK Go.Shelf
set_option linter.unusedVariables false
set_option linter.unusedSimpArgs false

/-- A parent between a leaf and a node above it lacks the leaf. -/
def badAt (xs : List TN) (x : Nat) (i : Int) (z : Nat) : Bool :=
  match xs[z]? with
  | some q => q.k == 2 && (((z : Nat) : Int) != (x : Int)) && undB (2 * i).toNat z && undB z x && !inB q.u i
  | none => false
def midB (xs : List TN) (x : Nat) (i : Int) : Bool := (List.range xs.length).all fun z => !badAt xs x i z
/-- A parent's list may be, behind a number. -/
def rparF (xs : List TN) (x : Nat) : Int → List Int → Bool
  | _, [] => true
  | last, i :: l => decide (last < i) && decide (i < lfB (x : Int)) && (kd xs (2 * i).toNat == 1) && midB xs x i && rparF xs x i l
theorem bad_is {xs : List TN} {x : Nat} {i : Int} {z : Nat} {q : TN} (h : xs[z]? = some q) : badAt xs x i z = (q.k == 2 && (((z : Nat) : Int) != (x : Int)) && undB (2 * i).toNat z && undB z x && !inB q.u i) := by
  unfold badAt; rw [h]
theorem lf_in : ((List.range 257).all fun N => !fullN (N : Int) || (List.range (2 * N - 1)).all fun x => decide (0 ≤ lfA (x : Int)) && decide (lfA (x : Int) ≤ (N : Int)) && decide (lfB (x : Int) ≤ (N : Int))) = true := by decide +kernel
theorem lf_le {N x : Nat} (hf : fullN (N : Int) = true) (hx : x < 2 * N - 1) : 0 ≤ lfA (x : Int) ∧ lfA (x : Int) ≤ N ∧ lfB (x : Int) ≤ N := by
  have hN := fullN_le hf
  have h := List.all_eq_true.1 lf_in N (List.mem_range.2 (by omega))
  rw [hf, Bool.not_true, Bool.false_or] at h
  have h' := List.all_eq_true.1 h x (List.mem_range.2 hx)
  simp only [Bool.and_eq_true, decide_eq_true_eq] at h'
  exact ⟨h'.1.1, h'.1.2, h'.2⟩
theorem rpar_lo {xs : List TN} {x : Nat} {last i : Int} {l : List Int} (h : i ≤ last) : rparF xs x last (i :: l) = false := by rw [rparF, decide_eq_false (by omega)]; rfl
theorem rpar_hi {xs : List TN} {x : Nat} {last i : Int} {l : List Int} (h : lfB (x : Int) ≤ i) : rparF xs x last (i :: l) = false := by rw [rparF, decide_eq_false (show ¬ i < lfB (x : Int) by omega), Bool.and_false]; rfl
theorem rpar_kd {xs : List TN} {x : Nat} {last i : Int} {l : List Int} (h : kd xs (2 * i).toNat ≠ 1) : rparF xs x last (i :: l) = false := by rw [rparF, beq_eq_false_iff_ne.2 h, Bool.and_false]; rfl
theorem rpar_mid {xs : List TN} {x : Nat} {last i : Int} {l : List Int} (h : midB xs x i = false) : rparF xs x last (i :: l) = false := by rw [rparF, h, Bool.and_false, Bool.false_and]
theorem rpar_go {xs : List TN} {x : Nat} {last i : Int} {l : List Int} (h1 : last < i) (h2 : i < lfB (x : Int)) (h3 : kd xs (2 * i).toNat = 1) (h4 : midB xs x i = true) : rparF xs x last (i :: l) = rparF xs x i l := by
  rw [rparF, decide_eq_true h1, decide_eq_true h2, h3, h4]; rfl
theorem mid_no {xs : List TN} {x : Nat} {i : Int} {z : Nat} (hz : z < xs.length) (h : badAt xs x i z = true) : midB xs x i = false := by
  rcases hh : midB xs x i with _ | _
  · rfl
  · have := List.all_eq_true.1 hh z (List.mem_range.2 hz)
    rw [h] at this; cases this
theorem mid_yes {xs : List TN} {x : Nat} {i : Int} (h : ∀ z, z < xs.length → badAt xs x i z = false) : midB xs x i = true :=
  List.all_eq_true.2 fun z hz => by rw [h z (List.mem_range.1 hz)]; rfl

set_option maxHeartbeats 4000000 in
set_option maxRecDepth 100000 in
theorem rnode_go (A : Option Addr) (n c : Nat) (xs : List TN) (x : Nat) (e h : Int) (u : List Int) (B : Option Addr) (d : Nat) (w : World) (ht : Tr w A n c xs) (hnm : n ≤ 600) (hs : SlA w 1 B u.length d (u.map (.int .i64))) (hu47 : u.length ≤ 2147483648) (hu : Shorts xs) (hf : fullN (lvN n) = true) (hn2 : 2 * (lvN n : Int) - 1 = n) (hx : x < n) (hodd : (x : Int) % 2 ≠ 0) :
    Calls Tryd.prog 50 #[.slice A n c, .int .i64 x, .agg #[.int .i64 2, .int .i64 0, .int .i64 e, .int .i64 0, .int .i64 h, .slice B u.length d]] w fun r w' => r = .returned (.bool (rparF xs x (lfA (x : Int) - 1) u)) ∧ Below w.heap.size w w' := by
  have hb0 : Below w.heap.size w (w.alloc (.cells #[.int .i64 2, .int .i64 0, .int .i64 e, .int .i64 0, .int .i64 h, .slice B u.length d] 25)) := (Below.refl _ _).alloc (Nat.le_refl _) _
  have hN := fullN_le hf
  have hn511 : n ≤ 511 := by omega
  have hN256 : lvN n ≤ 256 := by omega
  have hx510 : x ≤ 510 := by omega
  have hlf := lf_le hf (show x < 2 * lvN n - 1 by omega)
  have ha0 := hlf.1
  have ha1 := hlf.2.1
  have hb1 := hlf.2.2
  have hodd' : ((x : Int) % 2 == 0) = false := beq_eq_false_iff_ne.2 hodd
  have HX := hid ht.len; have H := hid ht; have HS := hid hs; have HU := hid hu
  have hx0 : 2 * (lvN n : Int) ≤ n + 1 := by omega
  have hx1 : (n : Int) + 1 ≤ 2 * (lvN n : Int) := by omega
  have hRL := rleaves_any x
  have HRL := hid (fun w => hRL w hx510)
  have HBX := hid hb0
  clear ht hs hu hf hn2 hlf hodd hN hRL hb0
  have HLA := hid (rfl : lfA (x : Int) = lfA (x : Int))
  go_enter Tryd.func50, Tryd.ntmps50
  go_wp2_with (go_at_call 68; refine (HRL.out _).mono ?_; rintro e1 w1 ⟨rfl, hw1⟩; subst w1)
  go_loopw [52, 10, 6] (fun i la _ wr => ∃ (j : Nat) (last : Int), i = .int .i64 j ∧ la = .int .i64 last ∧ j ≤ u.length ∧ Hid (rparF xs x (lfA (x : Int) - 1) u = rparF xs x last (u.drop j)) ∧ -1 ≤ last ∧ last ≤ 256 ∧ Below w.heap.size w wr) (fun i _ _ _ => u.length - (intOf i).toNat)
  case atStart => exact ⟨0, lfA (x : Int) - 1, rfl, rfl, by omega, hid rfl, by omega, by omega, HBX.out⟩
  case round =>
    obtain ⟨j, last, hi, hla, hj, HJ, hl1, hl2, hbr⟩ := hrel
    subst hi; subst hla
    have HB := hid hbr; clear hbr
    by_cases hlt : j < u.length
    · obtain ⟨b, o, i, rfl, hz, hc⟩ := (HS.out.ext HB.out).elemI hlt
      have HC := hid (drop_get hz); clear hz
      by_cases h1 : last < i
      · by_cases h2 : i < lfB (x : Int)
        · obtain ⟨m, rfl⟩ := Int.eq_ofNat_of_zero_le (show 0 ≤ i by omega)
          obtain ⟨Y, hY⟩ : ∃ Y : Nat, Y = 2 * m := ⟨_, rfl⟩
          have h2m : Y < n := by omega
          obtain ⟨b0, o0, q0, A', c', rfl, hq, c0, -, -, -, -, -, -⟩ := (H.out.ext HB.out).at h2m
          have HK := hid (show kd xs (2 * (m : Int)).toNat = q0.k by rw [show (2 * (m : Int)).toNat = Y by omega]; unfold kd; rw [hq])
          clear hq
          by_cases hk : q0.k = 1
          · have HK1 := hid (HK.out.trans hk)
            rw [hk] at c0
            clear hk
            have HY := hid (show (2 * (m : Int)).toNat = Y by omega)
            have hy : 2 * (m : Int) = (Y : Int) := by omega
            have hy510 : Y ≤ 510 := by omega
            clear hY
            have HH1 := hid h1; have HH2 := hid h2
            go_wp2
            obtain ⟨wo, rfl⟩ : ∃ wo : World, wo = wr := ⟨_, rfl⟩
            go_loopw [76, 6] (fun i _ w2 => ∃ z : Nat, i = .int .i64 z ∧ z ≤ n ∧ Hid (∀ k, k < z → badAt xs x (m : Int) k = false) ∧ Below w.heap.size w w2) (fun i _ _ => n - (intOf i).toNat)
            case atStart => exact ⟨0, rfl, by omega, hid (fun k hk => by omega), HB.out⟩
            case round =>
              obtain ⟨z, hi, hz, HZ, hb3⟩ := hrel
              subst hi
              have HB3 := hid hb3; clear hb3
              by_cases hzn : z < n
              · obtain ⟨b1, o1, q, A2, c2, e1, hq, d0, d1, d2, d3, d4, d5, hsq⟩ := (H.out.ext HB3.out).at hzn
                injection e1 with e1; injection e1 with e1 e2; subst e1; subst e2
                have hqu := HU.out _ _ hq
                have HBI := hid (bad_is (x := x) (i := (m : Int)) hq)
                have HQS := hid hsq
                have hzr := HB3.out.size
                clear hq hsq
                by_cases hk2 : q.k = 2
                · have hk2' : (q.k == 2) = true := beq_iff_eq.2 hk2
                  by_cases hzx : (z : Int) = (x : Int)
                  · have hzx' : ((z : Int) != (x : Int)) = false := by rw [hzx]; simp
                    have HBD := hid (show badAt xs x (m : Int) z = false by rw [HBI.out, hzx']; simp)
                    clear hk2 hzx
                    go_wp2_with (first
                      | (go_at_call 69; refine (under_any _ _ _ (by omega) (by omega)).mono ?_; rintro e7 w7 ⟨rfl, hw7⟩; subst w7)
                      | (go_at_call 23; refine (in_any A2 _ c2 q.u m _ (HQS.out.ext ((Below.refl _ _).alloc (Nat.le_refl _) _)) hqu).mono ?_; rintro e7 w7 ⟨rfl, hw7⟩; subst w7))
                    go_roundw
                    case rel => exact ⟨z + 1, by go_num, by omega, hid (fun k hk => by
                      by_cases hkz : k < z
                      · exact HZ.out k hkz
                      · rw [show k = z by omega]; exact HBD.out), HB3.out.alloc HB3.out.size _⟩
                    case measure => simp [intOf]; omega
                  · have hzx' : ((z : Int) != (x : Int)) = true := bne_iff_ne.2 hzx
                    rcases hu1 : undB Y z with _ | _
                    · have HBD := hid (show badAt xs x (m : Int) z = false by rw [HBI.out, HY.out, hu1]; simp)
                      clear hk2 hzx
                      go_wp2_with (first
                        | (go_at_call 69; refine (under_any _ _ _ (by omega) (by omega)).mono ?_; rintro e7 w7 ⟨rfl, hw7⟩; subst w7)
                        | (go_at_call 23; refine (in_any A2 _ c2 q.u m _ (HQS.out.ext ((Below.refl _ _).alloc (Nat.le_refl _) _)) hqu).mono ?_; rintro e7 w7 ⟨rfl, hw7⟩; subst w7))
                      go_roundw
                      case rel => exact ⟨z + 1, by go_num, by omega, hid (fun k hk => by
                        by_cases hkz : k < z
                        · exact HZ.out k hkz
                        · rw [show k = z by omega]; exact HBD.out), HB3.out.alloc HB3.out.size _⟩
                      case measure => simp [intOf]; omega
                    · rcases hu2 : undB z x with _ | _
                      · have HBD := hid (show badAt xs x (m : Int) z = false by rw [HBI.out, hu2]; simp)
                        clear hk2 hzx
                        go_wp2_with (first
                          | (go_at_call 69; refine (under_any _ _ _ (by omega) (by omega)).mono ?_; rintro e7 w7 ⟨rfl, hw7⟩; subst w7)
                          | (go_at_call 23; refine (in_any A2 _ c2 q.u m _ (HQS.out.ext ((Below.refl _ _).alloc (Nat.le_refl _) _)) hqu).mono ?_; rintro e7 w7 ⟨rfl, hw7⟩; subst w7))
                        go_roundw
                        case rel => exact ⟨z + 1, by go_num, by omega, hid (fun k hk => by
                          by_cases hkz : k < z
                          · exact HZ.out k hkz
                          · rw [show k = z by omega]; exact HBD.out), HB3.out.alloc HB3.out.size _⟩
                        case measure => simp [intOf]; omega
                      · rcases hin : inB q.u (m : Int) with _ | _
                        · have HBD := hid (show badAt xs x (m : Int) z = true by rw [HBI.out, HY.out, hk2', hzx', hu1, hu2, hin]; rfl)
                          have HF := hid (show rparF xs x (lfA (x : Int) - 1) u = false by rw [HJ.out, HC.out]; exact rpar_mid (mid_no (by rw [HX.out]; exact hzn) HBD.out))
                          clear hk2 hzx
                          go_wp2_with (first
                            | (go_at_call 69; refine (under_any _ _ _ (by omega) (by omega)).mono ?_; rintro e7 w7 ⟨rfl, hw7⟩; subst w7)
                            | (go_at_call 23; refine (in_any A2 _ c2 q.u m _ (HQS.out.ext ((Below.refl _ _).alloc (Nat.le_refl _) _)) hqu).mono ?_; rintro e7 w7 ⟨rfl, hw7⟩; subst w7))
                          go_ret
                          exact ⟨by rw [HF.out]; rfl, HB3.out.alloc HB3.out.size _⟩
                        · have HBD := hid (show badAt xs x (m : Int) z = false by rw [HBI.out, hin]; simp)
                          clear hk2 hzx
                          go_wp2_with (first
                            | (go_at_call 69; refine (under_any _ _ _ (by omega) (by omega)).mono ?_; rintro e7 w7 ⟨rfl, hw7⟩; subst w7)
                            | (go_at_call 23; refine (in_any A2 _ c2 q.u m _ (HQS.out.ext ((Below.refl _ _).alloc (Nat.le_refl _) _)) hqu).mono ?_; rintro e7 w7 ⟨rfl, hw7⟩; subst w7))
                          go_roundw
                          case rel => exact ⟨z + 1, by go_num, by omega, hid (fun k hk => by
                            by_cases hkz : k < z
                            · exact HZ.out k hkz
                            · rw [show k = z by omega]; exact HBD.out), HB3.out.alloc HB3.out.size _⟩
                          case measure => simp [intOf]; omega
                · have hk2' : (q.k == 2) = false := beq_eq_false_iff_ne.2 hk2
                  have HBD := hid (show badAt xs x (m : Int) z = false by rw [HBI.out, hk2']; simp)
                  clear hk2
                  go_wp2_with (first
                    | (go_at_call 69; refine (under_any _ _ _ (by omega) (by omega)).mono ?_; rintro e7 w7 ⟨rfl, hw7⟩; subst w7)
                    | (go_at_call 23; refine (in_any A2 _ c2 q.u m _ (HQS.out.ext ((Below.refl _ _).alloc (Nat.le_refl _) _)) hqu).mono ?_; rintro e7 w7 ⟨rfl, hw7⟩; subst w7))
                  go_roundw
                  case rel => exact ⟨z + 1, by go_num, by omega, hid (fun k hk => by
                    by_cases hkz : k < z
                    · exact HZ.out k hkz
                    · rw [show k = z by omega]; exact HBD.out), HB3.out.alloc HB3.out.size _⟩
                  case measure => simp [intOf]; omega
              · have HMI := hid (mid_yes (xs := xs) (x := x) (i := (m : Int)) fun k hk => HZ.out k (by rw [HX.out] at hk; omega))
                have HJ2 := hid (show rparF xs x (lfA (x : Int) - 1) u = rparF xs x (m : Int) (u.drop (j + 1)) by rw [HJ.out, HC.out]; exact rpar_go HH1.out HH2.out HK1.out HMI.out)
                have hm256 : (m : Int) ≤ 256 := by omega
                go_wp2
                go_roundw
                case rel => exact ⟨j + 1, m, by go_num, rfl, by omega, HJ2, by omega, hm256, HB3.out⟩
                case measure => simp [intOf]; omega
          · have HF := hid (show rparF xs x (lfA (x : Int) - 1) u = false by rw [HJ.out, HC.out]; exact rpar_kd (by rw [HK.out]; exact hk))
            have hy : 2 * (m : Int) = (Y : Int) := by omega
            clear hY
            have hk' : (q0.k != 1) = true := bne_iff_ne.2 hk
            clear hk
            go_wp2
            go_ret
            exact ⟨by rw [HF.out]; rfl, HB.out⟩
        · have HF := hid (show rparF xs x (lfA (x : Int) - 1) u = false by rw [HJ.out, HC.out]; exact rpar_hi (by omega))
          have h2' : lfB (x : Int) ≤ i := by omega
          clear h2
          go_wp2
          go_ret
          exact ⟨by rw [HF.out]; rfl, HB.out⟩
      · have HF := hid (show rparF xs x (lfA (x : Int) - 1) u = false by rw [HJ.out, HC.out]; exact rpar_lo (by omega))
        have h1' : i ≤ last := by omega
        clear h1
        go_wp2
        go_ret
        exact ⟨by rw [HF.out]; rfl, HB.out⟩
    · have HF := hid (show rparF xs x (lfA (x : Int) - 1) u = true by rw [HJ.out, List.drop_of_length_le (by omega)]; rfl)
      go_wp2
      go_ret
      exact ⟨by rw [HF.out]; rfl, HB.out⟩
end Go.Proofs.YtimdohjlhbpmhaaDoor
