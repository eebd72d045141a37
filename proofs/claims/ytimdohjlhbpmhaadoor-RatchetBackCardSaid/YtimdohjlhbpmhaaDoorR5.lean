/- ratchet: whether a node may be a parent at its place: where its head may be. -/
import Derived.Test.YtimdohjlhbpmhaaDoorR4
namespace Go.Proofs.YtimdohjlhbpmhaaDoor
open Go.RowKit Go.KK
set_option linter.unusedVariables false
set_option linter.unusedSimpArgs false

theorem drop_get {α : Type} {l : List α} {k : Nat} {x : α} (h : l[k]? = some x) : l.drop k = x :: l.drop (k + 1) := by
  obtain ⟨hk, rfl⟩ := List.getElem?_eq_some_iff.1 h
  exact List.drop_eq_getElem_cons hk
theorem pres_in {xs : List TN} {i : Int} (h : pres xs i = true) : 0 ≤ i ∧ i < lvN xs.length := by
  unfold pres at h
  simp only [Bool.and_eq_true, decide_eq_true_eq] at h
  exact h.1
theorem all_no {f : Int → Bool} {z : Int} {l : List Int} (h : f z = false) : Ending.returned (.bool ((z :: l).all f)) = Ending.returned (.bool false) := by rw [List.all_cons, h]; rfl
theorem one_lo {xs : List TN} {x z : Int} (h : z < lfA x) : oneB xs x z = false := by unfold oneB; rw [decide_eq_false (by omega)]; rfl
theorem one_hi {xs : List TN} {x z : Int} (h : lfB x ≤ z) : oneB xs x z = false := by unfold oneB; rw [decide_eq_false (show ¬ z < lfB x by omega), Bool.and_false]; rfl
theorem one_pres {xs : List TN} {x z : Int} (h : pres xs z = false) : oneB xs x z = false := by unfold oneB; simp [h]
theorem one_path {xs : List TN} {x z : Int} (h : pthB xs x z = false) : oneB xs x z = false := by unfold oneB; simp [h]
theorem one_yes {xs : List TN} {x z : Int} (h1 : lfA x ≤ z) (h2 : z < lfB x) (h3 : pres xs z = true) (h4 : pthB xs x z = true) : oneB xs x z = true := by unfold oneB; simp [h1, h2, h3, h4]
/-- What is looked at up to a node. -/
def twB (f : Int → Bool) (x : Int) (l : List Int) : Bool := (l.takeWhile (fun y => y != x)).all f
def goodB (xs : List TN) (z y : Int) : Bool := kd xs y.toNat != 2 || (um xs y.toNat).contains z
theorem tw_stop (f : Int → Bool) (x : Int) (l : List Int) : twB f x (x :: l) = true := by unfold twB; rw [List.takeWhile_cons]; simp
theorem tw_no {f : Int → Bool} {x y : Int} {l : List Int} (h : ¬ y = x) (hf : f y = false) : twB f x (y :: l) = false := by unfold twB; rw [List.takeWhile_cons, if_pos (by simpa using h), List.all_cons, hf, Bool.false_and]
theorem tw_go {f : Int → Bool} {x y : Int} {l : List Int} (h : ¬ y = x) (hf : f y = true) : twB f x (y :: l) = twB f x l := by unfold twB; rw [List.takeWhile_cons, if_pos (by simpa using h), List.all_cons, hf, Bool.true_and]
theorem good_is {xs : List TN} {z : Int} {j : Nat} {q : TN} {b : Bool} (h : xs[j]? = some q) (hb : (q.k != 2 || q.u.contains z) = b) : goodB xs z (j : Int) = b := by
  unfold goodB kd um; rw [Int.toNat_natCast, h]; exact hb
theorem pathF_le (n : Int) : ∀ (f : Nat) (x : Int), (pathF f x n).length ≤ f
  | 0, _ => Nat.le_refl _
  | f + 1, x => by
    rw [pathF]
    split
    · simp
    · have := pathF_le n f (upV x); simp; omega
theorem pathL_le (x n : Int) : (pathL x n).length ≤ 9 := pathF_le n 9 x
theorem pathF_in {n : Int} (hf : fullN n = true) : ∀ (f : Nat) (x : Int), 0 ≤ x → x < 2 * n - 1 → ∀ y ∈ pathF f x n, 0 ≤ y ∧ y < 2 * n - 1
  | 0, _, _, _, _, h => by cases h
  | f + 1, x, h0, h1, y, h => by
    rw [pathF] at h
    split at h
    · cases h
    · rename_i hne
      obtain ⟨a, b, _⟩ := up_in hf h0 h1 hne
      rcases List.mem_cons.1 h with rfl | h
      · exact ⟨a, b⟩
      · exact pathF_in hf f _ a b y h
theorem path_in {x n : Int} (hf : fullN n = true) (h0 : 0 ≤ x) (h1 : x < 2 * n - 1) : ∀ y ∈ pathL x n, 0 ≤ y ∧ y < 2 * n - 1 := pathF_in hf 9 x h0 h1
set_option maxHeartbeats 2000000 in
theorem parent_go (A : Option Addr) (n c : Nat) (xs : List TN) (x : Int) (e h : Int) (u : List Int) (B : Option Addr) (m d : Nat) (w : World) (hs : SlA w 1 B m d (u.map (.int .i64))) (hm47 : m ≤ 2147483648) (hr : riseB u = true) (h0 : Tr w A n c xs) (hnm : n ≤ 600) (hx0 : 0 ≤ x) (hx1 : x ≤ 510) (hf : fullN (lvN n) = true) (hT : Tab w) (hu : ∀ (j : Nat) (q : TN), xs[j]? = some q → q.u.length ≤ 2147483648) :
    Calls Tryd.prog 53 #[.slice A n c, .int .i64 x, .agg #[.int .i64 2, .int .i64 0, .int .i64 e, .int .i64 0, .int .i64 h, .slice B m d]] w fun e w' => e = .returned (.bool (u.all (oneB xs x))) ∧ Below w.heap.size w w' := by
  have HN := hid hs.lenI
  have hh : sortB u = true ∧ ((Lib.compact u).length : Int) = (m : Int) := by
    unfold riseB at hr
    rw [Bool.and_eq_true, HN.out] at hr
    exact ⟨hr.1, by simpa using hr.2⟩
  have hso := hh.1
  have hc : (((Lib.compact u).length : Int) != (m : Int)) = false := by rw [hh.2]; simp
  clear hh
  have H0 := hid h0; have HT := hid hT; have HF := hid hf; have HU := hid hu; clear hu
  clear h0 hT hf
  have HSO := hid hso; have HS := hid hs
  clear hr hso hs
  go_enter Tryd.func53, Tryd.ntmps53
  go_wp2
  have hb0 : Below w.heap.size w (w.alloc (.cells #[.int .i64 2, .int .i64 0, .int .i64 e, .int .i64 0, .int .i64 h, .slice B m d] 25)) := (Below.refl _ _).alloc (Nat.le_refl _) _
  have hz0 : w.heap.size + 1 ≤ (w.alloc (.cells #[.int .i64 2, .int .i64 0, .int .i64 e, .int .i64 0, .int .i64 h, .slice B m d] 25)).heap.size := by simp
  have k0 : (w.alloc (.cells #[.int .i64 2, .int .i64 0, .int .i64 e, .int .i64 0, .int .i64 h, .slice B m d] 25)).cell? ⟨w.heap.size, 0, none⟩ = some (.int .i64 2) := by rw [World.cell?_alloc_new]; rfl
  have k1 : (w.alloc (.cells #[.int .i64 2, .int .i64 0, .int .i64 e, .int .i64 0, .int .i64 h, .slice B m d] 25)).cell? ⟨w.heap.size, 1, none⟩ = some (.int .i64 0) := by rw [World.cell?_alloc_new]; rfl
  have k3 : (w.alloc (.cells #[.int .i64 2, .int .i64 0, .int .i64 e, .int .i64 0, .int .i64 h, .slice B m d] 25)).cell? ⟨w.heap.size, 3, none⟩ = some (.int .i64 0) := by rw [World.cell?_alloc_new]; rfl
  have k5 : (w.alloc (.cells #[.int .i64 2, .int .i64 0, .int .i64 e, .int .i64 0, .int .i64 h, .slice B m d] 25)).cell? ⟨w.heap.size, 5, none⟩ = some (.slice B m d) := by rw [World.cell?_alloc_new]; rfl
  generalize w.alloc (.cells #[.int .i64 2, .int .i64 0, .int .i64 e, .int .i64 0, .int .i64 h, .slice B m d] 25) = W0 at hb0 hz0 k0 k1 k3 k5 ⊢
  go_region_held3 (fun w' => w'.cell? ⟨w.heap.size, 0, none⟩ = some (.int .i64 2) ∧ w'.cell? ⟨w.heap.size, 1, none⟩ = some (.int .i64 0) ∧ w'.cell? ⟨w.heap.size, 3, none⟩ = some (.int .i64 0) ∧ w'.cell? ⟨w.heap.size, 5, none⟩ = some (.slice B m d) ∧ Below w.heap.size w w' ∧ w.heap.size + 1 ≤ w'.heap.size) (first | exact ⟨k0, k1, k3, k5, hb0, hz0⟩ | exact ⟨k0, k1, k3, k5, below_drew hb0, hz0⟩ | exact ⟨k0, k1, k3, k5, below_drewN hb0 _, hz0⟩ | exact ⟨r0, r1, r3, r5, rb, rz⟩ | exact ⟨s0, s1, s3, s5, sb, sz⟩ | go_keep) (first
    | (go_at_call 73; refine (sorted_any B m d u _ (HS.out.ext (below_drew hb0)) hm47).mono ?_; rintro e1 w1 ⟨rfl, q, rfl⟩; rw [HSO.out])
    | (go_at_call 58; refine (clone_int B m d u _ (HS.out.ext (below_drewN hb0 (1 + q))) hm47).mono ?_; rintro e2 w2 ⟨v2, rfl, hown2, hb2⟩; have r0 := (hb2.cell (p := ⟨w.heap.size, 0, none⟩) hz0).trans k0; have r1 := (hb2.cell (p := ⟨w.heap.size, 1, none⟩) hz0).trans k1; have r3 := (hb2.cell (p := ⟨w.heap.size, 3, none⟩) hz0).trans k3; have r5 := (hb2.cell (p := ⟨w.heap.size, 5, none⟩) hz0).trans k5; have rb := (below_drewN hb0 (1 + q)).trans (hb2.mono (Nat.le_of_succ_le hz0)); have rz := Nat.le_trans hz0 hb2.size)
    | (go_at_call 74; refine (compact_own _ v2 m u _ hown2 hm47).mono ?_; rintro e3 w3 ⟨A3, c3, rfl, hb3⟩; have s0 := (hb3.cell (p := ⟨w.heap.size, 0, none⟩) hz0).trans r0; have s1 := (hb3.cell (p := ⟨w.heap.size, 1, none⟩) hz0).trans r1; have s3 := (hb3.cell (p := ⟨w.heap.size, 3, none⟩) hz0).trans r3; have s5 := (hb3.cell (p := ⟨w.heap.size, 5, none⟩) hz0).trans r5; have sb := rb.trans (hb3.mono (Nat.le_of_succ_le hz0)); have sz := Nat.le_trans rz hb3.size))
  have SB := hid sb
  clear s0 s1 s3 r0 r1 r3 r5 rb k0 k1 k3 k5 hb0 hb3 hb2 hown2 hc
  have hsn := SB.out.size
  go_wp2_with (first
    | (go_at_call 75; refine (leaves_any x _ hx0 hx1 (HT.out.ext SB.out)).mono ?_; rintro e4 w4 ⟨rfl, rfl⟩))
  have HX := hid H0.out.len
  go_loopw [55, 6] (fun i _ wr => ∃ j : Nat, i = .int .i64 j ∧ j ≤ m ∧ Hid (u.all (oneB xs x) = (u.drop j).all (oneB xs x)) ∧ Below w.heap.size w wr) (fun i _ _ => m - (intOf i).toNat)
  case atStart => exact ⟨0, rfl, by omega, hid rfl, SB.out⟩
  case round =>
    obtain ⟨j, hi, hj, HD, hbr⟩ := hrel
    subst hi
    have HB := hid hbr; clear hbr
    by_cases hlt : j < m
    · obtain ⟨b, o, z, rfl, hz, hc⟩ := (HS.out.ext HB.out).elemI hlt
      have HC := hid (drop_get hz); clear hz
      by_cases h1 : lfA x ≤ z
      · by_cases h2 : z < lfB x
        · rcases hp : pres xs z with _ | _
          · go_wp2_with (go_at_call 35; refine (present_any _ n c xs _ _ (H0.out.ext HB.out) hnm).mono ?_; rintro e w' ⟨rfl, rfl⟩; rw [hp])
            go_ret
            exact ⟨by rw [HD.out, HC.out]; exact (all_no (one_pres hp)).symm, HB.out⟩
          · obtain ⟨z0, z1⟩ := pres_in hp
            rw [HX.out] at z1
            have hN : lvN n ≤ 301 := by unfold lvN; omega
            have HP := hid hp
            go_wp2_with (first
              | (go_at_call 35; refine (present_any _ n c xs _ _ (H0.out.ext HB.out) hnm).mono ?_; rintro e w' ⟨rfl, rfl⟩; rw [hp])
              | (go_at_call 36; refine (leavesT_any _ n c _ hnm).mono ?_; rintro e w' ⟨rfl, rfl⟩)
              | (go_at_call 59; refine (path_any (2 * z) (lvN n) _ HF.out (by omega) (by omega) (HT.out.ext HB.out)).mono ?_; rintro e5 w5 ⟨v5, rfl, hown5, hb5⟩; obtain ⟨A5, c5, rfl, hs5⟩ := SlA.owned hown5))
            have HL := hid hs5.lenI
            have HS5 := hid hs5
            have HB5 := hid (HB.out.trans (hb5.mono HB.out.size))
            have HI := hid (@path_in (2 * z) (lvN n) HF.out (by omega) (by omega))
            clear hs5 hown5 hb5 hp
            have hpl : (pathL (2 * z) (lvN n)).length ≤ 9 := pathL_le _ _
            go_loop [83, 6] (fun i _ => ∃ k : Nat, i = .int .i64 k ∧ k ≤ (pathL (2 * z) (lvN n)).length ∧ Hid (pthB xs x z = twB (goodB xs z) x ((pathL (2 * z) (lvN n)).drop k))) (fun i _ => (pathL (2 * z) (lvN n)).length - (intOf i).toNat)
            case atStart => exact ⟨0, rfl, by omega, hid (by unfold pthB twB goodB; rw [HX.out]; rfl)⟩
            case round =>
              obtain ⟨k, hi, hk, HK⟩ := hrel
              subst hi
              by_cases hlk : k < (pathL (2 * z) (lvN n)).length
              · obtain ⟨b5, o5, y, rfl, hy, hcy⟩ := HS5.out.elemI hlk
                have HY := hid (drop_get hy)
                obtain ⟨y0, y1⟩ := HI.out y (List.mem_of_getElem? hy)
                clear hy
                by_cases hyx : y = x
                · subst hyx
                  have hpt : pthB xs y z = true := by rw [HK.out, HY.out]; exact tw_stop _ _ _
                  have HO := hid (one_yes h1 h2 HP.out hpt); clear hpt
                  go_wp2
                  go_roundw
                  case rel => exact ⟨j + 1, by go_num, by omega, hid (by rw [HD.out, HC.out, List.all_cons, HO.out, Bool.true_and]), HB5.out⟩
                  case measure => simp [intOf]; omega
                · have hyx' : (y == x) = false := beq_eq_false_iff_ne.2 hyx
                  obtain ⟨yn, rfl⟩ := Int.eq_ofNat_of_zero_le y0
                  have hyn : yn < n := by unfold lvN at y1; omega
                  obtain ⟨b0, o0, q, Aq, cq, rfl, hq, c0, -, -, -, -, cq5, hsq⟩ := (H0.out.ext HB5.out).at hyn
                  have hqu := HU.out _ _ hq; have HQ := hid hq; clear hq
                  by_cases hq2 : q.k = 2
                  · have HQ2 := hid hq2
                    rw [hq2] at c0
                    rcases hct : q.u.contains z with _ | _
                    · have hpt : pthB xs x z = false := by rw [HK.out, HY.out]; exact tw_no hyx (good_is HQ.out (by rw [hct, HQ2.out]; rfl))
                      have HO := hid (one_path hpt); clear hpt hq2 hyx
                      go_wp2_with (go_at_call 76; refine (contains_any Aq _ cq q.u z _ hsq (by omega)).mono ?_; rintro e w' ⟨rfl, rfl⟩; rw [hct])
                      go_ret
                      exact ⟨by rw [HD.out, HC.out]; exact (all_no HO.out).symm, HB5.out⟩
                    · have hpt : pthB xs x z = twB (goodB xs z) x ((pathL (2 * z) (lvN n)).drop (k + 1)) := by rw [HK.out, HY.out]; exact tw_go hyx (good_is HQ.out (by rw [hct, HQ2.out]; rfl))
                      have HO := hid hpt; clear hpt hq2 hyx
                      go_wp2_with (go_at_call 76; refine (contains_any Aq _ cq q.u z _ hsq (by omega)).mono ?_; rintro e w' ⟨rfl, rfl⟩; rw [hct])
                      go_round
                      case rel => exact ⟨k + 1, by go_num, by omega, HO⟩
                      case measure => simp [intOf]; omega
                  · have hq2' : (q.k == 2) = false := beq_eq_false_iff_ne.2 hq2
                    have hpt : pthB xs x z = twB (goodB xs z) x ((pathL (2 * z) (lvN n)).drop (k + 1)) := by rw [HK.out, HY.out]; exact tw_go hyx (good_is HQ.out (by simp [hq2]))
                    have HO := hid hpt; clear hpt hq2 hyx
                    go_wp2
                    go_round
                    case rel => exact ⟨k + 1, by go_num, by omega, HO⟩
                    case measure => simp [intOf]; omega
              · have hpt : pthB xs x z = true := by rw [HK.out, List.drop_of_length_le (by omega)]; rfl
                have HO := hid (one_yes h1 h2 HP.out hpt); clear hpt
                go_wp2
                go_roundw
                case rel => exact ⟨j + 1, by go_num, by omega, hid (by rw [HD.out, HC.out, List.all_cons, HO.out, Bool.true_and]), HB5.out⟩
                case measure => simp [intOf]; omega
        · go_wp2
          go_ret
          exact ⟨by rw [HD.out, HC.out]; exact (all_no (one_hi (by omega))).symm, HB.out⟩
      · go_wp2
        go_ret
        exact ⟨by rw [HD.out, HC.out]; exact (all_no (one_lo (by omega))).symm, HB.out⟩
    · go_wp2
      go_ret
      exact ⟨by rw [HD.out, List.drop_of_length_le (by have := HN.out; omega)]; rfl, HB.out⟩

end Go.Proofs.YtimdohjlhbpmhaaDoor
