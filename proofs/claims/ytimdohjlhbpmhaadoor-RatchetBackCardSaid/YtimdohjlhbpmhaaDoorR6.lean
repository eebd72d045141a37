/- ratchet: whether a node may be a parent; whether a tree may be. -/
import Derived.Test.YtimdohjlhbpmhaaDoorR5
namespace Go.Proofs.YtimdohjlhbpmhaaDoor
open Go.RowKit Go.KK
set_option linter.unusedVariables false
set_option linter.unusedSimpArgs false

theorem bcell {W w1 : World} (hb : Below W.heap.size W w1) : (∀ b o, b < W.heap.size → w1.cell? ⟨b, o, none⟩ = W.cell? ⟨b, o, none⟩) ∧ (∀ b o, b < W.heap.size → w1.frozen? ⟨b, o, none⟩ = W.frozen? ⟨b, o, none⟩) :=
  ⟨fun b o h => hb.cell (p := ⟨b, o, none⟩) h, fun b o h => hb.frozen (p := ⟨b, o, none⟩) h⟩
theorem below_new {B : Nat} {a wr w2 : World} {o : Obj} (h : Below B a wr) (hB : B ≤ wr.heap.size) (hb : Below (wr.alloc o).heap.size (wr.alloc o) w2) : Below B a w2 ∧ wr.heap.size + 1 ≤ w2.heap.size := by
  have h1 := hb.size
  rw [World.size_alloc] at h1
  exact ⟨(h.alloc hB o).trans (hb.mono (by rw [World.size_alloc]; omega)), h1⟩
theorem new_cell {w w2 : World} {xs : Array Value} {t : TypeId} (hb : Below (w.alloc (.cells xs t)).heap.size (w.alloc (.cells xs t)) w2) (i : Nat) : w2.cell? ⟨w.heap.size, i, none⟩ = xs[i]? := by
  rw [hb.cell (p := ⟨w.heap.size, i, none⟩) (by rw [World.size_alloc]; exact Nat.lt_succ_self _), World.cell?_alloc_at xs t _ i rfl]
/-- All lists of a tree are short. -/
def Shorts (xs : List TN) : Prop := ∀ (j : Nat) (q : TN), xs[j]? = some q → q.u.length ≤ 2147483648

theorem parent_any (A : Option Addr) (n c : Nat) (xs : List TN) (x : Int) (k i e s h : Int) (u : List Int) (B : Option Addr) (m d : Nat) (w : World) (hs : SlA w 1 B m d (u.map (.int .i64))) (hm47 : m ≤ 2147483648) (h0 : Tr w A n c xs) (hnm : n ≤ 600) (hx0 : 0 ≤ x) (hx1 : x ≤ 510) (hf : fullN (lvN n) = true) (hT : Tab w) (hu : Shorts xs) :
    Calls Tryd.prog 53 #[.slice A n c, .int .i64 x, .agg #[.int .i64 k, .int .i64 i, .int .i64 e, .int .i64 s, .int .i64 h, .slice B m d]] w fun r w' => r = .returned (.bool (parB xs x ⟨k, i, e, s, h, u⟩)) ∧ Below w.heap.size w w' := by
  by_cases hk : k = 2
  · subst hk
    by_cases hi : i = 0
    · subst hi
      by_cases hss : s = 0
      · subst hss
        rcases hso : sortB u with _ | _
        · have hp : parB xs x ⟨2, 0, e, 0, h, u⟩ = false := by unfold parB riseB; simp [hso]
          rw [hp]; exact parent_o A n c x e h u B m d w hs hm47 hso
        · rcases hr : riseB u with _ | _
          · have hp : parB xs x ⟨2, 0, e, 0, h, u⟩ = false := by unfold parB; simp [hr]
            rw [hp]; exact parent_c A n c x e h u B m d w hs hm47 hso hr
          · have hp : parB xs x ⟨2, 0, e, 0, h, u⟩ = u.all (oneB xs x) := by unfold parB; simp [hr]
            rw [hp]; exact parent_go A n c xs x e h u B m d w hs hm47 hr h0 hnm hx0 hx1 hf hT hu
      · have hp : parB xs x ⟨2, 0, e, s, h, u⟩ = false := by unfold parB; simp [hss]
        rw [hp]; exact parent_s A n c x e s h B m d w hss
    · have hp : parB xs x ⟨2, i, e, s, h, u⟩ = false := by unfold parB; simp [hi]
      rw [hp]; exact parent_i A n c x i e s h B m d w hi
  · have hp : parB xs x ⟨k, i, e, s, h, u⟩ = false := by unfold parB; simp [hk]
    rw [hp]; exact parent_k A n c x k i e s h B m d w hk

/-- A node may stand at its place. -/
def okB (xs : List TN) (j : Nat) (x : TN) : Bool :=
  if x.k = 0 then (orN x.k x.i x.e x.s x.h == 0 && ((x.u.length : Nat) : Int) == 0)
  else if (j : Int) % 2 = 0 then (x.k == 1 && ((x.u.length : Nat) : Int) == 0) else parB xs j x
def okAt (xs : List TN) (j : Nat) : Bool := match xs[j]? with | some x => okB xs j x | none => true
/-- A tree may be. -/
def chkB (xs : List TN) : Bool := fullN (lvN xs.length) && (2 * (lvN xs.length : Int) - 1 == (xs.length : Int)) && !halfB xs && (List.range xs.length).all (okAt xs)

def allR (xs : List TN) : Int := if (List.range xs.length).all (okAt xs) then 0 else 1
theorem allR_yes {xs : List TN} (h : ∀ k, k < xs.length → okAt xs k = true) : allR xs = 0 := by
  unfold allR; rw [if_pos (List.all_eq_true.2 fun k hk => h k (List.mem_range.1 hk))]
theorem allR_no {xs : List TN} {k : Nat} (hk : k < xs.length) (h : okAt xs k = false) : allR xs = 1 := by
  unfold allR; rw [if_neg fun hh => by rw [List.all_eq_true.1 hh k (List.mem_range.2 hk)] at h; cases h]
theorem check_no (A : Option Addr) (n c : Nat) (xs : List TN) (w : World) (h : Tr w A n c xs) (hnm : n ≤ 600) (hno : fullN (lvN n) = false ∨ fullN (lvN n) = true ∧ 2 * (lvN n : Int) - 1 ≠ n ∨ fullN (lvN n) = true ∧ 2 * (lvN n : Int) - 1 = n ∧ halfB xs = true) :
    Calls Tryd.prog 29 #[.slice A n c] w fun e w' => e = .returned (.int .i64 1) ∧ Below w.heap.size w w' := by
  rcases hno with hno | ⟨hf, hno⟩ | ⟨hf, hno, hh⟩
  · go_enter Tryd.func29, Tryd.ntmps29
    go_wp2_with (first
      | (go_at_call 36; refine (leavesT_any _ n c _ hnm).mono ?_; rintro e w' ⟨rfl, hw'⟩; subst w')
      | (go_at_call 51; refine (width_any _ _).mono ?_; rintro e w1 ⟨rfl, hb⟩; rw [hno]))
    go_ret
    exact ⟨rfl, hb⟩
  · have hne : ((2 * (lvN n : Int) - 1) != (n : Int)) = true := bne_iff_ne.2 hno
    go_enter Tryd.func29, Tryd.ntmps29
    go_wp2_with (first
      | (go_at_call 36; refine (leavesT_any _ n c _ hnm).mono ?_; rintro e w' ⟨rfl, hw'⟩; subst w')
      | (go_at_call 51; refine (width_any _ _).mono ?_; rintro e w1 ⟨rfl, hb⟩; rw [hf]))
    go_ret
    exact ⟨rfl, hb⟩
  · have hne : ((2 * (lvN n : Int) - 1) != (n : Int)) = false := by rw [hno]; simp
    clear hno
    have HH := hid h; clear h
    go_enter Tryd.func29, Tryd.ntmps29
    go_wp2_with (first
      | (go_at_call 36; refine (leavesT_any _ n c _ hnm).mono ?_; rintro e w' ⟨rfl, hw'⟩; subst w')
      | (go_at_call 51; refine (width_any _ _).mono ?_; rintro e w1 ⟨rfl, hb⟩; rw [hf]; have HB := hid hb; clear hb)
      | (go_at_call 46; refine (half_any _ n c xs _ (HH.out.ext HB.out) hnm).mono ?_; rintro e w' ⟨rfl, hw'⟩; subst w'; rw [hh]))
    go_ret
    exact ⟨rfl, HB.out⟩

set_option maxHeartbeats 1000000 in
theorem check_go (A : Option Addr) (n c : Nat) (xs : List TN) (w : World) (h : Tr w A n c xs) (hnm : n ≤ 600) (hf : fullN (lvN n) = true) (hn : 2 * (lvN n : Int) - 1 = n) (hh : halfB xs = false) (hT : Tab w) (hu : Shorts xs) :
    Calls Tryd.prog 29 #[.slice A n c] w fun e w' => e = .returned (.int .i64 (allR xs)) ∧ Below w.heap.size w w' := by
  have hne : ((2 * (lvN n : Int) - 1) != (n : Int)) = false := by rw [hn]; simp
  have hn2 : n ≤ 511 := by have := fullN_le hf; omega
  clear hn
  have HL := hid h.len
  have HT := hid hT; have HU := hid hu; have H0 := hid h
  clear h hT hu
  go_enter Tryd.func29, Tryd.ntmps29
  go_wp2_with (first
    | (go_at_call 36; refine (leavesT_any _ n c _ hnm).mono ?_; rintro e w' ⟨rfl, hw'⟩; subst w')
    | (go_at_call 51; refine (width_any _ _).mono ?_; rintro e w1 ⟨rfl, hb⟩; rw [hf]; have HB := hid hb; clear hb)
    | (go_at_call 46; refine (half_any _ n c xs _ (H0.out.ext HB.out) hnm).mono ?_; rintro e w' ⟨rfl, hw'⟩; subst w'; rw [hh]))
  have HF := hid hf; clear hf hh hne
  go_loopw [28, 2] (fun i _ wr => ∃ j : Nat, i = .int .i64 j ∧ j ≤ n ∧ Hid (∀ k, k < j → okAt xs k = true) ∧ Below w.heap.size w wr) (fun i _ _ => n - (intOf i).toNat)
  case atStart => exact ⟨0, rfl, by omega, hid (fun k hk => by omega), HB.out⟩
  case round =>
    obtain ⟨j, hi, hj, HJ, hbr⟩ := hrel
    subst hi
    have HBr := hid hbr; clear hbr
    by_cases hlt : j < n
    · obtain ⟨b0, o0, q, Aq, cq, rfl, hq, c0, c1, c2, c3, c4, c5, hsq⟩ := (H0.out.ext HBr.out).at hlt
      have hqu := HU.out _ _ hq
      have HO := hid (show okAt xs j = okB xs j q by unfold okAt; rw [hq])
      have HSQ := hid hsq
      clear hq hsq
      have hzr := HBr.out.size
      by_cases hk0 : q.k = 0
      · have hk0' : (q.k == 0) = true := beq_iff_eq.2 hk0
        have hok : okB xs j q = (orN q.k q.i q.e q.s q.h == 0 && ((q.u.length : Nat) : Int) == 0) := by unfold okB; rw [if_pos hk0]
        rcases hv : (orN q.k q.i q.e q.s q.h == 0 && ((q.u.length : Nat) : Int) == 0) with _ | _
        · have HN := hid (HO.out.trans (hok.trans hv)); clear hok hk0
          go_wp2_with (first
            | (go_at_call 52; refine (zero_any _ _ _ _ _ _ _ _ _).mono ?_; rintro e2 w2 ⟨rfl, hb2⟩; rw [hv]; obtain ⟨hb3, hz3⟩ := below_new HBr.out HBr.out.size hb2; have k20 := new_cell hb2 0; have k21 := new_cell hb2 1; have k22 := new_cell hb2 2; have k23 := new_cell hb2 3; have k24 := new_cell hb2 4; have k25 := new_cell hb2 5; have HB2 := hid hb3; clear hb3 hb2))
          go_ret
          exact ⟨by rw [allR_no (by have := HL.out; omega) HN.out]; rfl, HB2.out⟩
        · have HN := hid (HO.out.trans (hok.trans hv)); clear hok hk0
          go_wp2_with (first
            | (go_at_call 52; refine (zero_any _ _ _ _ _ _ _ _ _).mono ?_; rintro e2 w2 ⟨rfl, hb2⟩; rw [hv]; obtain ⟨hb3, hz3⟩ := below_new HBr.out HBr.out.size hb2; have k20 := new_cell hb2 0; have k21 := new_cell hb2 1; have k22 := new_cell hb2 2; have k23 := new_cell hb2 3; have k24 := new_cell hb2 4; have k25 := new_cell hb2 5; have HB2 := hid hb3; clear hb3 hb2))
          go_roundw
          case rel => exact ⟨j + 1, by go_num, by omega, hid (fun k hk => by
            by_cases hkj : k < j
            · exact HJ.out k hkj
            · rw [show k = j by omega]; exact HN.out), HB2.out⟩
          case measure => simp [intOf]; omega
      · have hk0' : (q.k == 0) = false := beq_eq_false_iff_ne.2 hk0
        by_cases hj2 : (j : Int) % 2 = 0
        · have hj2' : ((j : Int) % 2 == 0) = true := beq_iff_eq.2 hj2
          have hok : okB xs j q = (q.k == 1 && ((q.u.length : Nat) : Int) == 0) := by unfold okB; rw [if_neg hk0, if_pos hj2]
          rcases hv : (q.k == 1 && ((q.u.length : Nat) : Int) == 0) with _ | _
          · have HN := hid (HO.out.trans (hok.trans hv)); clear hok hk0 hj2
            go_wp2_with (first
              | (go_at_call 52; refine (zero_any _ _ _ _ _ _ _ _ _).mono ?_; rintro e2 w2 ⟨rfl, hb2⟩; obtain ⟨hb3, hz3⟩ := below_new HBr.out HBr.out.size hb2; have k20 := new_cell hb2 0; have k21 := new_cell hb2 1; have k22 := new_cell hb2 2; have k23 := new_cell hb2 3; have k24 := new_cell hb2 4; have k25 := new_cell hb2 5; have HB2 := hid hb3; clear hb3 hb2)
              | (go_at_call 33; refine (leaf_any _ _ _ _ _ _ _ _ _).mono ?_; rintro e4 w4 ⟨rfl, hb4⟩; rw [hv]; have HB4 := hid (HB2.out.trans (hb4.mono HB2.out.size)); clear hb4))
            go_ret
            exact ⟨by rw [allR_no (by have := HL.out; omega) HN.out]; rfl, HB4.out⟩
          · have HN := hid (HO.out.trans (hok.trans hv)); clear hok hk0 hj2
            go_wp2_with (first
              | (go_at_call 52; refine (zero_any _ _ _ _ _ _ _ _ _).mono ?_; rintro e2 w2 ⟨rfl, hb2⟩; obtain ⟨hb3, hz3⟩ := below_new HBr.out HBr.out.size hb2; have k20 := new_cell hb2 0; have k21 := new_cell hb2 1; have k22 := new_cell hb2 2; have k23 := new_cell hb2 3; have k24 := new_cell hb2 4; have k25 := new_cell hb2 5; have HB2 := hid hb3; clear hb3 hb2)
              | (go_at_call 33; refine (leaf_any _ _ _ _ _ _ _ _ _).mono ?_; rintro e4 w4 ⟨rfl, hb4⟩; rw [hv]; have HB4 := hid (HB2.out.trans (hb4.mono HB2.out.size)); clear hb4))
            go_roundw
            case rel => exact ⟨j + 1, by go_num, by omega, hid (fun k hk => by
              by_cases hkj : k < j
              · exact HJ.out k hkj
              · rw [show k = j by omega]; exact HN.out), HB4.out⟩
            case measure => simp [intOf]; omega

        · have hj2' : ((j : Int) % 2 == 0) = false := beq_eq_false_iff_ne.2 hj2
          have hok : okB xs j q = parB xs j q := by unfold okB; rw [if_neg hk0, if_neg hj2]
          rcases hv : parB xs j q with _ | _
          · have HN := hid (HO.out.trans (hok.trans hv)); clear hok hk0 hj2
            go_wp2_with (first
              | (go_at_call 52; refine (zero_any _ _ _ _ _ _ _ _ _).mono ?_; rintro e2 w2 ⟨rfl, hb2⟩; obtain ⟨hb3, hz3⟩ := below_new HBr.out HBr.out.size hb2; have k20 := new_cell hb2 0; have k21 := new_cell hb2 1; have k22 := new_cell hb2 2; have k23 := new_cell hb2 3; have k24 := new_cell hb2 4; have k25 := new_cell hb2 5; have HB2 := hid hb3; have HBX := hid (((Below.refl wr.heap.size wr).alloc (Nat.le_refl _) _).trans (hb2.mono (by rw [World.size_alloc]; omega))); clear hb3 hb2)
              | (go_at_call 53; refine (parent_any _ n c xs j _ _ _ _ _ q.u _ _ _ _ (HSQ.out.ext HBX.out) hqu (H0.out.ext HB2.out) hnm (by omega) (by omega) HF.out (HT.out.ext HB2.out) HU.out).mono ?_; rintro e4 w4 ⟨rfl, hb4⟩; rw [hv]; have HB4 := hid (HB2.out.trans (hb4.mono HB2.out.size)); clear hb4))
            go_ret
            exact ⟨by rw [allR_no (by have := HL.out; omega) HN.out]; rfl, HB4.out⟩
          · have HN := hid (HO.out.trans (hok.trans hv)); clear hok hk0 hj2
            go_wp2_with (first
              | (go_at_call 52; refine (zero_any _ _ _ _ _ _ _ _ _).mono ?_; rintro e2 w2 ⟨rfl, hb2⟩; obtain ⟨hb3, hz3⟩ := below_new HBr.out HBr.out.size hb2; have k20 := new_cell hb2 0; have k21 := new_cell hb2 1; have k22 := new_cell hb2 2; have k23 := new_cell hb2 3; have k24 := new_cell hb2 4; have k25 := new_cell hb2 5; have HB2 := hid hb3; have HBX := hid (((Below.refl wr.heap.size wr).alloc (Nat.le_refl _) _).trans (hb2.mono (by rw [World.size_alloc]; omega))); clear hb3 hb2)
              | (go_at_call 53; refine (parent_any _ n c xs j _ _ _ _ _ q.u _ _ _ _ (HSQ.out.ext HBX.out) hqu (H0.out.ext HB2.out) hnm (by omega) (by omega) HF.out (HT.out.ext HB2.out) HU.out).mono ?_; rintro e4 w4 ⟨rfl, hb4⟩; rw [hv]; have HB4 := hid (HB2.out.trans (hb4.mono HB2.out.size)); clear hb4))
            go_roundw
            case rel => exact ⟨j + 1, by go_num, by omega, hid (fun k hk => by
              by_cases hkj : k < j
              · exact HJ.out k hkj
              · rw [show k = j by omega]; exact HN.out), HB4.out⟩
            case measure => simp [intOf]; omega
    · go_wp2
      go_ret
      exact ⟨by rw [allR_yes fun k hk => HJ.out k (by have := HL.out; omega)]; rfl, HBr.out⟩

end Go.Proofs.YtimdohjlhbpmhaaDoor
