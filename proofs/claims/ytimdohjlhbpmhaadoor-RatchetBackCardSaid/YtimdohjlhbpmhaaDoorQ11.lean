/- the reference of layer 7: New, there, blank, Remove, Update. -/
import Derived.Test.YtimdohjlhbpmhaaDoorQ8
namespace Go.Proofs.YtimdohjlhbpmhaaDoor
open Go.RowKit Go.KK Go.Shelf
set_option linter.unusedVariables false
set_option linter.unusedSimpArgs false

theorem rnew_any (l : TN) (B : Option Addr) (d : Nat) (w : World) (hd : d ≤ maxLen) :
    Calls Tryd.prog 16 #[.agg #[.int .i64 l.k, .int .i64 l.i, .int .i64 l.e, .int .i64 l.s, .int .i64 l.h, .slice B l.u.length d]] w (NewP w l) := by
  rcases hl : (l.k == 1 && (l.u.length : Int) == 0) with _ | _
  · have HL := hid hl
    clear hl
    go_enter Tryd.func16, Tryd.ntmps16
    go_wp2_with (go_at_call 41; refine (rleaf_any _ _ _ _ _ _ _ _ _).mono ?_; rintro e2 w2 ⟨rfl, hb2⟩; rw [HL.out]; have HB := hid hb2; clear hb2)
    go_ret2
    exact ⟨(below_new (Below.refl _ _) (Nat.le_refl _) HB.out).1, .inl ⟨HL.out, rfl⟩⟩
  · have HL := hid hl
    simp only [Bool.and_eq_true, beq_iff_eq] at hl
    obtain ⟨k, e0, e, s, h, u⟩ := l
    obtain ⟨hk, hul⟩ := hl
    simp only at hk hul HL ⊢
    have hu0 : u = [] := List.eq_nil_of_length_eq_zero (by omega)
    subst hu0; subst hk
    clear hul
    go_enter Tryd.func16, Tryd.ntmps16
    go_wp2_with (go_at_call 41; refine (rleaf_any _ _ _ _ _ _ _ _ _).mono ?_; rintro e2 w2 ⟨rfl, hb2⟩; have hlf := HL.out; simp only [List.length_nil] at hlf; rw [hlf]; have k20 := new_cell hb2 0; have k21 := new_cell hb2 1; have k22 := new_cell hb2 2; have k23 := new_cell hb2 3; have k24 := new_cell hb2 4; have k25 := new_cell hb2 5; have HB := hid (below_new (Below.refl _ _) (Nat.le_refl _) hb2).1; clear hb2 hlf)
    go_ret2
    exact ⟨HB.out.alloc HB.out.size _, .inr ⟨HL.out, w2.heap.size, 1, _, rfl, trw_one ⟨1, e0, e, s, h, []⟩ rfl rfl B d hd HB.out.size⟩⟩
/-- What `there` answers. -/
def presE (xs : List TN) (i : Int) : Int := if pres xs i then 0 else 4
def thereE (xs : List TN) (i : Int) : Int := if chkB xs then presE xs i else 1
theorem there_no (A : Option Addr) (n c : Nat) (xs : List TN) (i : Int) (w : World) (ht : Tr w A n c xs) (hnm : n ≤ 600) (hu : Shorts xs) (hw : WfT xs) (hc : chkB xs = false) :
    Calls Tryd.prog 47 #[.slice A n c, .int .i64 i] w fun e w' => e = .returned (.int .i64 1) ∧ Below w.heap.size w w' := by
  have he : chkE xs = 1 := by unfold chkE; rw [hc]; rfl
  have HU := hid hu; have H := hid ht; have HW := hid hw
  clear hu ht hc hw
  go_enter Tryd.func47, Tryd.ntmps47
  go_wp2_with (go_at_call 21; refine (rchk_any _ n c xs _ H.out hnm HU.out HW.out).mono ?_; rintro e1 w1 ⟨rfl, hb1⟩; rw [he]; have HB := hid hb1; clear hb1)
  go_ret
  exact ⟨rfl, HB.out⟩
theorem there_go (A : Option Addr) (n c : Nat) (xs : List TN) (i : Int) (w : World) (ht : Tr w A n c xs) (hnm : n ≤ 600) (hu : Shorts xs) (hw : WfT xs) (hc : chkB xs = true) :
    Calls Tryd.prog 47 #[.slice A n c, .int .i64 i] w fun e w' => e = .returned (.int .i64 (presE xs i)) ∧ Below w.heap.size w w' := by
  have he : chkE xs = 0 := by unfold chkE; rw [hc]; rfl
  have HF := hid (chk_full hc)
  have HU := hid hu; have H := hid ht; have HW := hid hw
  have hnx := ht.len
  subst hnx
  have hN1 := fullN_le HF.out.1
  have hm0 : xs.length + 1 = 2 * lvN xs.length := by have := HF.out.2.1; omega
  have hN : lvN xs.length ≤ 301 := by omega
  have HR := hid (show rlv xs.length = lvN xs.length by unfold rlv; rw [HF.out.1, HF.out.2.1]; simp)
  clear hu ht hc hw
  by_cases h0 : i < 0
  · have HP := hid (show presE xs i = 4 by unfold presE pres; rw [decide_eq_false (show ¬ 0 ≤ i by omega)]; rfl)
    go_enter Tryd.func47, Tryd.ntmps47
    go_wp2_with (go_at_call 21; refine (rchk_any _ _ c xs _ H.out hnm HU.out HW.out).mono ?_; rintro e1 w1 ⟨rfl, hb1⟩; rw [he]; have HB := hid hb1; clear hb1)
    go_ret
    rw [HP.out]
    exact ⟨rfl, HB.out⟩
  · obtain ⟨j, rfl⟩ := Int.eq_ofNat_of_zero_le (show 0 ≤ i by omega)
    by_cases h1 : j < lvN xs.length
    · have h2 : (j : Int) < (lvN xs.length : Int) := by omega
      obtain ⟨Y, hY⟩ : ∃ Y : Nat, Y = 2 * j := ⟨_, rfl⟩
      have hy : 2 * (j : Int) = (Y : Int) := by omega
      have HY := hid hY
      have hYx : Y < xs.length := by omega
      have hnl : ¬ lvN xs.length ≤ j := by omega
      have hng : ¬ (j : Int) < 0 := by omega
      have hp := pres_nat h1
      rw [← hY] at hp
      clear hY
      rcases hk : kd xs Y == 1 with _ | _
      · have HP := hid (show presE xs (j : Int) = 4 by unfold presE; rw [hp, hk]; rfl)
        have HK := hid hk
        clear hp hk
        go_enter Tryd.func47, Tryd.ntmps47
        go_wp2_with (first
          | (go_at_call 21; refine (rchk_any _ _ c xs _ H.out hnm HU.out HW.out).mono ?_; rintro e1 w1 ⟨rfl, hb1⟩; rw [he]; have H1 := hid (H.out.ext hb1); obtain ⟨bb, oo, q0, A', c', eA, hq0, d0, -, -, -, -, -, -⟩ := H1.out.at hYx; subst eA; have hk0 : (q0.k != 1) = true := (by have := HK.out; unfold kd at this; rw [hq0] at this; have h3 : (q0.k == 1) = false := this; unfold bne; rw [h3]; rfl); have HB := hid hb1; clear hb1 hq0)
          | (go_at_call 42; refine (rleavesT_any _ _ c _ hnm).mono ?_; rintro e w' ⟨rfl, hw'⟩; subst w'; rw [HR.out]))
        go_ret
        rw [HP.out]
        exact ⟨rfl, HB.out⟩
      · have HP := hid (show presE xs (j : Int) = 0 by unfold presE; rw [hp, hk]; rfl)
        have HK := hid hk
        clear hp hk
        go_enter Tryd.func47, Tryd.ntmps47
        go_wp2_with (first
          | (go_at_call 21; refine (rchk_any _ _ c xs _ H.out hnm HU.out HW.out).mono ?_; rintro e1 w1 ⟨rfl, hb1⟩; rw [he]; have H1 := hid (H.out.ext hb1); obtain ⟨bb, oo, q0, A', c', eA, hq0, d0, -, -, -, -, -, -⟩ := H1.out.at hYx; subst eA; have hk0 : (q0.k != 1) = false := (by have := HK.out; unfold kd at this; rw [hq0] at this; have h3 : (q0.k == 1) = true := this; unfold bne; rw [h3]; rfl); have HB := hid hb1; clear hb1 hq0)
          | (go_at_call 42; refine (rleavesT_any _ _ c _ hnm).mono ?_; rintro e w' ⟨rfl, hw'⟩; subst w'; rw [HR.out]))
        go_ret
        rw [HP.out]
        exact ⟨rfl, HB.out⟩
    · have h2 : ¬ (j : Int) < (lvN xs.length : Int) := by omega
      have HP := hid (show presE xs (j : Int) = 4 by unfold presE pres; rw [decide_eq_false h2]; simp)
      go_enter Tryd.func47, Tryd.ntmps47
      go_wp2_with (first
        | (go_at_call 21; refine (rchk_any _ _ c xs _ H.out hnm HU.out HW.out).mono ?_; rintro e1 w1 ⟨rfl, hb1⟩; rw [he]; have HB := hid hb1; clear hb1)
        | (go_at_call 42; refine (rleavesT_any _ _ c _ hnm).mono ?_; rintro e w' ⟨rfl, hw'⟩; subst w'; rw [HR.out]))
      go_ret
      rw [HP.out]
      exact ⟨rfl, HB.out⟩
theorem there_any (A : Option Addr) (n c : Nat) (xs : List TN) (i : Int) (w : World) (ht : Tr w A n c xs) (hnm : n ≤ 600) (hu : Shorts xs) (hw : WfT xs) :
    Calls Tryd.prog 47 #[.slice A n c, .int .i64 i] w fun e w' => e = .returned (.int .i64 (thereE xs i)) ∧ Below w.heap.size w w' := by
  unfold thereE
  rcases hc : chkB xs with _ | _
  · exact there_no A n c xs i w ht hnm hu hw hc
  · exact there_go A n c xs i w ht hnm hu hw hc
set_option maxHeartbeats 1000000 in
theorem rblank_any (base g cap : Nat) (z : Nat) (xs : List TN) (qs : List Value) (w : World) (h : TrW w base g cap xs qs) (hn : xs.length ≤ 600) (hf : fullN (lvN xs.length) = true) (hl : 2 * (lvN xs.length : Int) - 1 = (xs.length : Int)) (hz : z < lvN xs.length) (hbase : base ≤ w.heap.size) :
    Calls Tryd.prog 48 #[.slice (some ⟨g, 0, none⟩) xs.length cap, .int .i64 z] w fun e w' => ∃ qs', e = .returned (.tuple #[]) ∧ TrW w' base g cap (updAll blankN xs (pathL (2 * z) (lvN xs.length))) qs' ∧ Below base w w' := by
  have H := hid h; have HF := hid hf
  have HR := hid (show rlv xs.length = lvN xs.length by unfold rlv; rw [hf, hl]; simp)
  have hl1 : 2 * (lvN xs.length : Int) - 1 ≤ (xs.length : Int) := by omega
  have hl2 : (xs.length : Int) ≤ 2 * (lvN xs.length : Int) - 1 := by omega
  clear h hf hl
  have hN : lvN xs.length ≤ 301 := by unfold lvN; omega
  have hpl := pathL_le (2 * z) (lvN xs.length)
  obtain ⟨Y, hY⟩ : ∃ Y : Nat, Y = 2 * z := ⟨_, rfl⟩
  have hy : 2 * (z : Int) = (Y : Int) := by omega
  have hYn : Y < 2 * lvN xs.length - 1 := by omega
  rw [hy] at hpl ⊢
  clear hY
  go_enter Tryd.func48, Tryd.ntmps48
  go_wp2_with (first
    | (go_at_call 42; refine (rleavesT_any _ _ _ _ hn).mono ?_; rintro e w' ⟨rfl, hw'⟩; subst w'; rw [HR.out])
    | (go_at_call 43; refine (rpath_any Y (lvN xs.length) _ HF.out hYn).mono ?_; rintro e1 w1 ⟨v1, rfl, hown1, hb1⟩; obtain ⟨A1, c1, rfl, hs1⟩ := SlA.owned hown1))
  have HS1 := hid hs1; have HB1 := hid hb1
  have HI := hid (@path_in (Y : Int) (lvN xs.length) HF.out (by omega) (by omega))
  have H1 := hid (H.out.ext hb1)
  have HP1 := hid (show ∀ b o, A1 = some ⟨b, o, none⟩ → Far w1 g xs qs b from fun b o e => by
    subst e
    have hh := hown1.lt b rfl
    exact Far.new H.out hh.1 hh.2)
  have hz1 := hb1.size
  clear hs1 hown1 hb1
  generalize hPL : pathL (Y : Int) (lvN xs.length) = PL at *
  have HPL := hid hPL; clear hPL
  go_loopw [18] (fun i wr => ∃ (k : Nat) (rs : List Value), i = .int .i64 k ∧ k ≤ PL.length ∧ TrW wr base g cap (updAll blankN xs (PL.take k)) rs ∧ Keeps w1 wr g xs (updAll blankN xs (PL.take k)) qs rs ∧ Below base w wr) (fun i _ => PL.length - (intOf i).toNat)
  case atStart => exact ⟨0, qs, rfl, by omega, H1.out, Keeps.refl _ _ _ _, HB1.out.mono hbase⟩
  case round =>
    obtain ⟨k, rs, hi, hk, htr, hkp, hbr⟩ := hrel
    subst hi
    have HBr := hid hbr; have HTR := hid htr; have HKP := hid hkp
    have hbrz := hbr.size
    clear hbr htr hkp
    by_cases hlk : k < PL.length
    · obtain ⟨b5, o5, y, rfl, hy5, hcy⟩ := HS1.out.elemI hlk
      have hcy2 := (World.cell?_of_block (a := ⟨b5, o5 + k, none⟩) (HKP.out b5 (HP1.out b5 o5 rfl)).2).trans hcy
      obtain ⟨y0, y1⟩ := HI.out y (List.mem_of_getElem? hy5)
      obtain ⟨yn, rfl⟩ := Int.eq_ofNat_of_zero_le y0
      have hyn : yn < xs.length := by omega
      have HTK := hid (take_get hy5)
      clear hy5 hcy y0 y1
      have hlen := updAll_len blankN (PL.take k) xs
      have hyl : yn < (updAll blankN xs (PL.take k)).length := by rw [hlen]; exact hyn
      have HYL := hid hyl
      obtain ⟨x, p, hx, hp5, e0, e1', e2', e3', e4', e5', g0, g1', g2', g3', g4', g5'⟩ := HTR.out.six hyl
      have HX := hid hx; have HP6 := hid hp5
      have HN := hid (show updAll blankN xs (PL.take (k + 1)) = (updAll blankN xs (PL.take k)).set yn zeroN by
        rw [HTK.out, updAll_snoc, Int.toNat_natCast, upd_at HX.out]; rfl)
      have hgl := HTR.out.lt.1
      have HGL := hid hgl
      clear hx hlen hp5
      go_wp2
      go_roundw
      case rel =>
        have hb := (((((Below.refl base wr).setCell (p := ⟨g, yn * 6, none⟩) HGL.out (.int .i64 0)).setCell (p := ⟨g, yn * 6 + 1, none⟩) HGL.out (.int .i64 0)).setCell (p := ⟨g, yn * 6 + 2, none⟩) HGL.out (.int .i64 0)).setCell (p := ⟨g, yn * 6 + 3, none⟩) HGL.out (.int .i64 0)).setCell (p := ⟨g, yn * 6 + 4, none⟩) HGL.out (.int .i64 0)
        have hb2 := hb.setCell (p := ⟨g, yn * 6 + 5, none⟩) HGL.out (.slice none 0 0)
        refine ⟨k + 1, rs.set yn (.slice none 0 0), by go_num, by omega, by rw [HN.out]; exact HTR.out.node HYL.out zeroN none 0 (by decide) rfl (by decide), ?_, HBr.out.trans hb2⟩
        rw [HN.out]
        exact HKP.out.trans (keeps_node HTR.out yn zeroN (.slice none 0 0) (by decide) _ _ _ _ _ _)
      case measure => simp [intOf]; omega
    · have HJ := hid (show PL.take k = PL from List.take_of_length_le (by omega))
      go_wp2
      go_end0
      have h1 := HTR.out
      rw [HJ.out] at h1
      exact ⟨rs, rfl, by rw [HPL.out]; exact h1, HBr.out⟩
end Go.Proofs.YtimdohjlhbpmhaaDoor
