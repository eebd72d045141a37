/- the reference of layer 7: Remove, Update. -/
import Derived.Test.YtimdohjlhbpmhaaDoorQ11
namespace Go.Proofs.YtimdohjlhbpmhaaDoor
open Go.RowKit Go.KK Go.Shelf
set_option linter.unusedVariables false
set_option linter.unusedSimpArgs false

theorem rremove_no (A : Option Addr) (n c : Nat) (xs : List TN) (i : Int) (w : World) (ht : Tr w A n c xs) (hnm : n ≤ 600) (hu : Shorts xs) (hw : WfT xs) (he : thereE xs i = 1 ∨ thereE xs i = 4) :
    Calls Tryd.prog 18 #[.slice A n c, .int .i64 i] w fun r w' => r = .returned (.tuple #[.slice none 0 0, .int .i64 (thereE xs i)]) ∧ Below w.heap.size w w' := by
  have HT := hid (there_any A n c xs i w ht hnm hu hw)
  clear ht hu hw
  rcases he with he | he
  all_goals
    have HE := hid he
    clear he
    go_enter Tryd.func18, Tryd.ntmps18
    go_wp2_with (go_at_call 47; refine HT.out.mono ?_; rintro e1 w1 ⟨rfl, hb1⟩; rw [HE.out]; have HB := hid hb1; clear hb1)
    go_ret2
    rw [HE.out]
    exact ⟨rfl, HB.out⟩
theorem rupdate_no (A : Option Addr) (n c : Nat) (xs : List TN) (i : Int) (k e0 e s h : Int) (B : Option Addr) (d : Nat) (w : World) (ht : Tr w A n c xs) (hnm : n ≤ 600) (hu : Shorts xs) (hw : WfT xs) (he : thereE xs i = 1 ∨ thereE xs i = 4) (hk : k = 1) :
    Calls Tryd.prog 20 #[.slice A n c, .int .i64 i, .agg #[.int .i64 k, .int .i64 e0, .int .i64 e, .int .i64 s, .int .i64 h, .slice B 0 d]] w fun r w' => r = .returned (.tuple #[.slice none 0 0, .int .i64 (thereE xs i)]) ∧ Below w.heap.size w w' := by
  subst hk
  have hb0 : Below w.heap.size w (w.alloc (.cells #[.int .i64 1, .int .i64 e0, .int .i64 e, .int .i64 s, .int .i64 h, .slice B 0 d] 25)) := (Below.refl _ _).alloc (Nat.le_refl _) _
  have HU := hid hu; have H := hid (ht.ext hb0); have HW := hid hw
  clear ht hu hw hb0
  rcases he with he | he
  all_goals
    have HE := hid he
    clear he
    go_enter Tryd.func20, Tryd.ntmps20
    go_wp2_with (first
      | (go_at_call 41; refine (rleaf_any _ _ _ _ _ _ _ _ _).mono ?_; rintro e2 w2 ⟨rfl, hb2⟩; have H1 := hid (H.out.ext hb2); have HB := hid (below_new (Below.refl _ _) (Nat.le_refl _) hb2).1; clear hb2)
      | (go_at_call 47; refine (there_any A n c xs i _ H1.out hnm HU.out HW.out).mono ?_; rintro e1 w1 ⟨rfl, hb1⟩; rw [HE.out]; have HB2 := hid (HB.out.trans (hb1.mono HB.out.size)); clear hb1))
    go_ret2
    rw [HE.out]
    exact ⟨rfl, HB2.out⟩
theorem rupdate_bad (A : Option Addr) (n c : Nat) (i : Int) (k e0 e s h : Int) (B : Option Addr) (m d : Nat) (w : World) (hl : (k == 1 && (m : Int) == 0) = false) :
    Calls Tryd.prog 20 #[.slice A n c, .int .i64 i, .agg #[.int .i64 k, .int .i64 e0, .int .i64 e, .int .i64 s, .int .i64 h, .slice B m d]] w fun r w' => r = .returned (.tuple #[.slice none 0 0, .int .i64 1]) ∧ Below w.heap.size w w' := by
  have HL := hid hl
  clear hl
  go_enter Tryd.func20, Tryd.ntmps20
  go_wp2_with (go_at_call 41; refine (rleaf_any _ _ _ _ _ _ _ _ _).mono ?_; rintro e2 w2 ⟨rfl, hb2⟩; rw [HL.out]; have HB := hid hb2; clear hb2)
  go_ret2
  exact ⟨rfl, (below_new (Below.refl _ _) (Nat.le_refl _) HB.out).1⟩
set_option maxHeartbeats 2000000 in
theorem rupdate_go (A : Option Addr) (n c : Nat) (xs : List TN) (j : Nat) (e0 e s h : Int) (B : Option Addr) (d : Nat) (w : World) (ht : Tr w A n c xs) (hnm : n ≤ 600) (hu : Shorts xs) (hw : WfT xs) (hba : Bare xs) (hc : chkB xs = true) (hp : pres xs (j : Int) = true) (hd : d ≤ maxLen) :
    Calls Tryd.prog 20 #[.slice A n c, .int .i64 j, .agg #[.int .i64 1, .int .i64 e0, .int .i64 e, .int .i64 s, .int .i64 h, .slice B 0 d]] w fun r w' => Below w.heap.size w w' ∧ ∃ g cap qs, r = .returned (.tuple #[.slice (some ⟨g, 0, none⟩) xs.length cap, .int .i64 0]) ∧ TrW w' w.heap.size g cap (chgL xs (j : Int) ⟨1, e0, e, s, h, []⟩) qs := by
  have hb0 : Below w.heap.size w (w.alloc (.cells #[.int .i64 1, .int .i64 e0, .int .i64 e, .int .i64 s, .int .i64 h, .slice B 0 d] 25)) := (Below.refl _ _).alloc (Nat.le_refl _) _
  have HU := hid hu; have H := hid (ht.ext hb0); have HBA := hid hba; have HW := hid hw
  have HF := hid (chk_full hc)
  have HE := hid (show thereE xs (j : Int) = 0 by unfold thereE presE; rw [hc, hp]; rfl)
  obtain ⟨p0, p1⟩ := pres_in hp
  obtain rfl := ht.len
  have hN1 := fullN_le HF.out.1
  have hm0 : xs.length + 1 = 2 * lvN xs.length := by have := HF.out.2.1; omega
  have hN : lvN xs.length ≤ 301 := by omega
  have hjl : j < lvN xs.length := by omega
  obtain ⟨Y, hY⟩ : ∃ Y : Nat, Y = 2 * j := ⟨_, rfl⟩
  have hy : 2 * (j : Int) = (Y : Int) := by omega
  have hYx : Y < xs.length := by omega
  have hxl0 : 0 < xs.length := by omega
  have HCL := hid (show chgL xs (j : Int) ⟨1, e0, e, s, h, []⟩ = updAll blankN (xs.set Y ⟨1, e0, e, s, h, []⟩) (pathL (2 * (j : Int)) (lvN xs.length)) by unfold chgL; rw [show (2 * (j : Int)).toNat = Y by omega])
  clear hu ht hc hw hba hb0 hp hY
  go_enter Tryd.func20, Tryd.ntmps20
  go_wp2_with (first
    | (go_at_call 41; refine (rleaf_any _ _ _ _ _ _ _ _ _).mono ?_; rintro e2 w2 ⟨rfl, hb2⟩; have k20 := new_cell hb2 0; have k21 := new_cell hb2 1; have k22 := new_cell hb2 2; have k23 := new_cell hb2 3; have k24 := new_cell hb2 4; have k25 := new_cell hb2 5; have H1 := hid (H.out.ext hb2); have HX1 := hid ((hb2.block w.heap.size (by rw [World.size_alloc]; omega)).trans (heap_alloc_new w _)); have HB := hid (below_new (Below.refl _ _) (Nat.le_refl _) hb2); clear hb2)
    | (go_at_call 47; refine (there_any _ _ c xs _ _ H1.out hnm HU.out HW.out).mono ?_; rintro e1 w1 ⟨rfl, hb1⟩; rw [HE.out]; have HX2 := hid ((hb1.block w.heap.size (by have := HB.out.2; omega)).trans HX1.out); have H2 := hid (H1.out.ext hb1); have HB2 := hid (HB.out.1.trans (hb1.mono HB.out.1.size)); have hzz2 := Nat.le_trans HB.out.2 hb1.size; clear hb1)
    | (go_at_call 10; refine (copy_any _ _ c xs _ H2.out hnm HU.out).mono ?_; rintro e3 w3 ⟨v3, qs, rfl, hcp3, hb3⟩; have HXW := hid ((hb3.block w.heap.size (by omega)).trans HX2.out); have HB3 := hid (HB2.out.trans (hb3.mono HB2.out.size)); have hzz3 := hb3.size; obtain ⟨g, cap, rfl, htr3⟩ := hcp3.trw HBA.out hxl0; have HTW := hid (htr3.mono (show w.heap.size ≤ _ by omega)); have hg3 := htr3.lt; clear hcp3 hb3 htr3; obtain ⟨x6, q6, hx6, hq6, c0, c1, c2, c3, c4, c5, f0, f1, f2, f3, f4, f5⟩ := HTW.out.six hYx; have hbx0 := cell_of_row w3 w.heap.size 0 _ 25 (0, 0) HXW.out; have hbx1 := cell_of_row w3 w.heap.size 1 _ 25 (0, 0) HXW.out; have hbx2 := cell_of_row w3 w.heap.size 2 _ 25 (0, 0) HXW.out; have hbx3 := cell_of_row w3 w.heap.size 3 _ 25 (0, 0) HXW.out; have hbx4 := cell_of_row w3 w.heap.size 4 _ 25 (0, 0) HXW.out; have hbx5 := cell_of_row w3 w.heap.size 5 _ 25 (0, 0) HXW.out; have hgb := HTW.out.lt.1; have HBN := hid ((((((HB3.out.setCell (p := ⟨g, Y * 6, none⟩) hgb (.int .i64 1)).setCell (p := ⟨g, Y * 6 + 1, none⟩) hgb (.int .i64 e0)).setCell (p := ⟨g, Y * 6 + 2, none⟩) hgb (.int .i64 e)).setCell (p := ⟨g, Y * 6 + 3, none⟩) hgb (.int .i64 s)).setCell (p := ⟨g, Y * 6 + 4, none⟩) hgb (.int .i64 h)).setCell (p := ⟨g, Y * 6 + 5, none⟩) hgb (.slice B 0 d)); have HND := hid (HTW.out.node hYx ⟨1, e0, e, s, h, []⟩ B d (show (1 : Int) ≠ 2 by decide) rfl hd); have hab := rblank_any w.heap.size g cap j (xs.set Y ⟨1, e0, e, s, h, []⟩) _ _ HND.out (by rw [List.length_set]; omega) (by rw [List.length_set]; exact HF.out.1) (by rw [List.length_set]; exact HF.out.2.1) (by rw [List.length_set]; omega) HBN.out.size; rw [List.length_set] at hab; have HAB := hid hab; clear hab hx6 hq6)
    | (go_at_call 48; refine HAB.out.mono ?_; rintro e6 w6 ⟨qs6, rfl, htr6, hb6⟩; have HT6 := hid htr6; have HB6 := hid (HBN.out.trans hb6); clear htr6 hb6))
  go_ret2
  refine ⟨HB6.out, g, cap, qs6, rfl, ?_⟩
  rw [HCL.out]
  exact HT6.out
theorem rupdate_any (A : Option Addr) (n c : Nat) (xs : List TN) (i : Int) (l : TN) (B : Option Addr) (d : Nat) (w : World) (ht : Tr w A n c xs) (hnm : n ≤ 600) (hu : Shorts xs) (hw : WfT xs) (hba : chkB xs = true → Bare xs) (hd : d ≤ maxLen) :
    Calls Tryd.prog 20 #[.slice A n c, .int .i64 i, .agg #[.int .i64 l.k, .int .i64 l.i, .int .i64 l.e, .int .i64 l.s, .int .i64 l.h, .slice B l.u.length d]] w (UpdP w xs i l) := by
  rcases hl : (l.k == 1 && (l.u.length : Int) == 0) with _ | _
  · refine (rupdate_bad A n c i l.k l.i l.e l.s l.h B l.u.length d w hl).mono ?_
    rintro r w' ⟨rfl, hb⟩
    exact .inl ⟨hl, rfl, hb⟩
  · have hl' := hl
    simp only [Bool.and_eq_true, beq_iff_eq] at hl
    obtain ⟨k, e0, e, s, h, u⟩ := l
    obtain ⟨hk, hul⟩ := hl
    simp only at hk hul hl' ⊢
    have hu0 : u = [] := List.eq_nil_of_length_eq_zero (by omega)
    subst hu0; subst hk
    rcases hc : chkB xs with _ | _
    · have he : thereE xs i = 1 := by unfold thereE; rw [hc]; rfl
      refine (rupdate_no A n c xs i 1 e0 e s h B d w ht hnm hu hw (.inl he) rfl).mono ?_
      rintro r w' ⟨rfl, hb⟩
      rw [he]
      exact .inr ⟨hl', hb, .inl ⟨hc, rfl⟩⟩
    · rcases hp : pres xs i with _ | _
      · have he : thereE xs i = 4 := by unfold thereE presE; rw [hc, hp]; rfl
        refine (rupdate_no A n c xs i 1 e0 e s h B d w ht hnm hu hw (.inr he) rfl).mono ?_
        rintro r w' ⟨rfl, hb⟩
        rw [he]
        exact .inr ⟨hl', hb, .inr (.inl ⟨hc, hp, rfl⟩)⟩
      · obtain ⟨p0, p1⟩ := pres_in hp
        obtain ⟨j, rfl⟩ := Int.eq_ofNat_of_zero_le p0
        refine (rupdate_go A n c xs j e0 e s h B d w ht hnm hu hw (hba hc) hc hp hd).mono ?_
        rintro r w' ⟨hb, g, cap, qs, rfl, htr⟩
        exact .inr ⟨hl', hb, .inr (.inr ⟨hc, hp, g, cap, qs, rfl, htr⟩)⟩
end Go.Proofs.YtimdohjlhbpmhaaDoor
