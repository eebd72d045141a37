/- the reference of layer 7: Remove. -/
import Derived.Test.YtimdohjlhbpmhaaDoorQ12
namespace Go.Proofs.YtimdohjlhbpmhaaDoor
open Go.RowKit Go.KK Go.Shelf
set_option linter.unusedVariables false
set_option linter.unusedSimpArgs false

theorem some_none {zs : List TN} {m : Nat} (h : someB zs 0 m = false) {j : Nat} (hj : j < m) : (kd zs (2 * j) == 1) = false := by
  unfold someB at h
  rw [List.any_eq_false] at h
  have := h j (List.mem_range.2 hj)
  simp only [Nat.zero_le, decide_true, Bool.true_and] at this
  exact Bool.eq_false_iff.2 this
theorem kd_take {zs : List TN} {p j : Nat} (h : j < p) : kd (zs.take p) j = kd zs j := by
  unfold kd
  rw [List.getElem?_take_of_lt h]
/-- No leaf at all: cut to nothing. -/
theorem cut_none : ∀ (f : Nat) (zs : List TN) (m : Nat), fullN (m : Int) = true → zs.length + 1 = 2 * m → someB zs 0 m = false → cutF f zs = none
  | 0, _, _, _, _, _ => rfl
  | f + 1, zs, m, hf, hm, h => by
    have hlv : lvN zs.length = m := by unfold lvN; omega
    have hh : halfB zs = true := by
      rw [half_some, hlv]
      rcases hs : someB zs (m / 2) m with _ | _
      · rfl
      · rw [some_mono hs] at h; cases h
    rw [cutF, hh, if_pos rfl]
    split
    · rfl
    · have h1 : m ≠ 1 := by omega
      have h2 := fullN_even hf h1
      refine cut_none f _ (m / 2) (fullN_half hf h1) (by rw [List.length_take]; omega) ?_
      unfold someB
      rw [List.any_eq_false]
      intro j hj
      have hj' := List.mem_range.1 hj
      rw [kd_take (by omega), some_none h (by omega)]
      simp
theorem some_half {zs : List TN} {m : Nat} (h : someB zs 0 m = true) (h2 : someB zs (m / 2) m = false) (hz : zs.length + 1 = 2 * m) (hm : m = 2 * (m / 2)) : someB (zs.take (zs.length / 2)) 0 (m / 2) = true := by
  unfold someB at h h2 ⊢
  rw [List.any_eq_true] at h ⊢
  rw [List.any_eq_false] at h2
  obtain ⟨j, hj, hh⟩ := h
  have hj' := List.mem_range.1 hj
  simp only [Nat.zero_le, decide_true, Bool.true_and] at hh
  by_cases hl : j < m / 2
  · exact ⟨j, List.mem_range.2 hl, by rw [kd_take (by omega), hh]; simp⟩
  · have := h2 j hj
    rw [decide_eq_true (show m / 2 ≤ j by omega), hh] at this
    exact absurd rfl this
set_option maxHeartbeats 4000000 in
theorem rremove_go (A : Option Addr) (n c : Nat) (xs : List TN) (j : Nat) (w : World) (ht : Tr w A n c xs) (hnm : n ≤ 600) (hu : Shorts xs) (hw : WfT xs) (hba : Bare xs) (hc : chkB xs = true) (hp : pres xs (j : Int) = true) :
    Calls Tryd.prog 18 #[.slice A n c, .int .i64 j] w (RemP w xs (j : Int)) := by
  have HU := hid hu; have H := hid ht; have HBA := hid hba; have HW := hid hw
  have HF := hid (chk_full hc)
  have HC := hid hc; have HP := hid hp
  have HE := hid (show thereE xs (j : Int) = 0 by unfold thereE presE; rw [hc, hp]; rfl)
  obtain ⟨p0, p1⟩ := pres_in hp
  obtain rfl := ht.len
  have hN1 := fullN_le HF.out.1
  have hm0 : xs.length + 1 = 2 * lvN xs.length := by have := HF.out.2.1; omega
  have hN : lvN xs.length ≤ 256 := by omega
  have hjl : j < lvN xs.length := by omega
  have HR := hid (show rlv xs.length = lvN xs.length by unfold rlv; rw [HF.out.1, HF.out.2.1]; simp)
  obtain ⟨Y, hY⟩ : ∃ Y : Nat, Y = 2 * j := ⟨_, rfl⟩
  have hy : 2 * (j : Int) = (Y : Int) := by omega
  have hYx : Y < xs.length := by omega
  have hxl0 : 0 < xs.length := by omega
  have HCL := hid (show chgL xs (j : Int) zeroN = updAll blankN (xs.set Y zeroN) (pathL (2 * (j : Int)) (lvN xs.length)) by unfold chgL; rw [show (2 * (j : Int)).toNat = Y by omega])
  have HLN := hid (chgL_len xs (j : Int) zeroN)
  have HM0 := hid hm0
  clear hu ht hc hw hba hp hY hN1
  go_enter Tryd.func18, Tryd.ntmps18
  rcases hs0 : someB (chgL xs (j : Int) zeroN) 0 (lvN xs.length) with _ | _
  · have HS0 := hid hs0
    have HRN := hid (show remO xs (j : Int) = none from cut_none 10 _ (lvN xs.length) HF.out.1 (by rw [HLN.out]; exact HM0.out) HS0.out)
    clear hs0 hm0
    go_wp2_with (first
      | (go_at_call 47; refine (there_any _ _ c xs _ _ H.out hnm HU.out HW.out).mono ?_; rintro e1 w1 ⟨rfl, hb1⟩; rw [HE.out]; have H2 := hid (H.out.ext hb1); have HB2 := hid hb1; have hzz2 := hb1.size; clear hb1)
      | (go_at_call 10; refine (copy_any _ _ c xs _ H2.out hnm HU.out).mono ?_; rintro e3 w3 ⟨v3, qs, rfl, hcp3, hb3⟩; have HB3 := hid (HB2.out.trans (hb3.mono HB2.out.size)); have hzz3 := hb3.size; obtain ⟨g, cap, rfl, htr3⟩ := hcp3.trw HBA.out hxl0; have HTW := hid (htr3.mono (show w.heap.size ≤ _ by omega)); have hg3 := htr3.lt; clear hcp3 hb3 htr3; obtain ⟨x6, q6, hx6, hq6, c0, c1, c2, c3, c4, c5, f0, f1, f2, f3, f4, f5⟩ := HTW.out.six hYx; have hgb := HTW.out.lt.1; have HBN := hid ((((((HB3.out.setCell (p := ⟨g, Y * 6, none⟩) hgb (.int .i64 0)).setCell (p := ⟨g, Y * 6 + 1, none⟩) hgb (.int .i64 0)).setCell (p := ⟨g, Y * 6 + 2, none⟩) hgb (.int .i64 0)).setCell (p := ⟨g, Y * 6 + 3, none⟩) hgb (.int .i64 0)).setCell (p := ⟨g, Y * 6 + 4, none⟩) hgb (.int .i64 0)).setCell (p := ⟨g, Y * 6 + 5, none⟩) hgb (.slice none 0 0)); have HND := hid (HTW.out.node hYx zeroN none 0 (by decide) rfl (by decide)); have hab := rblank_any w.heap.size g cap j (xs.set Y zeroN) _ _ HND.out (by rw [List.length_set]; omega) (by rw [List.length_set]; exact HF.out.1) (by rw [List.length_set]; exact HF.out.2.1) (by rw [List.length_set]; omega) HBN.out.size; rw [List.length_set] at hab; have HAB := hid hab; clear hab hx6 hq6)
      | (go_at_call 48; refine HAB.out.mono ?_; rintro e6 w6 ⟨qs6, rfl, htr6, hb6⟩; rw [← HCL.out] at htr6; have HT6 := hid htr6; have HB6 := hid (HBN.out.trans hb6); have hst := some_any _ _ cap _ 0 (lvN xs.length) _ htr6.tr (by rw [HLN.out]; exact hnm) (by rw [HLN.out]; exact Nat.le_refl _) (Nat.zero_le _); rw [HS0.out, HLN.out] at hst; have HST := hid hst; clear htr6 hb6 hst)
      | (go_at_call 42; refine (rleavesT_any _ _ c _ hnm).mono ?_; rintro e w' ⟨rfl, hw'⟩; subst w'; rw [HR.out])
      | (go_at_call 49; refine HST.out.mono ?_; rintro e7 w7 ⟨rfl, hw7⟩; subst w7))
    go_ret2
    exact ⟨HB6.out, .inr (.inr (.inl ⟨HC.out, HP.out, HRN.out, rfl⟩))⟩
  · have HS0 := hid hs0
    clear hs0 hm0
    go_wp2_with (first
      | (go_at_call 47; refine (there_any _ _ c xs _ _ H.out hnm HU.out HW.out).mono ?_; rintro e1 w1 ⟨rfl, hb1⟩; rw [HE.out]; have H2 := hid (H.out.ext hb1); have HB2 := hid hb1; have hzz2 := hb1.size; clear hb1)
      | (go_at_call 10; refine (copy_any _ _ c xs _ H2.out hnm HU.out).mono ?_; rintro e3 w3 ⟨v3, qs, rfl, hcp3, hb3⟩; have HB3 := hid (HB2.out.trans (hb3.mono HB2.out.size)); have hzz3 := hb3.size; obtain ⟨g, cap, rfl, htr3⟩ := hcp3.trw HBA.out hxl0; have HTW := hid (htr3.mono (show w.heap.size ≤ _ by omega)); have hg3 := htr3.lt; clear hcp3 hb3 htr3; obtain ⟨x6, q6, hx6, hq6, c0, c1, c2, c3, c4, c5, f0, f1, f2, f3, f4, f5⟩ := HTW.out.six hYx; have hgb := HTW.out.lt.1; have HBN := hid ((((((HB3.out.setCell (p := ⟨g, Y * 6, none⟩) hgb (.int .i64 0)).setCell (p := ⟨g, Y * 6 + 1, none⟩) hgb (.int .i64 0)).setCell (p := ⟨g, Y * 6 + 2, none⟩) hgb (.int .i64 0)).setCell (p := ⟨g, Y * 6 + 3, none⟩) hgb (.int .i64 0)).setCell (p := ⟨g, Y * 6 + 4, none⟩) hgb (.int .i64 0)).setCell (p := ⟨g, Y * 6 + 5, none⟩) hgb (.slice none 0 0)); have HND := hid (HTW.out.node hYx zeroN none 0 (by decide) rfl (by decide)); have hab := rblank_any w.heap.size g cap j (xs.set Y zeroN) _ _ HND.out (by rw [List.length_set]; omega) (by rw [List.length_set]; exact HF.out.1) (by rw [List.length_set]; exact HF.out.2.1) (by rw [List.length_set]; omega) HBN.out.size; rw [List.length_set] at hab; have HAB := hid hab; clear hab hx6 hq6)
      | (go_at_call 48; refine HAB.out.mono ?_; rintro e6 W ⟨qs6, rfl, htr6, hb6⟩; rw [← HCL.out] at htr6; have HT6 := hid htr6; have HB6 := hid (HBN.out.trans hb6); have hst := some_any _ _ cap _ 0 (lvN xs.length) _ htr6.tr (by rw [HLN.out]; exact hnm) (by rw [HLN.out]; exact Nat.le_refl _) (Nat.zero_le _); rw [HS0.out, HLN.out] at hst; have HST := hid hst; clear htr6 hb6 hst)
      | (go_at_call 42; refine (rleavesT_any _ _ c _ hnm).mono ?_; rintro e w' ⟨rfl, hw'⟩; subst w'; rw [HR.out])
      | (go_at_call 49; refine HST.out.mono ?_; rintro e7 w7 ⟨rfl, hw7⟩; subst w7))
    have hz2 := fun (A : Option Addr) (n p : Nat) (hp : p ≤ cap) => run_cut_to6 (P := Tryd.prog) (A := A) (n := n) (c := cap) Tryd.underlying22 (fun W => Tryd.sizeOf25 W) (p := p) hp
    have HZ2 := hid hz2
    have HL0 := hid (show 1 ≤ lvN xs.length by omega)
    clear hz2
    go_loop [8, 7] (fun nv ov => ∃ (zs : List TN) (rs : List Value) (f m : Nat), nv = .int .i64 m ∧ ov = .slice (some ⟨g, 0, none⟩) zs.length cap ∧ TrW W w.heap.size g cap zs rs ∧ Hid (remO xs (j : Int) = cutF f zs) ∧ zs.length ≤ 600 ∧ zs.length < 2 ^ f ∧ Hid (fullN (m : Int) = true) ∧ Hid (zs.length + 1 = 2 * m) ∧ Hid (someB zs 0 m = true)) (fun nv _ => (intOf nv).toNat)
    case atStart => exact ⟨chgL xs (j : Int) zeroN, qs6, 10, lvN xs.length, rfl, by rw [HLN.out], HT6.out, hid rfl, by rw [HLN.out]; exact hnm, by rw [HLN.out]; omega, hid HF.out.1, hid (by rw [HLN.out]; exact HM0.out), HS0⟩
    case round =>
      obtain ⟨zs, rs, f, m, hnv, hov, htr, HRO, hz, hzf, HMF, HZM, HSM⟩ := hrel
      subst hnv; subst hov
      have hcap := htr.tr.nc.1
      have HTZ := hid htr
      clear htr
      have hm1 : 1 ≤ m := by have := fullN_le HMF.out; omega
      have hz1 : 1 ≤ zs.length := by have := HZM.out; omega
      have hm3 : m ≤ 301 := by have := HZM.out; omega
      have hlv : lvN zs.length = m := by have := HZM.out; unfold lvN; omega
      obtain ⟨f, rfl⟩ : ∃ f', f = f' + 1 := ⟨f - 1, by
        rcases f with _ | f
        · have h0 : zs.length < 2 ^ 0 := hzf
          rw [Nat.pow_zero] at h0; omega
        · omega⟩
      have HZF := hid hzf; clear hzf
      have HHS := hid (show halfB zs = !someB zs (m / 2) m by rw [half_some, hlv])
      have hst := some_any _ _ cap _ (m / 2) m _ HTZ.out.tr hz (by rw [hlv]; exact Nat.le_refl _) (by omega)
      by_cases hme : m = 1
      · subst hme
        have HRS := hid (show remO xs (j : Int) = some zs by rw [HRO.out, cutF, HHS.out, show (1 : Nat) / 2 = 0 from rfl, HSM.out]; rfl)
        clear hst
        go_wp2
        go_ret2
        exact ⟨HB6.out, .inr (.inr (.inr ⟨HC.out, HP.out, zs, HRS.out, g, cap, rs, rfl, HTZ.out⟩))⟩
      · have hm2 : 1 < m := by omega
        have HEV := hid (fullN_even HMF.out hme)
        have HHF := hid (fullN_half HMF.out hme)
        have hdiv : (m : Int) / 2 = ((m / 2 : Nat) : Int) := by omega
        have HM2 := hid hme
        obtain ⟨P, hP⟩ : ∃ P : Nat, P = m / 2 := ⟨_, rfl⟩
        have HPM := hid hP
        rw [← hP] at hst hdiv
        obtain ⟨Q, hQ⟩ : ∃ Q : Nat, Q = 2 * P - 1 := ⟨_, rfl⟩
        have hPp : 1 ≤ P := by have := HEV.out; omega
        have hq : 2 * (P : Int) - 1 = (Q : Int) := by omega
        have HQ := hid hQ
        have hQc : Q ≤ cap := by have := HEV.out; have := HZM.out; omega
        clear hP hQ hme
        rcases hs : someB zs P m with _ | _
        · have HS := hid hs
          have HQL := hid (show zs.length / 2 = Q by have := HEV.out; have := HZM.out; have := HPM.out; have := HQ.out; omega)
          have HRS := hid (show remO xs (j : Int) = cutF f (zs.take Q) by rw [HRO.out, cutF, HHS.out, ← HPM.out, HS.out, if_pos (show (!false) = true from rfl), if_neg (by have := HZM.out; have := HM2.out; omega), HQL.out])
          have hsl := HZ2.out (some ⟨g, 0, none⟩) zs.length Q hQc
          rw [hs] at hst
          have HST2 := hid hst
          clear hst hs
          go_wp2_with (go_at_call 49; refine HST2.out.mono ?_; rintro e7 w7 ⟨rfl, hw7⟩; subst w7)
          go_round
          case rel =>
            have h1 := HZF.out
            have h2 := HZM.out
            have h3 := HEV.out
            have h4 := HQ.out
            have h5 := HPM.out
            have hlt : (zs.take Q).length = Q := by rw [List.length_take]; omega
            rw [Nat.pow_succ] at h1
            refine ⟨zs.take Q, rs.take Q, f, P, rfl, by rw [hlt], HTZ.out.to (by omega), HRS, by rw [hlt]; omega, by rw [hlt]; omega, hid (by rw [h5]; exact HHF.out), hid (by rw [hlt]; omega), hid ?_⟩
            rw [h5, ← HQL.out]
            exact some_half HSM.out (by rw [← h5]; exact HS.out) h2 h3
          case measure => simp [intOf]; omega
        · have HRS := hid (show remO xs (j : Int) = some zs by rw [HRO.out, cutF, HHS.out, ← HPM.out, hs]; rfl)
          rw [hs] at hst
          have HST2 := hid hst
          clear hst hs
          go_wp2_with (go_at_call 49; refine HST2.out.mono ?_; rintro e7 w7 ⟨rfl, hw7⟩; subst w7)
          go_ret2
          exact ⟨HB6.out, .inr (.inr (.inr ⟨HC.out, HP.out, zs, HRS.out, g, cap, rs, rfl, HTZ.out⟩))⟩
theorem rremove_any (A : Option Addr) (n c : Nat) (xs : List TN) (i : Int) (w : World) (ht : Tr w A n c xs) (hnm : n ≤ 600) (hu : Shorts xs) (hw : WfT xs) (hba : chkB xs = true → Bare xs) :
    Calls Tryd.prog 18 #[.slice A n c, .int .i64 i] w (RemP w xs i) := by
  rcases hc : chkB xs with _ | _
  · have he : thereE xs i = 1 := by unfold thereE; rw [hc]; rfl
    refine (rremove_no A n c xs i w ht hnm hu hw (.inl he)).mono ?_
    rintro r w' ⟨rfl, hb⟩
    rw [he]
    exact ⟨hb, .inl ⟨hc, rfl⟩⟩
  · rcases hp : pres xs i with _ | _
    · have he : thereE xs i = 4 := by unfold thereE presE; rw [hc, hp]; rfl
      refine (rremove_no A n c xs i w ht hnm hu hw (.inr he)).mono ?_
      rintro r w' ⟨rfl, hb⟩
      rw [he]
      exact ⟨hb, .inr (.inl ⟨hc, hp, rfl⟩)⟩
    · obtain ⟨p0, p1⟩ := pres_in hp
      obtain ⟨j, rfl⟩ := Int.eq_ofNat_of_zero_le p0
      exact rremove_go A n c xs j w ht hnm hu hw (hba hc) hc hp
end Go.Proofs.YtimdohjlhbpmhaaDoor
