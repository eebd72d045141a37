/- RatchetBack, walked: what was added and is removed is as it was, but for the nodes above; Apply. -/
import Derived.Test.YtimdohjlhbpmhaaDoorL6
namespace Go.Proofs.YtimdohjlhbpmhaaDoor
open Go.RowKit Go.KK Go.Shelf
set_option linter.unusedVariables false
set_option linter.unusedSimpArgs false

theorem half_lt {K K' m : Nat} (h : 2 ^ K / 2 ≤ m) (h' : m < 2 ^ K') : K ≤ K' := by
  rcases Nat.lt_or_ge K' K with hh | hh
  · exfalso
    obtain ⟨d, rfl⟩ : ∃ d, K = K' + 1 + d := ⟨K - (K' + 1), by omega⟩
    have h1 : 2 ^ (K' + 1) ≤ 2 ^ (K' + 1 + d) := Nat.pow_le_pow_right (by omega) (by omega)
    rw [Nat.pow_succ] at h1
    omega
  · exact hh
theorem sameN_eq {x y : TN} (h : sameN x y = true) : x = y := by
  unfold sameN at h
  simp only [Bool.and_eq_true, beq_iff_eq] at h
  obtain ⟨⟨⟨⟨⟨a, b⟩, c⟩, d⟩, e⟩, f⟩ := h
  obtain ⟨_, _, _, _, _, _⟩ := x
  obtain ⟨_, _, _, _, _, _⟩ := y
  simp only at a b c d e f
  subst a; subst b; subst c; subst d; subst e; subst f
  rfl
theorem oth_to {xs ys : List TN} {but : Int} (h : othB xs ys but = true) (m : Nat) (hm : (m : Int) ≠ but) : ndx xs (2 * m) = ndx ys (2 * m) := by
  by_cases hr : m < max xs.length ys.length / 2 + 1
  · unfold othB at h
    rw [List.all_eq_true] at h
    have := h m (List.mem_range.2 hr)
    rw [beq_eq_false_iff_ne.2 hm, Bool.false_or] at this
    exact sameN_eq this
  · rw [ndx_out (by omega), ndx_out (by omega)]
theorem add_sound {xs : List TN} {l : TN} {K : Nat} (h : Sound K xs) (hh : halfB xs = false) (hc : chkB xs = true) (hw : WfT xs) (hx : xs.length ≤ 140) (hl : l.k = 1 ∧ l.u = []) (hl5 : W5 l) :
    ∃ K', Sound K' (addL xs l) ∧ freeN xs < 2 ^ K' ∧ ∀ m, m ≠ freeN xs → ndx (addL xs l) (2 * m) = ndx xs (2 * m) := by
  obtain ⟨c1, c2, c3, c4⟩ := add_may hc hw hx hl hl5
  obtain ⟨K', g, _⟩ := chk_sound c1 c4
  have h2 := (List.getElem?_eq_some_iff.1 c3).1
  have hl2 := g.len
  rw [Nat.pow_succ] at hl2
  refine ⟨K', g, by omega, fun m hm => ?_⟩
  exact (oth_to c2 m (by omega)).symm
theorem back_may {xs : List TN} {l : TN} (hc : chkB xs = true) (hw : WfT xs) (hx : xs.length ≤ 140) (hl : l.k = 1 ∧ l.u = []) (hl5 : W5 l) :
    pres (addL xs l) (freeN xs : Int) = true ∧ ∃ ys, remO (addL xs l) (freeN xs : Int) = some ys ∧ ys.length = xs.length ∧ othB xs ys (freeN xs : Int) = true := by
  obtain ⟨K, h, hh⟩ := chk_sound hc hw
  obtain ⟨c1, c2, c3, c4⟩ := add_may hc hw hx hl hl5
  obtain ⟨K', g, hk, hn⟩ := add_sound h hh hc hw hx hl hl5
  obtain ⟨f1, f2, f3⟩ := free_spec xs
  have hpr : pres (addL xs l) (freeN xs : Int) = true := (pres_iff g).2 ⟨_, rfl, hk, by rw [kd_some c3]; exact hl.1⟩
  have hs := sound_chg (l := zeroN) g hk (.inl rfl)
  obtain ⟨m, a, b, c⟩ := (half_iff h).1 hh
  have hmk : m ≠ freeN xs := fun e => by
    have : pres xs (freeN xs : Int) = true := (pres_iff h).2 ⟨m, by rw [e], b, c⟩
    rw [f3] at this; cases this
  have hkz : ∀ m, m ≠ freeN xs → ndx (chgL (addL xs l) (freeN xs : Int) zeroN) (2 * m) = ndx xs (2 * m) := fun m hm => by
    rw [chg_eq, way_ndx g.len g.le hk (by omega), hn m hm]
  have hkm : kd (chgL (addL xs l) (freeN xs : Int) zeroN) (2 * m) = 1 := by rw [kd_ndx, hkz m hmk, ← kd_ndx]; exact c
  have hm' : m < 2 ^ K' := by
    obtain ⟨x, hx'⟩ := kd_ne (show kd (chgL (addL xs l) (freeN xs : Int) zeroN) (2 * m) ≠ 0 by rw [hkm]; decide)
    have h1 := (List.getElem?_eq_some_iff.1 hx').1
    have h2 := hs.len
    rw [Nat.pow_succ] at h2
    omega
  obtain ⟨ys, e⟩ := cut_some 10 K' _ hs (by have := g.le; omega) ⟨m, hm', hkm⟩
  obtain ⟨K2, y1, y2, y3⟩ := cut_sound _ _ _ _ hs e
  have hyn : ∀ m, m ≠ freeN xs → ndx ys (2 * m) = ndx xs (2 * m) := fun m hm => by rw [y3, hkz m hm]
  have lt_of : ∀ {K : Nat} {zs : List TN}, Sound K zs → ∀ {m : Nat}, kd zs (2 * m) = 1 → m < 2 ^ K := fun {K zs} hz {m} hk => by
    obtain ⟨x, hx'⟩ := kd_ne (show kd zs (2 * m) ≠ 0 by rw [hk]; decide)
    have h1 := (List.getElem?_eq_some_iff.1 hx').1
    have h2 := hz.len
    rw [Nat.pow_succ] at h2
    omega
  have hK : K ≤ K2 := half_lt a (lt_of y1 (by rw [kd_ndx, hyn m hmk, ← kd_ndx]; exact c))
  have hK2 : K2 ≤ K := by
    obtain ⟨p, p1, p2, p3⟩ := (half_iff y1).1 y2
    by_cases hp : p = freeN xs
    · exfalso
      rw [hp, kd_ndx, y3, ← kd_ndx, chg_eq, way_kd g.len g.le hk hk, if_pos rfl] at p3
      exact absurd p3 (by decide)
    · exact half_lt p1 (lt_of h (by rw [kd_ndx, ← hyn p hp, ← kd_ndx]; exact p3))
  have hKK : K2 = K := by omega
  refine ⟨hpr, ys, e, ?_, oth_of fun m hm => (hyn m (by omega)).symm⟩
  have h1 := y1.len
  have h2 := h.len
  rw [hKK] at h1
  omega

/-- The leaf that the first change adds. -/
abbrev lf5 (i e s h : Int) : TN := ⟨1, i, e, s, h, []⟩
set_option maxHeartbeats 1000000 in
theorem bk1_any (A : Option Addr) (n c : Nat) (xs : List TN) (bl : Nat) (i e s h : Int) (B : Option Addr) (d base : Nat) (w : World) (ht : Tr w A n c xs) (hf : fewT xs = true) (hT : Tab w) (hd : d ≤ maxLen) (hb : w.ownsRow base 25 6 (.slice (some ⟨bl, 0, none⟩) 1 1) 1 [.int .i64 1, .int .i64 i, .int .i64 e, .int .i64 s, .int .i64 h, .slice B 0 d]) :
    Calls Tryd.prog 26 #[.slice A n c, .pointer (some ⟨bl, 0, none⟩)] w fun r w' => ∃ v, r = .returned (.tuple #[v, .int .i64 (addE xs (lf5 i e s h))]) ∧ OwnT w' w.heap.size v (addT xs (lf5 i e s h)) ∧ Below w.heap.size w w' := by
  obtain ⟨⟨k0, k1, k2, k3, k4, k5⟩, -⟩ := bx6 hb
  have H := hid ht; have HF := hid hf; have HT := hid hT; have HD := hid hd
  clear ht hf hT hd hb
  go_enter Tryd.func26, Tryd.ntmps26
  go_wp2_with fail
  refine (add_any A n c xs (lf5 i e s h) B d _ H.out HF.out HT.out HD.out).mono ?_
  rintro e1 w1 ⟨v, rfl, o, b⟩
  go_wp2_with fail
  go_ret2
  exact ⟨v, rfl, o, b⟩
set_option maxHeartbeats 1000000 in
theorem bk2_any (A : Option Addr) (n c : Nat) (xs : List TN) (bk : Nat) (k : Int) (w : World) (ht : Tr w A n c xs) (hnm : n ≤ 600) (hT : Tab w) (hu : Shorts xs) (hk : w.cell? ⟨bk, 0, none⟩ = some (.int .i64 k)) :
    Calls Tryd.prog 27 #[.slice A n c, .pointer (some ⟨bk, 0, none⟩)] w (RemS w xs k) := by
  have HR := hid ((remove_any A n c xs k w ht hnm hT hu chk_bare).mono fun _ _ h => remS_of h)
  clear ht hnm hT hu
  go_enter Tryd.func27, Tryd.ntmps27
  go_wp2_with fail
  refine HR.out.mono ?_
  rintro e1 w1 ⟨v, rfl, o, b⟩
  go_wp2_with fail
  go_ret2
  exact ⟨v, rfl, o, b⟩
/-- What the tree is before each change. -/
def zsOf (xs zs ys : List TN) : Nat → List TN
  | 0 => xs
  | 1 => zs
  | _ => ys
set_option maxHeartbeats 4000000 in
theorem apply_go (A : Option Addr) (n c : Nat) (xs ys : List TN) (gf bl bk : Nat) (i e s h : Int) (B : Option Addr) (d base : Nat) (w : World) (ht : Tr w A n c xs) (hf : fewT xs = true) (hc : chkB xs = true) (hT : Tab w) (hd : d ≤ maxLen) (hb : w.ownsRow base 25 6 (.slice (some ⟨bl, 0, none⟩) 1 1) 1 [.int .i64 1, .int .i64 i, .int .i64 e, .int .i64 s, .int .i64 h, .slice B 0 d])
    (hk : w.cell? ⟨bk, 0, none⟩ = some (.int .i64 (freeN xs))) (hkb : bk < w.heap.size) (hg0 : w.cell? ⟨gf, 0, none⟩ = some (.func (.func 26) #[] #[.pointer (some ⟨bl, 0, none⟩)])) (hg1 : w.cell? ⟨gf, 1, none⟩ = some (.func (.func 27) #[] #[.pointer (some ⟨bk, 0, none⟩)])) (hgb : gf < w.heap.size)
    (hca : chkB (addL xs (lf5 i e s h)) = true) (hpr : pres (addL xs (lf5 i e s h)) (freeN xs : Int) = true) (hro : remO (addL xs (lf5 i e s h)) (freeN xs : Int) = some ys) :
    Calls Tryd.prog 28 #[.slice A n c, .slice (some ⟨gf, 0, none⟩) 2 2] w fun r w' => ∃ A' c', r = .returned (.tuple #[.slice A' ys.length c', .int .i64 0]) ∧ Tr w' A' ys.length c' ys ∧ Below w.heap.size w w' := by
  obtain rfl := ht.len
  obtain ⟨s1, a1, o1, hx140⟩ := few_shorts hf
  obtain ⟨ya, yi, ye⟩ := addT_yes (xs := xs) (l := lf5 i e s h) hc rfl
  obtain ⟨al, asx⟩ := addT_ok (l := lf5 i e s h) hf
  obtain ⟨b0, o0, rfl⟩ := chk_some ht hc
  have hn : xs.length ≤ 600 := by omega
  rw [ya] at al asx
  have hBA := a1 hc
  have hR : remE (addL xs (lf5 i e s h)) (freeN xs : Int) = 0 := by unfold remE; rw [hca, hpr, hro]; rfl
  have hRT : remT (addL xs (lf5 i e s h)) (freeN xs : Int) = ys := by unfold remT remOk; rw [hca, hpr, hro]; rfl
  have H := hid ht; have HF := hid hf; have HC := hid hc; have HT := hid hT; have HD := hid hd; have HB := hid hb; have HK := hid hk; have HG0 := hid hg0; have HG1 := hid hg1
  have HY := hid ya; have HYE := hid ye; have HAL := hid al; have HAS := hid asx; have HR := hid hR; have HRT := hid hRT; have HBA := hid hBA; have S1 := hid s1
  have HKB := hid hkb; have HGB := hid hgb
  clear ht hf hc hT hd hb hk hg0 hg1 ya yi ye al asx hR hRT hBA hca hpr hro a1 o1 s1 hkb hgb
  go_enter Tryd.func28, Tryd.ntmps28
  go_wp2_with fail
  refine (chk_any (some ⟨b0, o0, none⟩) _ c xs _ H.out hn HT.out S1.out).mono ?_
  rintro e1 w1 ⟨rfl, b1⟩
  rw [chkE_yes HC.out]
  have B1 := hid b1
  clear b1
  go_wp2_with fail
  refine (copied_any b0 o0 _ c xs _ (H.out.ext B1.out) hn S1.out HBA.out).mono ?_
  rintro e2 w2 ⟨g, cap, qs, rfl, t2, b2⟩
  have T2 := hid t2.tr
  have B2 := hid (B1.out.trans (b2.mono B1.out.size))
  clear t2 b2
  go_wp2_with fail
  go_loopw [18, 6] (fun q u wr => ∃ (j : Nat) (A' : Option Addr) (c' : Nat), q = .int .i64 j ∧ j ≤ 2 ∧ u = .slice A' (zsOf xs (addL xs (lf5 i e s h)) ys j).length c' ∧ Tr wr A' (zsOf xs (addL xs (lf5 i e s h)) ys j).length c' (zsOf xs (addL xs (lf5 i e s h)) ys j) ∧ Below w.heap.size w wr) (fun q u _ => 2 - (intOf q).toNat)
  case atStart => exact ⟨0, _, _, rfl, by omega, rfl, T2.out, B2.out⟩
  case round =>
    obtain ⟨j, A', c', hq, hj, hu, htr, hbw⟩ := hrel
    have HTR := hid htr; have HBW := hid hbw
    have g0 := (HBW.out.cell (p := ⟨gf, 0, none⟩) HGB.out).trans HG0.out
    have g1 := (HBW.out.cell (p := ⟨gf, 1, none⟩) HGB.out).trans HG1.out
    clear htr hbw
    rcases j with _ | _ | _ | j
    · replace hq : _ = Value.int .i64 0 := hq
      replace hu : _ = Value.slice A' xs.length c' := hu
      replace HTR := hid (show Tr wr A' xs.length c' xs from HTR.out)
      subst hq; subst hu
      go_wp2_with fail
      refine (bk1_any A' xs.length c' xs bl i e s h B d base _ HTR.out HF.out (HT.out.ext HBW.out) HD.out (own_ext HB.out HBW.out)).mono ?_
      rintro e3 w3 ⟨v3, rfl, o3, b3⟩
      rw [HY.out] at o3
      rw [HYE.out]
      obtain ⟨A3, c3, rfl, t3⟩ := o3.shape
      have T3 := hid t3
      have B3 := hid (HBW.out.trans (b3.mono HBW.out.size))
      clear o3 t3 b3
      go_wp2_with fail
      go_roundw
      case rel => exact ⟨1, A3, c3, rfl, by omega, rfl, T3.out, B3.out⟩
      case measure => simp [intOf]
    · replace hq : _ = Value.int .i64 1 := hq
      replace hu : _ = Value.slice A' (addL xs (lf5 i e s h)).length c' := hu
      replace HTR := hid (show Tr wr A' (addL xs (lf5 i e s h)).length c' (addL xs (lf5 i e s h)) from HTR.out)
      subst hq; subst hu
      go_wp2_with fail
      refine (bk2_any A' _ c' (addL xs (lf5 i e s h)) bk _ _ HTR.out HAL.out (HT.out.ext HBW.out) HAS.out ((HBW.out.cell (p := ⟨bk, 0, none⟩) HKB.out).trans HK.out)).mono ?_
      rintro e3 w3 ⟨v3, rfl, o3, b3⟩
      rw [HRT.out] at o3
      rw [HR.out]
      obtain ⟨A3, c3, rfl, t3⟩ := o3.shape
      have T3 := hid t3
      have B3 := hid (HBW.out.trans (b3.mono HBW.out.size))
      clear o3 t3 b3
      go_wp2_with fail
      go_roundw
      case rel => exact ⟨2, A3, c3, rfl, by omega, rfl, T3.out, B3.out⟩
      case measure => simp [intOf]
    · replace hq : _ = Value.int .i64 2 := hq
      replace hu : _ = Value.slice A' ys.length c' := hu
      replace HTR := hid (show Tr wr A' ys.length c' ys from HTR.out)
      subst hq; subst hu
      go_wp2_with fail
      go_ret2
      exact ⟨A', c', rfl, HTR.out, HBW.out⟩
    · omega
set_option maxHeartbeats 4000000 in
theorem apply_no (A : Option Addr) (n c : Nat) (xs : List TN) (gf bk : Nat) (x : Value) (w : World) (ht : Tr w A n c xs) (hf : fewT xs = true) (hc : chkB xs = true) (hT : Tab w)
    (hk : w.cell? ⟨bk, 0, none⟩ = some (.int .i64 (freeN xs))) (hkb : bk < w.heap.size) (hg0 : w.cell? ⟨gf, 0, none⟩ = some (.func (.func 27) #[] #[.pointer (some ⟨bk, 0, none⟩)])) (hgb : gf < w.heap.size) :
    Calls Tryd.prog 28 #[.slice A n c, .slice (some ⟨gf, 0, none⟩) 2 2] w fun r w' => r = .returned (.tuple #[.slice none 0 0, .int .i64 4]) ∧ Below w.heap.size w w' := by
  obtain rfl := ht.len
  obtain ⟨s1, a1, o1, hx140⟩ := few_shorts hf
  obtain ⟨b0, o0, rfl⟩ := chk_some ht hc
  have hn : xs.length ≤ 600 := by omega
  have hBA := a1 hc
  have hR : remE xs (freeN xs : Int) = 4 := by unfold remE; rw [hc, (free_spec xs).2.2]; rfl
  have H := hid ht; have HC := hid hc; have HT := hid hT; have HK := hid hk; have HG0 := hid hg0; have HR := hid hR; have HBA := hid hBA; have S1 := hid s1
  have HKB := hid hkb; have HGB := hid hgb
  clear ht hf hc hT hk hg0 hR hBA a1 o1 s1 hkb hgb
  go_enter Tryd.func28, Tryd.ntmps28
  go_wp2_with fail
  refine (chk_any (some ⟨b0, o0, none⟩) _ c xs _ H.out hn HT.out S1.out).mono ?_
  rintro e1 w1 ⟨rfl, b1⟩
  rw [chkE_yes HC.out]
  have B1 := hid b1
  clear b1
  go_wp2_with fail
  refine (copied_any b0 o0 _ c xs _ (H.out.ext B1.out) hn S1.out HBA.out).mono ?_
  rintro e2 w2 ⟨g, cap, qs, rfl, t2, b2⟩
  have T2 := hid t2.tr
  have B2 := hid (B1.out.trans (b2.mono B1.out.size))
  clear t2 b2
  go_wp2_with fail
  go_loopw [18, 6] (fun q u wr => q = .int .i64 0 ∧ u = .slice (some ⟨g, 0, none⟩) xs.length cap ∧ wr = w2) (fun q u _ => 0)
  case atStart => exact ⟨rfl, rfl, rfl⟩
  case round =>
    obtain ⟨hq, hu, hw⟩ := hrel
    subst hq; subst hu; subst hw
    have g0 := (B2.out.cell (p := ⟨gf, 0, none⟩) HGB.out).trans HG0.out
    go_wp2_with fail
    refine (bk2_any (some ⟨g, 0, none⟩) _ cap xs bk _ _ T2.out hn (HT.out.ext B2.out) S1.out ((B2.out.cell (p := ⟨bk, 0, none⟩) HKB.out).trans HK.out)).mono ?_
    rintro e3 w3 ⟨v3, rfl, o3, b3⟩
    rw [HR.out]
    have B3 := hid (B2.out.trans (b3.mono B2.out.size))
    clear b3
    go_wp2_with fail
    go_ret2
    exact ⟨rfl, B3.out⟩

set_option maxHeartbeats 4000000 in
theorem back_no (A : Option Addr) (n c : Nat) (xs : List TN) (k i0 e s h : Int) (B : Option Addr) (m d : Nat) (w : World) (ht : Tr w A n c xs) (hw : WfT xs) (hT : Tab w) (hno : fewT xs = false ∨ 0 < m ∨ chkB xs = false) :
    Calls Tryd.prog 6 #[.slice A n c, .agg #[.int .i64 k, .int .i64 i0, .int .i64 e, .int .i64 s, .int .i64 h, .slice B m d]] w fun e w' => e = .returned (.bool true) ∧ Below w.heap.size w w' := by
  have H := hid ht; have HW := hid hw; have HT := hid hT
  have B0 := hid (show Below w.heap.size w (w.alloc (.cells #[.int .i64 k, .int .i64 i0, .int .i64 e, .int .i64 s, .int .i64 h, .slice B m d] 25)) from (Below.refl _ _).alloc (Nat.le_refl _) _)
  have X0 := hid (box_new w 25 (.int .i64 k) (.int .i64 i0) (.int .i64 e) (.int .i64 s) (.int .i64 h) (.slice B m d))
  have HNO := hid hno
  clear ht hw hT hno
  go_enter Tryd.func6, Tryd.ntmps6
  go_wp2_with fail
  refine (live_any _ (HT.out.ext B0.out)).mono ?_
  rintro e1 w1 ⟨rfl, b1⟩
  have X1 := hid (own_ext X0.out b1)
  have B1 := hid (below_new (Below.refl _ _) (Nat.le_refl _) b1).1
  have L1 := hid (sla_row (w := w1) (T := 22) #[.slice A n c] (show (1 : Nat) ≤ maxLen by decide))
  have B2 := hid (B1.out.alloc B1.out.size (.cells #[.slice A n c] 22))
  clear b1
  go_wp2_with fail
  refine (few_any _ 1 1 _ [xs] _ L1.out rfl (by omega) (fun j v zs hv hz => ?_)).mono ?_
  · rcases j with _ | j
    · injection hv with hv; injection hz with hz
      subst hv; subst hz
      exact ⟨A, n, c, rfl, H.out.ext B2.out⟩
    · simp at hv
  rintro e2 w2 ⟨rfl, b2⟩
  have X2 := hid (own_ext X1.out (below_one b2))
  have B3 := hid (B1.out.trans ((below_one b2).mono B1.out.size))
  clear b2
  rcases hf0 : [xs].all fewT with _ | _
  · go_wp2_with fail
    go_ret
    exact ⟨rfl, B3.out⟩
  have HF := hid (few_one hf0)
  clear hf0
  obtain ⟨⟨k0, k1, k2, k3, k4, k5⟩, -⟩ := bx6 X2.out
  by_cases hlen : 0 < m
  · have hl1 : (0 : Int) < (m : Int) := by omega
    go_wp2_with fail
    go_ret
    exact ⟨rfl, B3.out⟩
  obtain rfl : m = 0 := by omega
  have HC := hid (show chkB xs = false by
    rcases HNO.out with h | h | h
    · rw [HF.out] at h; cases h
    · omega
    · exact h)
  obtain ⟨s1, a1, o1, hx140⟩ := few_shorts HF.out
  have S1 := hid s1
  have hn : n ≤ 600 := by have := H.out.len; omega
  clear s1 a1 o1 hx140 hlen
  go_wp2_with fail
  refine (rchk_any A n c xs _ (H.out.ext B3.out) hn S1.out HW.out).mono ?_
  rintro e3 w3 ⟨rfl, b3⟩
  rw [chkE_no HC.out]
  have B4 := hid (B3.out.trans (b3.mono B3.out.size))
  clear b3
  go_wp2_with fail
  go_ret
  exact ⟨rfl, B4.out⟩
set_option maxHeartbeats 8000000 in
set_option maxRecDepth 20000 in
theorem back_go (A : Option Addr) (n c : Nat) (xs : List TN) (k i0 e s h : Int) (B : Option Addr) (d : Nat) (w : World) (ht : Tr w A n c xs) (hw : WfT xs) (hT : Tab w) (hf : fewT xs = true) (hc : chkB xs = true) (hd : d ≤ maxLen) (hl5 : W5 ⟨1, i0, e, s, h, []⟩) :
    Calls Tryd.prog 6 #[.slice A n c, .agg #[.int .i64 k, .int .i64 i0, .int .i64 e, .int .i64 s, .int .i64 h, .slice B 0 d]] w fun e w' => e = .returned (.bool true) ∧ Below w.heap.size w w' := by
  have H := hid ht; have HW := hid hw; have HT := hid hT; have HF := hid hf; have HC := hid hc; have HD := hid hd; have H5 := hid hl5
  have B0 := hid (show Below w.heap.size w (w.alloc (.cells #[.int .i64 k, .int .i64 i0, .int .i64 e, .int .i64 s, .int .i64 h, .slice B 0 d] 25)) from (Below.refl _ _).alloc (Nat.le_refl _) _)
  have X0 := hid (box_new w 25 (.int .i64 k) (.int .i64 i0) (.int .i64 e) (.int .i64 s) (.int .i64 h) (.slice B 0 d))
  obtain ⟨s1, a1, o1, hx140⟩ := few_shorts hf
  have S1 := hid s1; have HX := hid hx140
  have hn : n ≤ 600 := by have := ht.len; omega
  clear ht hw hT hf hc hd hl5 s1 a1 o1 hx140
  go_enter Tryd.func6, Tryd.ntmps6
  go_wp2_with fail
  refine (live_any _ (HT.out.ext B0.out)).mono ?_
  rintro e1 w1 ⟨rfl, b1⟩
  have X1 := hid (own_ext X0.out b1)
  have B1 := hid (below_new (Below.refl _ _) (Nat.le_refl _) b1).1
  have L1 := hid (sla_row (w := w1) (T := 22) #[.slice A n c] (show (1 : Nat) ≤ maxLen by decide))
  have B2 := hid (B1.out.alloc B1.out.size (.cells #[.slice A n c] 22))
  clear b1
  go_wp2_with fail
  refine (few_any _ 1 1 _ [xs] _ L1.out rfl (by omega) (fun j v zs hv hz => ?_)).mono ?_
  · rcases j with _ | j
    · injection hv with hv; injection hz with hz
      subst hv; subst hz
      exact ⟨A, n, c, rfl, H.out.ext B2.out⟩
    · simp at hv
  rintro e2 w2 ⟨rfl, b2⟩
  have X2 := hid (own_ext X1.out (below_one b2))
  have B3 := hid (B1.out.trans ((below_one b2).mono B1.out.size))
  clear b2
  rw [show [xs].all fewT = true by simp [HF.out]]
  obtain ⟨⟨k0, k1, k2, k3, k4, k5⟩, -⟩ := bx6 X2.out
  go_wp2_with fail
  refine (rchk_any A n c xs _ (H.out.ext B3.out) hn S1.out HW.out).mono ?_
  rintro e3 w3 ⟨rfl, b3⟩
  rw [chkE_yes HC.out]
  have B4 := hid (B3.out.trans (b3.mono B3.out.size))
  have X3 := hid (own_ext X2.out b3)
  clear b3 k0 k1 k2 k3 k4 k5
  obtain ⟨⟨k0, k1, k2, k3, k4, k5⟩, f0, f1, f2, f3, f4, f5⟩ := bx6 X3.out
  go_upto_region 5 with fail
  refine forget (R := fun W => W.ownsRow w.heap.size 25 6 (.slice (some ⟨w.heap.size, 0, none⟩) 1 1) 1 [.int .i64 1, .int .i64 i0, .int .i64 e, .int .i64 s, .int .i64 h, .slice B 0 d] ∧ Below w.heap.size w W) ?_ ⟨(X3.out.stored 0 (.int .i64 1)).1, B4.out.setCell (p := ⟨w.heap.size, 0, none⟩) (Nat.le_refl _) _⟩
  rintro W ⟨rx, rb⟩
  have X4 := hid rx; have B5 := hid rb
  clear rx rb k0 k1 k2 k3 k4 k5 f0 f1 f2 f3 f4 f5
  obtain ⟨⟨k0, k1, k2, k3, k4, k5⟩, -⟩ := bx6 X4.out
  go_wp2_with fail
  refine (add_any A n c xs ⟨1, i0, e, s, h, []⟩ B d _ (H.out.ext B5.out) HF.out (HT.out.ext B5.out) HD.out).mono ?_
  rintro e4 w4 ⟨v4, rfl, o4, b4⟩
  obtain ⟨ya, yi, ye⟩ := addT_yes (xs := xs) (l := ⟨1, i0, e, s, h, []⟩) HC.out rfl
  rw [ya] at o4
  rw [yi, ye]
  obtain ⟨ac, ao, aw, af⟩ := add_may HC.out HW.out HX.out (l := ⟨1, i0, e, s, h, []⟩) ⟨rfl, rfl⟩ H5.out
  obtain ⟨al, asx⟩ := addT_ok (l := ⟨1, i0, e, s, h, []⟩) HF.out
  rw [ya] at al asx
  have AC := hid ac; have AO := hid ao; have AW := hid aw; have AF := hid af; have AS := hid asx
  have ag := (free_spec xs).2.2
  have hfl : 2 * freeN xs < (addL xs ⟨1, i0, e, s, h, []⟩).length := (List.getElem?_eq_some_iff.1 aw).1
  obtain ⟨g4, c4, rfl, t4⟩ := own_tr o4 (by omega)
  have X5 := hid (own_ext X4.out b4)
  have T4 := hid t4
  have B6 := hid (B5.out.trans (b4.mono B5.out.size))
  have AG := hid ag
  obtain ⟨bp, ys, bo, bl, bt⟩ := back_may HC.out HW.out HX.out (l := ⟨1, i0, e, s, h, []⟩) ⟨rfl, rfl⟩ H5.out
  have BP := hid bp; have BO := hid bo; have BT := hid bt; have BL := hid bl
  have hR : remE (addL xs ⟨1, i0, e, s, h, []⟩) (freeN xs : Int) = 0 := by unfold remE; rw [AC.out, bp, bo]; rfl
  have hRT : remT (addL xs ⟨1, i0, e, s, h, []⟩) (freeN xs : Int) = ys := by unfold remT remOk; rw [AC.out, bp, bo]; rfl
  have HR := hid hR; have HRT := hid hRT
  have YS := hid (show Shorts ys from ((remO_sh (addL_sh (l := ⟨1, i0, e, s, h, []⟩) (few_sh HF.out) (Nat.zero_le _)) bo).1).shorts (by omega))
  have hyn : ys.length ≤ 600 := by have := HX.out; omega
  clear ya yi ye ac ao aw af asx ag o4 t4 b4 k0 k1 k2 k3 k4 k5 bp bo bl bt hR hRT hfl
  go_upto_region 8 with fail
  refine forget (R := fun W => W.cell? ⟨w4.heap.size, 0, none⟩ = some (.int .i64 (freeN xs)) ∧ w4.heap.size < W.heap.size ∧ Below w4.heap.size w4 W) ?_ ⟨?_, ?_, ?_⟩
  rotate_left
  · rw [World.cell?_alloc_at _ _ _ _ rfl]; rfl
  · simp
  · exact (Below.refl _ w4).alloc (Nat.le_refl _) _
  rintro W4 ⟨ck, ck2, cb⟩
  have CK := hid ck; have CK2 := hid ck2
  have B7 := hid (B6.out.trans (cb.mono B6.out.size))
  have T5 := hid (T4.out.ext cb)
  have X6 := hid (own_ext X5.out cb)
  clear ck ck2 cb
  have ck := CK.out
  go_wp2_with fail
  refine ((remove_any (some ⟨g4, 0, none⟩) _ c4 _ (freeN xs : Int) _ T5.out al (HT.out.ext B7.out) AS.out chk_bare).mono fun _ _ h => remS_of h).mono ?_
  rintro e5 w5 ⟨v5, rfl, o5, b5⟩
  rw [HRT.out] at o5
  rw [HR.out]
  have X7 := hid (own_ext X6.out b5)
  have B8 := hid (B7.out.trans (b5.mono B7.out.size))
  have CK5 := hid ((b5.cell (p := ⟨w4.heap.size, 0, none⟩) CK2.out).trans CK.out)
  have CL5 := hid (Nat.lt_of_lt_of_le CK2.out b5.size)
  obtain ⟨A5, c5, rfl, t5⟩ := o5.shape
  have T6 := hid t5
  clear o5 t5 b5 ck
  have D0 := hid (show Below w5.heap.size w5 (w5.alloc (.cells #[.func (.func 26) #[] #[.pointer (some ⟨w.heap.size, 0, none⟩)], .func (.func 27) #[] #[.pointer (some ⟨w4.heap.size, 0, none⟩)]] 45)) from (Below.refl _ _).alloc (Nat.le_refl _) _)
  go_wp2_with fail
  refine (apply_go A n c xs ys _ _ _ i0 e s h B d w.heap.size _ (H.out.ext (B8.out.trans (D0.out.mono B8.out.size))) HF.out HC.out (HT.out.ext (B8.out.trans (D0.out.mono B8.out.size))) HD.out (own_ext X7.out D0.out) ((D0.out.cell (p := ⟨w4.heap.size, 0, none⟩) CL5.out).trans CK5.out) (Nat.lt_of_lt_of_le CL5.out D0.out.size) (by rw [World.cell?_alloc_at _ _ _ _ rfl]; rfl) (by rw [World.cell?_alloc_at _ _ _ _ rfl]; rfl) (by simp) AC.out BP.out BO.out).mono ?_
  rintro e6 w6 ⟨A6, c6, rfl, t6, b6⟩
  have T7 := hid t6
  have D1 := hid (D0.out.trans (b6.mono D0.out.size))
  clear t6 b6
  have CK6 := hid ((D1.out.cell (p := ⟨w4.heap.size, 0, none⟩) CL5.out).trans CK5.out)
  have CL6 := hid (Nat.lt_of_lt_of_le CL5.out D1.out.size)
  have D2 := hid (show Below w6.heap.size w6 (w6.alloc (.cells #[.func (.func 27) #[] #[.pointer (some ⟨w4.heap.size, 0, none⟩)], .func (.func 26) #[] #[.pointer (some ⟨w.heap.size, 0, none⟩)]] 45)) from (Below.refl _ _).alloc (Nat.le_refl _) _)
  have B9 := hid (B8.out.trans (D1.out.mono B8.out.size))
  have B10 := hid (B9.out.trans (D2.out.mono B9.out.size))
  go_wp2_with fail
  refine (apply_no A n c xs _ w4.heap.size (.int .i64 0) _ (H.out.ext B10.out) HF.out HC.out (HT.out.ext B10.out) ((D2.out.cell (p := ⟨w4.heap.size, 0, none⟩) CL6.out).trans CK6.out) (Nat.lt_of_lt_of_le CL6.out D2.out.size) (by rw [World.cell?_alloc_at _ _ _ _ rfl]; rfl) (by simp)).mono ?_
  rintro e7 w7 ⟨rfl, b7⟩
  have D3 := hid (D2.out.trans (b7.mono D2.out.size))
  have B11 := hid (B9.out.trans (D3.out.mono B9.out.size))
  have CK7 := hid ((D3.out.cell (p := ⟨w4.heap.size, 0, none⟩) CL6.out).trans CK6.out)
  clear b7
  have ck := CK7.out
  go_wp2_with fail
  refine (others_any A n c xs A5 _ c5 ys (freeN xs : Int) _ (H.out.ext B11.out) (T6.out.ext (D1.out.trans (D3.out.mono D1.out.size))) hn hyn S1.out YS.out).mono ?_
  rintro e8 w8 ⟨rfl, b8⟩
  rw [BT.out]
  have hyl : (ys.length : Int) = (n : Int) := by have h1 := BL.out; have h2 := H.out.len; omega
  have D4 := hid (D3.out.trans (b8.mono D3.out.size))
  clear b8
  go_wp2_with fail
  refine (rsame_any A5 _ c5 ys A6 _ c6 ys _ (T6.out.ext (D1.out.trans (D4.out.mono D1.out.size))) (T7.out.ext D4.out) hyn hyn YS.out YS.out).mono ?_
  rintro e9 w9 ⟨rfl, b9⟩
  rw [sameT_self]
  have D5 := hid (D4.out.trans (b9.mono D4.out.size))
  clear b9
  go_wp2_with fail
  go_ret
  exact ⟨rfl, B9.out.trans (D5.out.mono B9.out.size)⟩
theorem back_any (A : Option Addr) (n c : Nat) (xs : List TN) (l : TN) (B : Option Addr) (d : Nat) (w : World) (ht : Tr w A n c xs) (hl : SlA w 1 B l.u.length d (l.u.map (.int .i64))) (hw : WfT xs) (hl5 : W64 l.k ∧ W64 l.i ∧ W64 l.e ∧ W64 l.s ∧ W64 l.h) (hT : Tab w) :
    Calls Tryd.prog 6 #[.slice A n c, .agg #[.int .i64 l.k, .int .i64 l.i, .int .i64 l.e, .int .i64 l.s, .int .i64 l.h, .slice B l.u.length d]] w fun e w' => e = .returned (.bool true) ∧ Below w.heap.size w w' := by
  rcases hf : fewT xs with _ | _
  · exact back_no A n c xs _ _ _ _ _ B _ d w ht hw hT (.inl hf)
  · rcases hc : chkB xs with _ | _
    · exact back_no A n c xs _ _ _ _ _ B _ d w ht hw hT (.inr (.inr hc))
    · by_cases hu : 0 < l.u.length
      · exact back_no A n c xs _ _ _ _ _ B _ d w ht hw hT (.inr (.inl hu))
      · have h0 : l.u.length = 0 := by omega
        rw [h0]
        exact back_go A n c xs l.k l.i l.e l.s l.h B d w ht hw hT hf hc hl.cm ⟨(show W64 1 by unfold W64; decide), hl5.2⟩
end Go.Proofs.YtimdohjlhbpmhaaDoor
