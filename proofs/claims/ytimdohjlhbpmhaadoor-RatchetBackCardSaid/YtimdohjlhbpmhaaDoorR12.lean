/- ratchet: change, Remove, Update, New. -/
import Derived.Test.YtimdohjlhbpmhaaDoorR11
namespace Go.Proofs.YtimdohjlhbpmhaaDoor
open Go.RowKit Go.KK Go.Shelf
set_option linter.unusedVariables false
set_option linter.unusedSimpArgs false

/-- A tree with another leaf at a place, blank above. -/
def chgL (xs : List TN) (i : Int) (l : TN) : List TN := updAll blankN (xs.set (2 * i).toNat l) (pathL (2 * i) (lvN xs.length))
theorem chgL_len (xs : List TN) (i : Int) (l : TN) : (chgL xs i l).length = xs.length := by unfold chgL; rw [updAll_len, List.length_set]
def ChgP (w : World) (xs : List TN) (i : Int) (l : TN) (r : Ending) (w' : World) : Prop :=
  Below w.heap.size w w' ∧ ((chkB xs = false ∧ r = .returned (.tuple #[.slice none 0 0, .int .i64 1])) ∨ (chkB xs = true ∧ pres xs i = false ∧ r = .returned (.tuple #[.slice none 0 0, .int .i64 4])) ∨
  (chkB xs = true ∧ pres xs i = true ∧ ∃ g cap qs, r = .returned (.tuple #[.slice (some ⟨g, 0, none⟩) xs.length cap, .int .i64 0]) ∧ TrW w' w.heap.size g cap (chgL xs i l) qs))
set_option maxHeartbeats 2000000 in
theorem change_any (A : Option Addr) (n c : Nat) (xs : List TN) (i : Int) (k e0 e s h : Int) (B : Option Addr) (d : Nat) (w : World) (ht : Tr w A n c xs) (hnm : n ≤ 600) (hT : Tab w) (hu : Shorts xs) (hba : chkB xs = true → Bare xs) (hk : k ≠ 2) (hd : d ≤ maxLen) :
    Calls Tryd.prog 45 #[.slice A n c, .int .i64 i, .agg #[.int .i64 k, .int .i64 e0, .int .i64 e, .int .i64 s, .int .i64 h, .slice B 0 d]] w (ChgP w xs i ⟨k, e0, e, s, h, []⟩) := by
  have hb0 : Below w.heap.size w (w.alloc (.cells #[.int .i64 k, .int .i64 e0, .int .i64 e, .int .i64 s, .int .i64 h, .slice B 0 d] 25)) := (Below.refl _ _).alloc (Nat.le_refl _) _
  have HT0 := hid hT
  have HT := hid (hT.ext hb0); have HU := hid hu; have H := hid (ht.ext hb0)
  rcases hc : chkB xs with _ | _
  · have he : chkE xs = 1 := by unfold chkE; rw [hc]; rfl
    have HC := hid hc
    clear hT hu ht hc hb0 hba
    go_enter Tryd.func45, Tryd.ntmps45
    go_wp2_with (go_at_call 29; refine (chk_any _ n c xs _ H.out hnm HT.out HU.out).mono ?_; rintro e1 w1 ⟨rfl, hb1⟩; rw [he]; have HB := hid hb1; clear hb1)
    go_ret2
    exact ⟨(below_new (Below.refl _ _) (Nat.le_refl _) HB.out).1, .inl ⟨HC.out, rfl⟩⟩
  · have he : chkE xs = 0 := by unfold chkE; rw [hc]; rfl
    have HC := hid hc; have HBA := hid (hba hc)
    have HF := hid (chk_full hc)
    rcases hp : pres xs i with _ | _
    · have HP := hid hp
      clear hT hu ht hc hb0 hba
      go_enter Tryd.func45, Tryd.ntmps45
      go_wp2_with (first
        | (go_at_call 29; refine (chk_any _ n c xs _ H.out hnm HT.out HU.out).mono ?_; rintro e1 w1 ⟨rfl, hb1⟩; rw [he]; have H1 := hid (H.out.ext hb1); have HB := hid hb1; clear hb1)
        | (go_at_call 35; refine (present_any _ n c xs _ _ H1.out hnm).mono ?_; rintro e4 w4 ⟨rfl, hw4⟩; subst w4; rw [HP.out]))
      go_ret2
      exact ⟨(below_new (Below.refl _ _) (Nat.le_refl _) HB.out).1, .inr (.inl ⟨HC.out, HP.out, rfl⟩)⟩
    · obtain ⟨p0, p1⟩ := pres_in hp
      have HP := hid hp
      obtain rfl := ht.len
      obtain ⟨j, rfl⟩ := Int.eq_ofNat_of_zero_le p0
      have hN : lvN xs.length ≤ 301 := by unfold lvN; omega
      have h2j : 2 * j < xs.length := by unfold lvN at p1; omega
      obtain ⟨b0, o0, _, _, _, hA, _⟩ := ht.at h2j
      obtain rfl := hA
      have hjl : j < lvN xs.length := by omega
      clear hT hu ht hc hb0 hba hp
      go_enter Tryd.func45, Tryd.ntmps45
      go_wp2_with (first
        | (go_at_call 29; refine (chk_any _ _ c xs _ H.out hnm HT.out HU.out).mono ?_; rintro e1 w1 ⟨rfl, hb1⟩; rw [he]; have H1 := hid (H.out.ext hb1); have hzz := (below_new (Below.refl _ _) (Nat.le_refl _) hb1).2; have HX1 := hid ((hb1.block w.heap.size (by rw [World.size_alloc]; omega)).trans (heap_alloc_new w _)); have HB := hid (below_new (Below.refl _ _) (Nat.le_refl _) hb1); clear hb1)
        | (go_at_call 35; refine (present_any _ _ c xs _ _ H1.out hnm).mono ?_; rintro e4 w4 ⟨rfl, hw4⟩; subst w4; rw [HP.out])
        | (go_at_call 34; refine (copied_any b0 o0 _ c xs _ H1.out hnm HU.out HBA.out).mono ?_; rintro e3 W ⟨g, cap, qs, rfl, htr3, hb3⟩; have HXW := hid ((hb3.block w.heap.size (by omega)).trans HX1.out); have HBW := hid (HB.out.1.trans (hb3.mono HB.out.1.size)); have HTW := hid (htr3.mono (Nat.le_of_lt hzz)); have hgn := htr3.lt.1; clear htr3 hb3; obtain ⟨x6, q6, hx6, hq6, c0, c1, c2, c3, c4, c5, f0, f1, f2, f3, f4, f5⟩ := HTW.out.six h2j; have hbx0 := cell_of_row W w.heap.size 0 _ 25 (0, 0) HXW.out; have hbx1 := cell_of_row W w.heap.size 1 _ 25 (0, 0) HXW.out; have hbx2 := cell_of_row W w.heap.size 2 _ 25 (0, 0) HXW.out; have hbx3 := cell_of_row W w.heap.size 3 _ 25 (0, 0) HXW.out; have hbx4 := cell_of_row W w.heap.size 4 _ 25 (0, 0) HXW.out; have hbx5 := cell_of_row W w.heap.size 5 _ 25 (0, 0) HXW.out; have hgb := HTW.out.lt.1; have HBN := hid ((((((HBW.out.setCell (p := ⟨g, 2 * j * 6, none⟩) hgb (.int .i64 k)).setCell (p := ⟨g, 2 * j * 6 + 1, none⟩) hgb (.int .i64 e0)).setCell (p := ⟨g, 2 * j * 6 + 2, none⟩) hgb (.int .i64 e)).setCell (p := ⟨g, 2 * j * 6 + 3, none⟩) hgb (.int .i64 s)).setCell (p := ⟨g, 2 * j * 6 + 4, none⟩) hgb (.int .i64 h)).setCell (p := ⟨g, 2 * j * 6 + 5, none⟩) hgb (.slice B 0 d)); have HND := hid (HTW.out.node h2j ⟨k, e0, e, s, h, []⟩ B d hk rfl hd); have HAB := hid (above_blank w.heap.size g cap j (xs.set (2 * j) ⟨k, e0, e, s, h, []⟩) _ _ HND.out (by rw [List.length_set]; omega) (by rw [List.length_set]; exact HF.out.1) (by rw [List.length_set]; exact HF.out.2.1) (by rw [List.length_set]; exact hjl) HBN.out.size (HT0.out.ext HBN.out)); clear hx6 hq6)
        | (go_at_call 37; have hab := HAB.out; rw [List.length_set] at hab; refine hab.mono ?_; rintro e6 w6 ⟨qs6, rfl, htr6, hb6⟩; have HT6 := hid htr6; have HB6 := hid (HBN.out.trans hb6); clear htr6 hb6 hab))
      go_ret2
      refine ⟨HB6.out, .inr (.inr ⟨HC.out, HP.out, g, cap, qs6, rfl, ?_⟩)⟩
      unfold chgL
      rw [show (2 * (j : Int)).toNat = 2 * j by omega]
      exact HT6.out

/-- A tree cut, so long as its right half has no leaf. -/
def cutF : Nat → List TN → Option (List TN)
  | 0, _ => none
  | f + 1, ys => if halfB ys then (if ys.length = 1 then none else cutF f (ys.take (ys.length / 2))) else some ys
theorem run_cut_to6 {P : Program} {A : Option Addr} {n c sz : Nat} {t e : TypeId} (ht : P.underlying t = some (.slice e)) (hs : ∀ W : World, (sizeOf e).run P W = .ok sz W) {p : Nat} (hp : p ≤ c) :
    ∀ W : World, (Instr.slice t (.slice A n c) none (some (.int .i64 (p : Int))) none).run P W = .ok (.slice A p c) W := by
  intro W
  have he : P.elem t = e := by simp [Program.elem, ht]
  rw [run_slice_h W t A n c (by rw [he]; exact ht) .i64 p (by omega) (by omega), he, hs W]
  have hz : ∀ a : Addr, a.add 0 = a := fun a => by simp [Addr.add]
  simp [Result.andThen, sliced, hz]
def remO (xs : List TN) (i : Int) : Option (List TN) := cutF 10 (chgL xs i zeroN)
def RemP (w : World) (xs : List TN) (i : Int) (r : Ending) (w' : World) : Prop :=
  Below w.heap.size w w' ∧ ((chkB xs = false ∧ r = .returned (.tuple #[.slice none 0 0, .int .i64 1])) ∨ (chkB xs = true ∧ pres xs i = false ∧ r = .returned (.tuple #[.slice none 0 0, .int .i64 4])) ∨
  (chkB xs = true ∧ pres xs i = true ∧ remO xs i = none ∧ r = .returned (.tuple #[.slice none 0 0, .int .i64 1])) ∨
  (chkB xs = true ∧ pres xs i = true ∧ ∃ ys, remO xs i = some ys ∧ ∃ g cap qs, r = .returned (.tuple #[.slice (some ⟨g, 0, none⟩) ys.length cap, .int .i64 0]) ∧ TrW w' w.heap.size g cap ys qs))
def sliceN : Value → Nat
  | .slice _ n _ => n
  | _ => 0
theorem fullN_half {m : Nat} (h : fullN (m : Int) = true) (h1 : m ≠ 1) : fullN ((m / 2 : Nat) : Int) = true := by
  have := of_decide_eq_true h
  exact decide_eq_true (by omega)
theorem fullN_even {m : Nat} (h : fullN (m : Int) = true) (h1 : m ≠ 1) : m = 2 * (m / 2) := by
  have := of_decide_eq_true h
  omega
theorem half_nil : halfB [] = true := rfl
set_option maxHeartbeats 2000000 in
theorem remove_any (A : Option Addr) (n c : Nat) (xs : List TN) (i : Int) (w : World) (ht : Tr w A n c xs) (hnm : n ≤ 600) (hT : Tab w) (hu : Shorts xs) (hba : chkB xs = true → Bare xs) :
    Calls Tryd.prog 17 #[.slice A n c, .int .i64 i] w (RemP w xs i) := by
  have HCH := hid (change_any A n c xs i 0 0 0 0 0 none 0 w ht hnm hT hu hba (by decide) (by decide))
  have HF := hid (fun h => @chk_full xs h)
  obtain rfl := ht.len
  clear ht hT hu hba
  go_enter Tryd.func17, Tryd.ntmps17
  go_wp2_with (go_at_call 45; refine HCH.out.mono ?_; rintro e1 W ⟨hb1, ⟨hc, rfl⟩ | ⟨hc, hp, rfl⟩ | ⟨hc, hp, g, cap, qs, rfl, htr⟩⟩)
  · go_ret2
    exact ⟨hb1, .inl ⟨hc, rfl⟩⟩
  · go_ret2
    exact ⟨hb1, .inr (.inl ⟨hc, hp, rfl⟩)⟩
  · have HC := hid hc; have HP := hid hp; have HB := hid hb1
    obtain ⟨hf1, hf2, _, _⟩ := HF.out hc
    have HM := hid hf1
    have HTR := hid htr
    have hm0 : xs.length + 1 = 2 * lvN xs.length := by omega
    have HLN := hid (chgL_len xs i zeroN)
    have hz2 := fun (A : Option Addr) (n p : Nat) (hp : p ≤ cap) => run_cut_to6 (P := Tryd.prog) (A := A) (n := n) (c := cap) Tryd.underlying22 (fun W => Tryd.sizeOf25 W) (p := p) hp
    have HZ2 := hid hz2
    have HM0 := hid hm0
    clear hc hp hb1 hf1 hf2 htr hm0 hz2
    go_loop [6] (fun v => ∃ (zs : List TN) (rs : List Value) (f m : Nat), v = .slice (some ⟨g, 0, none⟩) zs.length cap ∧ TrW W w.heap.size g cap zs rs ∧ Hid (remO xs i = cutF f zs) ∧ zs.length ≤ 600 ∧ zs.length < 2 ^ f ∧ Hid (fullN (m : Int) = true) ∧ Hid (zs.length + 1 = 2 * m)) (fun v => sliceN v)
    case atStart => exact ⟨chgL xs i zeroN, qs, 10, lvN xs.length, by rw [HLN.out], HTR.out, hid rfl, by rw [HLN.out]; exact hnm, by rw [HLN.out]; omega, HM, hid (by rw [HLN.out]; exact HM0.out)⟩
    case round =>
      obtain ⟨zs, rs, f, m, hv, htr, HR, hz, hzf, HMF, HZM⟩ := hrel
      subst hv
      have hcap := htr.tr.nc.1
      have HTZ := hid htr
      clear htr
      have hm1 : 1 ≤ m := by have := fullN_le HMF.out; omega
      have hz1 : 1 ≤ zs.length := by have := HZM.out; omega
      obtain ⟨f, rfl⟩ : ∃ f', f = f' + 1 := ⟨f - 1, by
        rcases f with _ | f
        · have h0 : zs.length < 2 ^ 0 := hzf
          rw [Nat.pow_zero] at h0; omega
        · omega⟩
      have HZF := hid hzf; clear hzf
      rcases hh : halfB zs with _ | _
      · have HRS := hid (show remO xs i = some zs by rw [HR.out, cutF, hh]; rfl)
        go_wp2_with (go_at_call 46; refine (half_any _ _ cap zs _ HTZ.out.tr hz).mono ?_; rintro e4 w4 ⟨rfl, hw4⟩; subst w4; rw [hh])
        go_ret2
        exact ⟨HB.out, .inr (.inr (.inr ⟨HC.out, HP.out, zs, HRS.out, g, cap, rs, rfl, HTZ.out⟩))⟩
      · by_cases hl1 : zs.length = 1
        · have HRS := hid (show remO xs i = none by rw [HR.out, cutF, hh, if_pos rfl, if_pos hl1])
          have hl1' : ((zs.length : Int) == 1) = true := beq_iff_eq.2 (by omega)
          clear hl1
          go_wp2_with (go_at_call 46; refine (half_any _ _ cap zs _ HTZ.out.tr hz).mono ?_; rintro e4 w4 ⟨rfl, hw4⟩; subst w4; rw [hh])
          go_ret2
          exact ⟨HB.out, .inr (.inr (.inl ⟨HC.out, HP.out, HRS.out, rfl⟩))⟩
        · have HRS := hid (show remO xs i = cutF f (zs.take (zs.length / 2)) by rw [HR.out, cutF, hh, if_pos rfl, if_neg hl1])
          have hl1' : ((zs.length : Int) == 1) = false := beq_eq_false_iff_ne.2 (by omega)
          have hsl := HZ2.out (some ⟨g, 0, none⟩) zs.length (zs.length / 2) (by omega)
          rw [show ((zs.length / 2 : Nat) : Int) = (zs.length : Int) / 2 by omega] at hsl
          have HNE := hid hl1
          clear hl1
          go_wp2_with (go_at_call 46; refine (half_any _ _ cap zs _ HTZ.out.tr hz).mono ?_; rintro e4 w4 ⟨rfl, hw4⟩; subst w4; rw [hh])
          go_round
          case rel =>
            have hlt : (zs.take (zs.length / 2)).length = zs.length / 2 := by rw [List.length_take]; omega
            have h1 := HZF.out
            have h2 := HZM.out
            have h3 := HNE.out
            rw [Nat.pow_succ] at h1
            exact ⟨zs.take (zs.length / 2), rs.take (zs.length / 2), f, m / 2, by rw [hlt], HTZ.out.to (by omega), HRS, by rw [hlt]; omega, by rw [hlt]; omega, hid (fullN_half HMF.out (by omega)), hid (by rw [hlt]; have := fullN_even HMF.out (by omega); omega)⟩
          case measure => simp [sliceN]; omega
def UpdP (w : World) (xs : List TN) (i : Int) (l : TN) (r : Ending) (w' : World) : Prop :=
  ((l.k == 1 && (l.u.length : Int) == 0) = false ∧ r = .returned (.tuple #[.slice none 0 0, .int .i64 1]) ∧ Below w.heap.size w w') ∨ ((l.k == 1 && (l.u.length : Int) == 0) = true ∧ ChgP w xs i l r w')
theorem update_any (A : Option Addr) (n c : Nat) (xs : List TN) (i : Int) (l : TN) (B : Option Addr) (d : Nat) (w : World) (ht : Tr w A n c xs) (hnm : n ≤ 600) (hT : Tab w) (hu : Shorts xs) (hba : chkB xs = true → Bare xs) (hd : d ≤ maxLen) :
    Calls Tryd.prog 19 #[.slice A n c, .int .i64 i, .agg #[.int .i64 l.k, .int .i64 l.i, .int .i64 l.e, .int .i64 l.s, .int .i64 l.h, .slice B l.u.length d]] w (UpdP w xs i l) := by
  have hb0 : Below w.heap.size w (w.alloc (.cells #[.int .i64 l.k, .int .i64 l.i, .int .i64 l.e, .int .i64 l.s, .int .i64 l.h, .slice B l.u.length d] 25)) := (Below.refl _ _).alloc (Nat.le_refl _) _
  have HT := hid (hT.ext hb0); have HU := hid hu; have H := hid (ht.ext hb0); have HBA := hid hba
  rcases hl : (l.k == 1 && (l.u.length : Int) == 0) with _ | _
  · have HL := hid hl
    clear hT hu ht hb0 hba hl
    go_enter Tryd.func19, Tryd.ntmps19
    go_wp2_with (go_at_call 33; refine (leaf_any _ _ _ _ _ _ _ _ _).mono ?_; rintro e2 w2 ⟨rfl, hb2⟩; rw [HL.out]; have HB := hid hb2; clear hb2)
    go_ret2
    exact .inl ⟨HL.out, rfl, (below_new (Below.refl _ _) (Nat.le_refl _) HB.out).1⟩
  · have HL := hid hl
    simp only [Bool.and_eq_true, beq_iff_eq] at hl
    obtain ⟨k, e0, e, s, h, u⟩ := l
    obtain ⟨hk, hul⟩ := hl
    simp only at hk hul HL HT H hb0 ⊢
    have hu0 : u = [] := List.eq_nil_of_length_eq_zero (by omega)
    subst hu0; subst hk
    clear hT hu ht hb0 hba hul
    go_enter Tryd.func19, Tryd.ntmps19
    go_wp2_with (first
      | (go_at_call 33; refine (leaf_any _ _ _ _ _ _ _ _ _).mono ?_; rintro e2 w2 ⟨rfl, hb2⟩; have hlf := HL.out; simp only [List.length_nil] at hlf; rw [hlf]; have k20 := new_cell hb2 0; have k21 := new_cell hb2 1; have k22 := new_cell hb2 2; have k23 := new_cell hb2 3; have k24 := new_cell hb2 4; have k25 := new_cell hb2 5; have HB := hid (below_new (Below.refl _ _) (Nat.le_refl _) hb2).1; have HCH := hid (change_any A n c xs i 1 e0 e s h B d _ (H.out.ext hb2) hnm (HT.out.ext hb2) HU.out HBA.out (by decide) hd); clear hb2 hlf)
      | (go_at_call 45; refine HCH.out.mono ?_; rintro e1 W ⟨hb1, ⟨hc, rfl⟩ | ⟨hc, hp, rfl⟩ | ⟨hc, hp, g, cap, qs, rfl, htr⟩⟩))
    · go_ret2
      exact .inr ⟨HL.out, HB.out.trans (hb1.mono HB.out.size), .inl ⟨hc, rfl⟩⟩
    · go_ret2
      exact .inr ⟨HL.out, HB.out.trans (hb1.mono HB.out.size), .inr (.inl ⟨hc, hp, rfl⟩)⟩
    · go_ret2
      exact .inr ⟨HL.out, HB.out.trans (hb1.mono HB.out.size), .inr (.inr ⟨hc, hp, g, cap, qs, rfl, htr.mono HB.out.size⟩)⟩
def NewP (w : World) (l : TN) (r : Ending) (w' : World) : Prop :=
  Below w.heap.size w w' ∧ (((l.k == 1 && (l.u.length : Int) == 0) = false ∧ r = .returned (.tuple #[.slice none 0 0, .int .i64 1])) ∨ ((l.k == 1 && (l.u.length : Int) == 0) = true ∧ ∃ g cap qs, r = .returned (.tuple #[.slice (some ⟨g, 0, none⟩) 1 cap, .int .i64 0]) ∧ TrW w' w.heap.size g cap [l] qs))
theorem trw_one {w : World} {base : Nat} (l : TN) (hk : l.k = 1) (hu : l.u = []) (B : Option Addr) (d : Nat) (hd : d ≤ maxLen) (hb : base ≤ w.heap.size) :
    TrW (w.alloc (.cells #[.int .i64 l.k, .int .i64 l.i, .int .i64 l.e, .int .i64 l.s, .int .i64 l.h, .slice B 0 d] 25)) base w.heap.size 1 [l] [.slice B 0 d] := by
  refine ⟨⟨by simp [ncs, TN.cells], .inr ⟨w.heap.size, 1, _, rfl, hb, heap_alloc_new w _, Nat.le_refl _, by decide, rfl, by simp [ncs, TN.cells]⟩⟩, rfl, fun j x q hx hq => ?_, fun i j x y p q b hx hy hp hq k1 k2 _ _ => ?_⟩
  · rcases j with _ | j
    · injection hx with hx; injection hq with hq
      subst hx; subst hq
      exact ⟨fun hh => by rw [hk] at hh; exact absurd hh (by decide), fun _ => ⟨hu, B, d, rfl, hd⟩⟩
    · simp at hx
  · rcases i with _ | i
    · injection hx with hx
      subst hx
      rw [hk] at k1; exact absurd k1 (by decide)
    · simp at hx
theorem new_any (l : TN) (B : Option Addr) (d : Nat) (w : World) (hd : d ≤ maxLen) :
    Calls Tryd.prog 15 #[.agg #[.int .i64 l.k, .int .i64 l.i, .int .i64 l.e, .int .i64 l.s, .int .i64 l.h, .slice B l.u.length d]] w (NewP w l) := by
  rcases hl : (l.k == 1 && (l.u.length : Int) == 0) with _ | _
  · have HL := hid hl
    clear hl
    go_enter Tryd.func15, Tryd.ntmps15
    go_wp2_with (go_at_call 33; refine (leaf_any _ _ _ _ _ _ _ _ _).mono ?_; rintro e2 w2 ⟨rfl, hb2⟩; rw [HL.out]; have HB := hid hb2; clear hb2)
    go_ret2
    exact ⟨(below_new (Below.refl _ _) (Nat.le_refl _) HB.out).1, .inl ⟨HL.out, rfl⟩⟩
  · have HL := hid hl
    simp only [Bool.and_eq_true, beq_iff_eq] at hl
    obtain ⟨k, e0, e, s, h, u⟩ := l
    obtain ⟨hk, hul⟩ := hl
    simp only at hk hul HL ⊢
    have hu0 : u = [] := List.eq_nil_of_length_eq_zero (by omega)
    subst hu0; subst hk
    clear hul
    go_enter Tryd.func15, Tryd.ntmps15
    go_wp2_with (go_at_call 33; refine (leaf_any _ _ _ _ _ _ _ _ _).mono ?_; rintro e2 w2 ⟨rfl, hb2⟩; have hlf := HL.out; simp only [List.length_nil] at hlf; rw [hlf]; have k20 := new_cell hb2 0; have k21 := new_cell hb2 1; have k22 := new_cell hb2 2; have k23 := new_cell hb2 3; have k24 := new_cell hb2 4; have k25 := new_cell hb2 5; have HB := hid (below_new (Below.refl _ _) (Nat.le_refl _) hb2).1; clear hb2 hlf)
    go_ret2
    exact ⟨HB.out.alloc HB.out.size _, .inr ⟨HL.out, w2.heap.size, 1, _, rfl, trw_one ⟨1, e0, e, s, h, []⟩ rfl rfl B d hd HB.out.size⟩⟩
end Go.Proofs.YtimdohjlhbpmhaaDoor
