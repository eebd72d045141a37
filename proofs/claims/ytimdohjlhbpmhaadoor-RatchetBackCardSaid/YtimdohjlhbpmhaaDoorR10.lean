/- ratchet: the way up from a leaf. -/
import Derived.Test.YtimdohjlhbpmhaaDoorR9
import Derived.Test.YtimdohjlhbpmhaaDoorK4
namespace Go.Proofs.YtimdohjlhbpmhaaDoor
open Go.RowKit Go.KK Go.Shelf
set_option linter.unusedVariables false
set_option linter.unusedSimpArgs false

/-- One node turned. -/
def upd (f : TN → TN) (xs : List TN) (j : Nat) : List TN := match xs[j]? with | some x => xs.set j (f x) | none => xs
def updAll (f : TN → TN) : List TN → List Int → List TN
  | xs, [] => xs
  | xs, y :: l => updAll f (upd f xs y.toNat) l
theorem upd_at {f : TN → TN} {xs : List TN} {j : Nat} {x : TN} (h : xs[j]? = some x) : upd f xs j = xs.set j (f x) := by unfold upd; rw [h]
theorem upd_len (f : TN → TN) (xs : List TN) (j : Nat) : (upd f xs j).length = xs.length := by
  unfold upd
  split <;> simp
theorem updAll_len (f : TN → TN) : ∀ (l : List Int) (xs : List TN), (updAll f xs l).length = xs.length
  | [], _ => rfl
  | y :: l, xs => by rw [updAll, updAll_len f l, upd_len]
theorem updAll_snoc (f : TN → TN) : ∀ (l : List Int) (xs : List TN) (y : Int), updAll f xs (l ++ [y]) = upd f (updAll f xs l) y.toNat
  | [], _, _ => rfl
  | z :: l, xs, y => by rw [List.cons_append, updAll, updAll, updAll_snoc f l]
theorem upd_get {f : TN → TN} {xs : List TN} {j k : Nat} {x : TN} (h : (upd f xs j)[k]? = some x) : (k = j ∧ ∃ y, xs[j]? = some y ∧ x = f y) ∨ (k ≠ j ∧ xs[k]? = some x) := by
  unfold upd at h
  split at h
  · rename_i y hy
    rcases set_get h with ⟨rfl, rfl⟩ | ⟨hne, h'⟩
    · exact .inl ⟨rfl, y, hy, rfl⟩
    · exact .inr ⟨hne, h'⟩
  · rename_i hn
    by_cases hk : k = j
    · subst hk; rw [hn] at h; cases h
    · exact .inr ⟨hk, h⟩

/-- Parents' lists are in order, and short. -/
def Ord (B : Nat) (xs : List TN) : Prop := ∀ (j : Nat) x, xs[j]? = some x → x.u.Pairwise (· ≤ ·) ∧ x.u.length ≤ B
theorem lessN_take {u : List Int} (h : u.Pairwise (· ≤ ·)) (i : Int) : (∀ y ∈ u.take (lessN u i), y < i) ∧ (∀ y ∈ u.drop (lessN u i), i ≤ y) := by
  induction u with
  | nil => simp [lessN]
  | cons a u ih =>
    have h' := List.pairwise_cons.1 h
    obtain ⟨i1, i2⟩ := ih h'.2
    by_cases ha : a < i
    · have e : lessN (a :: u) i = lessN u i + 1 := by unfold lessN; rw [List.countP_cons_of_pos (by simpa using ha)]
      rw [e, List.take_succ_cons, List.drop_succ_cons]
      refine ⟨fun y hy => ?_, i2⟩
      rcases List.mem_cons.1 hy with rfl | hy
      · exact ha
      · exact i1 y hy
    · have e : lessN (a :: u) i = 0 := by
        unfold lessN
        rw [List.countP_eq_zero]
        intro y hy
        rcases List.mem_cons.1 hy with rfl | hy
        · simpa using ha
        · have := h'.1 y hy; simp; omega
      rw [e]
      refine ⟨by simp, fun y hy => ?_⟩
      rw [List.drop_zero] at hy
      rcases List.mem_cons.1 hy with rfl | hy
      · omega
      · have := h'.1 y hy; omega
theorem insL_sorted {u : List Int} (h : u.Pairwise (· ≤ ·)) (i : Int) : (insL u (lessN u i) i).Pairwise (· ≤ ·) := by
  obtain ⟨h1, h2⟩ := lessN_take h i
  unfold insL
  have hp : (u.take (lessN u i) ++ u.drop (lessN u i)).Pairwise (· ≤ ·) := by rw [List.take_append_drop]; exact h
  rw [List.pairwise_append] at hp ⊢
  refine ⟨hp.1, List.pairwise_cons.2 ⟨h2, hp.2.1⟩, fun a ha b hb => ?_⟩
  rcases List.mem_cons.1 hb with rfl | hb
  · have := h1 a ha; omega
  · exact hp.2.2 a ha b hb
theorem Ord.add {B : Nat} {xs : List TN} {i : Int} (h : Ord B xs) (j : Nat) : Ord (B + 1) (upd (addN i) xs j) := by
  intro k x hx
  rcases upd_get hx with ⟨rfl, y, hy, rfl⟩ | ⟨_, hx'⟩
  · obtain ⟨h1, h2⟩ := h k y hy
    unfold addN
    split
    · exact ⟨insL_sorted h1 i, by show (insL _ _ _).length ≤ _; rw [insL_len _ _ _ (lessN_le _ _)]; omega⟩
    · exact ⟨h1, by omega⟩
  · obtain ⟨h1, h2⟩ := h k x hx'
    exact ⟨h1, by omega⟩

theorem take_get {α : Type} {l : List α} {k : Nat} {x : α} (h : l[k]? = some x) : l.take (k + 1) = l.take k ++ [x] := by
  obtain ⟨hk, rfl⟩ := List.getElem?_eq_some_iff.1 h
  exact List.take_succ_eq_append_getElem hk
theorem sla_block {w w' : World} {b o n c : Nat} {xs : List Value} (h : SlA w 1 (some ⟨b, o, none⟩) n c xs) (hb : w'.heap[b]? = w.heap[b]?) : SlA w' 1 (some ⟨b, o, none⟩) n c xs :=
  ⟨h.nc, h.cm, h.len, fun j u hj => by
    obtain ⟨b', o', e, hc⟩ := h.cells j u hj
    have e' := e
    injection e' with e'
    injection e' with e1 e2
    subst e1; subst e2
    exact ⟨b, o, rfl, (World.cell?_of_block (a := ⟨b, o + j, none⟩) hb).trans hc⟩⟩
set_option maxHeartbeats 1000000 in
theorem above_add (base g cap bi : Nat) (z : Nat) (xs : List TN) (qs : List Value) (w : World) (h : TrW w base g cap xs qs) (hfar : Far w g xs qs bi) (hci : w.cell? ⟨bi, 0, none⟩ = some (.int .i64 z)) (hn : xs.length ≤ 600) (hf : fullN (lvN xs.length) = true) (hl : 2 * (lvN xs.length : Int) - 1 = (xs.length : Int)) (hz : z < lvN xs.length) (ho : Ord 100000 xs) (hbase : base ≤ w.heap.size) (hT : Tab w) :
    Calls Tryd.prog 37 #[.slice (some ⟨g, 0, none⟩) xs.length cap, .int .i64 z, .func (.func 38) #[] #[.pointer (some ⟨bi, 0, none⟩)]] w fun e w' => ∃ qs', e = .returned (.tuple #[]) ∧ TrW w' base g cap (updAll (addN z) xs (pathL (2 * z) (lvN xs.length))) qs' ∧ w'.cell? ⟨bi, 0, none⟩ = some (.int .i64 z) ∧ Below base w w' := by
  have H := hid h; have HF := hid hf; have HO := hid ho; have HT := hid hT; have HFA := hid hfar
  have hl1 : 2 * (lvN xs.length : Int) - 1 ≤ (xs.length : Int) := by omega
  have hl2 : (xs.length : Int) ≤ 2 * (lvN xs.length : Int) - 1 := by omega
  clear h hf ho hT hl hfar
  have hN : lvN xs.length ≤ 301 := by unfold lvN; omega
  have hpl := pathL_le (2 * z) (lvN xs.length)
  have hbl := HFA.out.lt
  go_enter Tryd.func37, Tryd.ntmps37
  go_wp2_with (first
    | (go_at_call 36; refine (leavesT_any _ _ _ _ hn).mono ?_; rintro e w' ⟨rfl, hw'⟩; subst w')
    | (go_at_call 59; refine (path_any (2 * z) (lvN xs.length) _ HF.out (by omega) (by omega) HT.out).mono ?_; rintro e1 w1 ⟨v1, rfl, hown1, hb1⟩; obtain ⟨A1, c1, rfl, hs1⟩ := SlA.owned hown1))
  have HS1 := hid hs1; have HB1 := hid hb1
  have HI := hid (@path_in (2 * z) (lvN xs.length) HF.out (by omega) (by omega))
  have H1 := hid (H.out.ext hb1)
  have HCI := hid ((hb1.cell (p := ⟨bi, 0, none⟩) hbl).trans hci)
  have HF1 := hid (HFA.out.ext hb1.size)
  have HP1 := hid (show ∀ b o, A1 = some ⟨b, o, none⟩ → Far w1 g xs qs b from fun b o e => by
    subst e
    have hh := hown1.lt b rfl
    exact Far.new H.out hh.1 hh.2)
  have hz1 := hb1.size
  clear hs1 hown1 hb1 hci
  generalize hPL : pathL (2 * z) (lvN xs.length) = PL at *
  have HPL := hid hPL; clear hPL
  go_loopw [20] (fun i wr => ∃ (k : Nat) (rs : List Value), i = .int .i64 k ∧ k ≤ PL.length ∧ TrW wr base g cap (updAll (addN z) xs (PL.take k)) rs ∧ Keeps w1 wr g xs (updAll (addN z) xs (PL.take k)) qs rs ∧ Ord (100000 + k) (updAll (addN z) xs (PL.take k)) ∧ Below base w wr) (fun i _ => PL.length - (intOf i).toNat)
  case atStart => exact ⟨0, qs, rfl, by omega, H1.out, Keeps.refl _ _ _ _, HO.out, HB1.out.mono hbase⟩
  case round =>
    obtain ⟨k, rs, hi, hk, htr, hkp, hord, hbr⟩ := hrel
    subst hi
    have HBr := hid hbr; have HTR := hid htr; have HKP := hid hkp; have HOR := hid hord
    have hci := (World.cell?_of_block (a := ⟨bi, 0, none⟩) (hkp bi HF1.out).2).trans HCI.out
    have hbrz := hbr.size
    clear hbr htr hkp hord
    by_cases hlk : k < PL.length
    · obtain ⟨b5, o5, y, rfl, hy, hcy⟩ := HS1.out.elemI hlk
      have hcy2 := (World.cell?_of_block (a := ⟨b5, o5 + k, none⟩) (HKP.out b5 (HP1.out b5 o5 rfl)).2).trans hcy
      obtain ⟨y0, y1⟩ := HI.out y (List.mem_of_getElem? hy)
      obtain ⟨yn, rfl⟩ := Int.eq_ofNat_of_zero_le y0
      have hyn : yn < xs.length := by omega
      have HTK := hid (take_get hy)
      clear hy hcy y0 y1
      have hlen := updAll_len (addN z) (PL.take k) xs
      have hyl : yn < (updAll (addN z) xs (PL.take k)).length := by rw [hlen]; exact hyn
      have hx : (updAll (addN z) xs (PL.take k))[yn]? = some _ := List.getElem?_eq_getElem hyl
      generalize (updAll (addN z) xs (PL.take k))[yn] = x at hx
      obtain ⟨hs1, hs2⟩ := HOR.out yn x hx
      have HSX := hid hs1; have HX := hid hx
      have HN := hid (show updAll (addN z) xs (PL.take (k + 1)) = (updAll (addN z) xs (PL.take k)).set yn (addN z x) by
        rw [HTK.out, updAll_snoc, Int.toNat_natCast, upd_at hx])
      have HN2 := hid (show updAll (addN z) xs (PL.take (k + 1)) = upd (addN z) (updAll (addN z) xs (PL.take k)) yn by
        rw [HTK.out, updAll_snoc, Int.toNat_natCast])
      clear hs1 hx hlen hyl
      go_wp2_with (go_at_call 38; refine (add1_any base g cap bi z _ rs yn x _ HTR.out hci HX.out HSX.out (by omega) (by omega)).mono ?_; rintro e3 w3 ⟨qs3, rfl, htr3, hkp3, hb3⟩; have HT3 := hid htr3; have HK3 := hid hkp3; have HB3 := hid hb3; clear htr3 hkp3 hb3)
      go_roundw
      case rel => exact ⟨k + 1, qs3, by go_num, by omega, by rw [HN.out]; exact HT3.out, by rw [HN.out]; exact HKP.out.trans HK3.out, by rw [HN2.out]; exact HOR.out.add yn, HBr.out.trans HB3.out⟩
      case measure => simp [intOf]; omega
    · have HJ := hid (show PL.take k = PL from List.take_of_length_le (by omega))
      go_wp2
      go_end0
      have h1 := HTR.out
      rw [HJ.out] at h1
      exact ⟨rs, rfl, by rw [HPL.out]; exact h1, hci, HBr.out⟩
def blankN (_ : TN) : TN := zeroN
theorem keeps_node {w : World} {base g cap : Nat} {xs : List TN} {qs : List Value} (h : TrW w base g cap xs qs) (j : Nat) (y : TN) (q : Value) (hk : y.k ≠ 2) (a1 a2 a3 a4 a5 a6 : Value) :
    Keeps w ((((((w.setCell ⟨g, j * 6, none⟩ a1).setCell ⟨g, j * 6 + 1, none⟩ a2).setCell ⟨g, j * 6 + 2, none⟩ a3).setCell ⟨g, j * 6 + 3, none⟩ a4).setCell ⟨g, j * 6 + 4, none⟩ a5).setCell ⟨g, j * 6 + 5, none⟩ a6) g xs (xs.set j y) qs (qs.set j q) := by
  intro b hb
  refine ⟨⟨by simpa using hb.lt, hb.ne, fun k z r hz hr hk2 => ?_⟩, ?_⟩
  · rcases set_get hz with ⟨rfl, rfl⟩ | ⟨hne, hz'⟩
    · exact absurd hk2 hk
    · rcases set_get hr with ⟨hh, _⟩ | ⟨_, hr'⟩
      · exact absurd hh hne
      · exact hb.far k z r hz' hr' hk2
  · repeat rw [Below.heap_setCell _ _ _ b hb.ne]
set_option maxHeartbeats 1000000 in
theorem chg1_any (base g cap : Nat) (xs : List TN) (qs : List Value) (j : Nat) (x : TN) (w : World) (h : TrW w base g cap xs qs) (hx : xs[j]? = some x) :
    Calls Tryd.prog 66 #[.pointer (some ⟨g, j * 6, none⟩)] w fun e w' => ∃ qs', e = .returned (.tuple #[]) ∧ TrW w' base g cap (xs.set j (blankN x)) qs' ∧ Keeps w w' g xs (xs.set j (blankN x)) qs qs' ∧ Below base w w' := by
  have hj := (List.getElem?_eq_some_iff.1 hx).1
  have hq : qs[j]? = some (qs[j]'(by rw [h.ql]; exact hj)) := List.getElem?_eq_getElem _
  generalize qs[j]'(by rw [h.ql]; exact hj) = q at hq
  have c0 : w.cell? ⟨g, j * 6, none⟩ = some (.int .i64 x.k) := by
    rw [h.row.cellAt (j * 6) (by omega), show j * 6 = j * 6 + 0 from rfl, ncs_get hx hq (by omega)]; rfl
  have c1 : w.cell? ⟨g, j * 6 + 1, none⟩ = some (.int .i64 x.i) := by rw [h.row.cellAt (j * 6 + 1) (by omega), ncs_get hx hq (by omega)]; rfl
  have c2 : w.cell? ⟨g, j * 6 + 2, none⟩ = some (.int .i64 x.e) := by rw [h.row.cellAt (j * 6 + 2) (by omega), ncs_get hx hq (by omega)]; rfl
  have c3 : w.cell? ⟨g, j * 6 + 3, none⟩ = some (.int .i64 x.s) := by rw [h.row.cellAt (j * 6 + 3) (by omega), ncs_get hx hq (by omega)]; rfl
  have c4 : w.cell? ⟨g, j * 6 + 4, none⟩ = some (.int .i64 x.h) := by rw [h.row.cellAt (j * 6 + 4) (by omega), ncs_get hx hq (by omega)]; rfl
  have c5 : w.cell? ⟨g, j * 6 + 5, none⟩ = some q := by rw [h.row.cellAt (j * 6 + 5) (by omega), ncs_get hx hq (by omega)]; rfl
  have f0 := h.row.frozenAt (j * 6)
  have f1 := h.row.frozenAt (j * 6 + 1)
  have f2 := h.row.frozenAt (j * 6 + 2)
  have f3 := h.row.frozenAt (j * 6 + 3)
  have f4 := h.row.frozenAt (j * 6 + 4)
  have f5 := h.row.frozenAt (j * 6 + 5)
  have hgl := h.row.lt g rfl
  have hglt := hgl.2
  have HJ := hid hj; have HGB := hid hgl.1
  have H := hid h
  clear h hx hq hgl hj
  go_enter Tryd.func66, Tryd.ntmps66
  go_wp2
  go_end0
  exact ⟨_, rfl, H.out.node HJ.out zeroN none 0 (by decide) rfl (by decide), keeps_node H.out j zeroN (.slice none 0 0) (by decide) _ _ _ _ _ _, ((((((Below.refl _ _).setCell HGB.out _).setCell HGB.out _).setCell HGB.out _).setCell HGB.out _).setCell HGB.out _).setCell HGB.out _⟩
set_option maxHeartbeats 1000000 in
theorem above_blank (base g cap : Nat) (z : Nat) (xs : List TN) (qs : List Value) (w : World) (h : TrW w base g cap xs qs) (hn : xs.length ≤ 600) (hf : fullN (lvN xs.length) = true) (hl : 2 * (lvN xs.length : Int) - 1 = (xs.length : Int)) (hz : z < lvN xs.length) (hbase : base ≤ w.heap.size) (hT : Tab w) :
    Calls Tryd.prog 37 #[.slice (some ⟨g, 0, none⟩) xs.length cap, .int .i64 z, .func (.func 66) #[] #[]] w fun e w' => ∃ qs', e = .returned (.tuple #[]) ∧ TrW w' base g cap (updAll blankN xs (pathL (2 * z) (lvN xs.length))) qs' ∧ Below base w w' := by
  have H := hid h; have HF := hid hf; have HT := hid hT
  have hl1 : 2 * (lvN xs.length : Int) - 1 ≤ (xs.length : Int) := by omega
  have hl2 : (xs.length : Int) ≤ 2 * (lvN xs.length : Int) - 1 := by omega
  clear h hf hT hl
  have hN : lvN xs.length ≤ 301 := by unfold lvN; omega
  have hpl := pathL_le (2 * z) (lvN xs.length)
  go_enter Tryd.func37, Tryd.ntmps37
  go_wp2_with (first
    | (go_at_call 36; refine (leavesT_any _ _ _ _ hn).mono ?_; rintro e w' ⟨rfl, hw'⟩; subst w')
    | (go_at_call 59; refine (path_any (2 * z) (lvN xs.length) _ HF.out (by omega) (by omega) HT.out).mono ?_; rintro e1 w1 ⟨v1, rfl, hown1, hb1⟩; obtain ⟨A1, c1, rfl, hs1⟩ := SlA.owned hown1))
  have HS1 := hid hs1; have HB1 := hid hb1
  have HI := hid (@path_in (2 * z) (lvN xs.length) HF.out (by omega) (by omega))
  have H1 := hid (H.out.ext hb1)
  have HP1 := hid (show ∀ b o, A1 = some ⟨b, o, none⟩ → Far w1 g xs qs b from fun b o e => by
    subst e
    have hh := hown1.lt b rfl
    exact Far.new H.out hh.1 hh.2)
  have hz1 := hb1.size
  clear hs1 hown1 hb1
  generalize hPL : pathL (2 * z) (lvN xs.length) = PL at *
  have HPL := hid hPL; clear hPL
  go_loopw [20] (fun i wr => ∃ (k : Nat) (rs : List Value), i = .int .i64 k ∧ k ≤ PL.length ∧ TrW wr base g cap (updAll blankN xs (PL.take k)) rs ∧ Keeps w1 wr g xs (updAll blankN xs (PL.take k)) qs rs ∧ Below base w wr) (fun i _ => PL.length - (intOf i).toNat)
  case atStart => exact ⟨0, qs, rfl, by omega, H1.out, Keeps.refl _ _ _ _, HB1.out.mono hbase⟩
  case round =>
    obtain ⟨k, rs, hi, hk, htr, hkp, hbr⟩ := hrel
    subst hi
    have HBr := hid hbr; have HTR := hid htr; have HKP := hid hkp
    have hbrz := hbr.size
    clear hbr htr hkp
    by_cases hlk : k < PL.length
    · obtain ⟨b5, o5, y, rfl, hy, hcy⟩ := HS1.out.elemI hlk
      have hcy2 := (World.cell?_of_block (a := ⟨b5, o5 + k, none⟩) (HKP.out b5 (HP1.out b5 o5 rfl)).2).trans hcy
      obtain ⟨y0, y1⟩ := HI.out y (List.mem_of_getElem? hy)
      obtain ⟨yn, rfl⟩ := Int.eq_ofNat_of_zero_le y0
      have hyn : yn < xs.length := by omega
      have HTK := hid (take_get hy)
      clear hy hcy y0 y1
      have hlen := updAll_len blankN (PL.take k) xs
      have hyl : yn < (updAll blankN xs (PL.take k)).length := by rw [hlen]; exact hyn
      have hx : (updAll blankN xs (PL.take k))[yn]? = some _ := List.getElem?_eq_getElem hyl
      generalize (updAll blankN xs (PL.take k))[yn] = x at hx
      have HX := hid hx
      have HN := hid (show updAll blankN xs (PL.take (k + 1)) = (updAll blankN xs (PL.take k)).set yn (blankN x) by
        rw [HTK.out, updAll_snoc, Int.toNat_natCast, upd_at HX.out])
      clear hx hlen hyl
      go_wp2_with (go_at_call 66; refine (chg1_any base g cap _ rs yn x _ HTR.out HX.out).mono ?_; rintro e3 w3 ⟨qs3, rfl, htr3, hkp3, hb3⟩; have HT3 := hid htr3; have HK3 := hid hkp3; have HB3 := hid hb3; clear htr3 hkp3 hb3)
      go_roundw
      case rel => exact ⟨k + 1, qs3, by go_num, by omega, by rw [HN.out]; exact HT3.out, by rw [HN.out]; exact HKP.out.trans HK3.out, HBr.out.trans HB3.out⟩
      case measure => simp [intOf]; omega
    · have HJ := hid (show PL.take k = PL from List.take_of_length_le (by omega))
      go_wp2
      go_end0
      have h1 := HTR.out
      rw [HJ.out] at h1
      exact ⟨rs, rfl, by rw [HPL.out]; exact h1, HBr.out⟩
end Go.Proofs.YtimdohjlhbpmhaaDoor
