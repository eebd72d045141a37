/- term: a writer writes any term, texts too; Show. term: Show of any term. -/
import Derived.Test.YtkgobglmkhkbbaaGreatDoorW3
import Derived.Test.YtkgobglmkhkbbaaGreatDoorN7
namespace Go.Proofs.YtkgobglmkhkbbaaGreatDoor
open Go.RowKit Go.KK Go.Shelf Go.Maps
set_option linter.unusedVariables false
set_option linter.unusedSimpArgs false

theorem esc_le (l : List UInt8) : (escB l).length ≤ 2 * l.length := by
  refine snoc_ind (P := fun l => (escB l).length ≤ 2 * l.length) (Nat.le_refl _) (fun l b ih => ?_) l
  rw [esc_snoc, List.length_append, List.length_append]
  have : (if b = 34 ∨ b = 92 then [92, b] else [b]).length ≤ 2 := by split <;> simp
  simp only [List.length_cons, List.length_nil] at *
  omega
section
variable (W0 : World) (sa b : Nat) (xs : List ND)
set_option maxHeartbeats 4000000 in
set_option maxRecDepth 100000 in
/-- A text. -/
theorem wt_text (t : Nat) (bs : List UInt8) (w : World) (hA : ArV W0 124 sa xs) (hb : Below W0.heap.size W0 w) (h : Wr W0.heap.size b (.pointer (some ⟨sa, 0, none⟩)) (Lib.byteCells bs) w) (hl : bs.length ≤ 4000) (x : ND) (hx : xs[t]? = some x) (ho : x.o = 2) (hss : x.s.size ≤ 200) :
    Calls Tryz.prog 88 #[.pointer (some ⟨b, 0, none⟩), .int .i64 t] w (WtS W0 w sa b bs (showL xs t) (4500 + 80 * t)) := by
  have hsh : showL xs t = 34 :: (escB x.s.data.toList ++ [34]) := by rw [show_at hx]; unfold textOf; rw [if_neg (by omega), if_pos ho]
  obtain ⟨E, hE⟩ : ∃ E : ByteArray, E = ⟨(escB x.s.data.toList).toArray⟩ := ⟨_, rfl⟩
  have hES : E.size ≤ 400 := by
    rw [hE, bsz]
    have h1 := esc_le x.s.data.toList
    have h2 : x.s.data.toList.length = x.s.size := by simp
    omega
  have HRP := hid (fun (base rb : Nat) (v : Value) (U : World) (h : RpN base U rb v) (hb : base ≤ U.heap.size) => replace_any base rb v x.s U h hb (by omega))
  rw [← hE] at HRP
  have HE := hid hE; have HSH := hid hsh; have HES := hid hES
  have hcat : ¬ 9223372036854775807 < 1 + E.size := by omega
  have hcat2 : ¬ 9223372036854775807 < ((⟨#[34]⟩ : ByteArray) ++ E).size + 1 := by rw [ByteArray.size_append]; have : (⟨#[34]⟩ : ByteArray).size = 1 := rfl; omega
  have hcat3 : ¬ 9223372036854775807 < 1 + E.size + 1 := by omega
  have HW := hid h; have HB := hid hb
  have htl := (List.getElem?_eq_some_iff.1 hx).1
  obtain ⟨c, bn, on, A', c', HC⟩ := node_cells W0 sa xs hA hx
  obtain ⟨h0, y0, y1, y2, y3, -⟩ := HC w hb
  rw [ho] at y0
  have htl' : (t : Int) < (xs.length : Int) := by omega
  have c2 := HW.out.cell2
  have hl' : ¬ (4000 : Int) < (bs.length : Int) := by omega
  have HL4 := hid hl
  clear h hb hx hsh hES hE hA HC hss ho hl
  generalize x.s = ss at *
  go_enter Tryz.func88, Tryz.ntmps88
  go_wp2_with fail
  refine (wlen_any _ b _ _ _ HW.out).mono ?_
  rintro e w' ⟨rfl, hw⟩
  rw [hw]
  clear hw w'
  rw [Lib.byteCells_length]
  go_upto_region 6 with fail
  have hba := HB.out.alloc HB.out.size (.cells #[.int .i64 2, .int .i64 x.n, .string ss, .slice A' x.l.length c'] 88)
  have hwa := HW.out.ext ((Below.refl _ _).alloc (Nat.le_refl _) (.cells #[.int .i64 2, .int .i64 x.n, .string ss, .slice A' x.l.length c'] 88))
  refine forget (R := fun V => (∃ C z, V.heap[w.heap.size]? = some (.cells C 88 z)) ∧ V.cell? ⟨w.heap.size, 2, none⟩ = some (.string ss) ∧ Wr W0.heap.size b (.pointer (some ⟨sa, 0, none⟩)) (Lib.byteCells bs) V ∧ Below W0.heap.size W0 V ∧ Oth b w V) ?_ ⟨⟨_, (0, 0), heap_alloc_new w _⟩, by rw [World.cell?_alloc_at _ _ _ _ rfl]; rfl, hwa, hba, Oth.below ((Below.refl _ _).alloc (Nat.le_refl _) _)⟩
  clear hba hwa h0 y0 y1 y2 y3 c2
  rintro V ⟨⟨C1, z1, hn1⟩, q1, hv, hbv, hov⟩
  have HV := hid hv; have HBV := hid hbv; have HOV := hid hov; have HN1 := hid hn1; have Q1 := hid q1
  have hne : w.heap.size ≠ b := by have := HW.out.lt; omega
  have HLT := hid (block_lt_of_cell q1)
  clear hov hn1
  have hs0 : W0.heap.size ≤ V.heap.size := hbv.size
  clear hv hbv HW HB
  have D0 := hid (show Below V.heap.size V (V.alloc (.cells #[.string ⟨#[34]⟩, .string ⟨#[92, 34]⟩, .string ⟨#[92]⟩, .string ⟨#[92, 92]⟩] 9)).drew from ((Below.refl _ _).alloc (Nat.le_refl _) _).drew)
  have S0 := hid (show SlA (V.alloc (.cells #[.string ⟨#[34]⟩, .string ⟨#[92, 34]⟩, .string ⟨#[92]⟩, .string ⟨#[92, 92]⟩] 9)).drew 1 (some ⟨V.heap.size, 0, none⟩) 4 4 rs4 from (sla_row #[.string ⟨#[34]⟩, .string ⟨#[92, 34]⟩, .string ⟨#[92]⟩, .string ⟨#[92, 92]⟩] (by unfold maxLen; simp)).ext (below_drew (Below.refl _ _)))
  go_region_held3 (fun U => U.cell? ⟨w.heap.size, 2, none⟩ = some (.string ss)) (first | exact q9 | exact q5 | exact q4 | exact q1 | go_keep) (first
    | (go_at_call 107; refine (newrep_any _ _ _ S0.out).mono ?_; rintro e4 w4 ⟨rb, rv, rfl, h4, b4⟩; have S4 := hid b4.size; have D4 := hid (D0.out.trans (b4.mono D0.out.size)); have q4 := (D4.out.cell (p := ⟨w.heap.size, 2, none⟩) HLT.out).trans Q1.out; have H4 := hid h4; clear h4 b4)
    | (go_at_call 108; refine (HRP.out _ _ _ _ H4.out S4.out).mono ?_; rintro e5 w5 ⟨rfl, b5⟩; have D5 := hid (D4.out.trans (b5.mono D0.out.size)); have q5 := (D5.out.cell (p := ⟨w.heap.size, 2, none⟩) HLT.out).trans Q1.out; clear b5)
    | (go_at_call 106; refine (wstr_any _ b _ _ _ _ (HV.out.ext D5.out) (by rw [Lib.byteCells_length, ByteArray.size_append, ByteArray.size_append]; have := HES.out; have := HL4.out; have : (⟨#[34]⟩ : ByteArray).size = 1 := rfl; omega) (Nat.le_trans hs0 D5.out.size)).mono ?_; rintro e9 w9 ⟨rfl, h9, b9, o9⟩; have H9 := hid h9; have B9 := hid (HBV.out.trans ((D5.out.mono hs0).trans b9)); have O9 := hid (HOV.out.trans ((Oth.below D5.out).trans o9)); have q9 := ((Oth.below D5.out).trans o9).cell HN1.out (by decide) hne Q1.out; clear h9 b9 o9))
  all_goals
    go_wp2_with fail
    go_end0
    refine ⟨rfl, 34 :: (escB ss.data.toList ++ [34]), HSH.out ▸ cut_all _ _, ?_, ?_, B9.out, O9.out⟩
    · have := HES.out
      rw [HE.out, bsz] at this
      have := HL4.out
      simp; omega
    · have h9 := H9.out
      rw [HE.out] at h9
      rwa [show (⟨#[34]⟩ : ByteArray) = ⟨[34].toArray⟩ from rfl, str_app, str_app, str_cells, bytes_app] at h9
/-- A writer writes any term of an arena. -/
theorem wt_full (hA : ArV W0 124 sa xs) (hT : Tb W0.heap.size W0) : ∀ (N t : Nat), t < N → t < xs.length → WtC W0 sa b xs t := by
  intro N
  induction N with
  | zero => intro t h; omega
  | succ N ih =>
    intro t hN ht bs w hb h
    by_cases hl : 4000 < bs.length
    · exact wt_over W0 sa b t bs w _ _ hb h hl
    have hl' : bs.length ≤ 4000 := by omega
    have hx : xs[t]? = some xs[t] := List.getElem?_eq_getElem ht
    generalize xs[t] = x at hx
    have hm := hA.ok.may t x hx
    have hw := hA.ok.w64 t x hx
    unfold mayB shB at hm
    simp only [Bool.and_eq_true, decide_eq_true_eq, List.all_eq_true] at hm
    by_cases h1 : x.o = 1
    · exact wt_atom W0 sa b xs t bs w hA hT hb h hl' x hx h1 ⟨by have := hm.1.1.1.1.1.2; omega, by omega⟩
    · by_cases h2 : x.o = 2
      · exact wt_text W0 sa b xs t bs w hA hb h hl' x hx h2 hm.1.1.1.1.2
      · have ho : 3 ≤ x.o ∧ x.o ≤ 12 := by
          have := hm.1.1.1.1.1.1.1
          exact ⟨by have := op_range this; omega, (op_range this).2⟩
        refine wt_node W0 sa b xs t bs w hA hb h hl' x hx x.o.toNat (by omega) (by omega) (by omega) fun y hy => ?_
        have h3 := has_iff.1 (hm.1.2 y hy)
        rw [List.length_take] at h3
        exact ⟨y.toNat, by omega, by omega, ih y.toNat (by omega) (by omega)⟩
end
end Go.Proofs.YtkgobglmkhkbbaaGreatDoor
namespace Go.Proofs.YtkgobglmkhkbbaaGreatDoor
open Go.RowKit Go.KK Go.Shelf Go.Maps

set_option maxHeartbeats 2000000 in
set_option maxRecDepth 100000 in
theorem show_full (sa : Nat) (xs : List ND) (w : World) (hA : ArV w 124 sa xs) (hT : Tb w.heap.size w) (t : Int) :
    Calls Tryz.prog 54 #[.pointer (some ⟨sa, 0, none⟩), .int .i64 t] w fun e w' => e = .returned (.tuple #[.string ⟨(showF xs t).1.toArray⟩, .int .i64 (showF xs t).2]) ∧ Below w.heap.size w w' := by
  have H := hid hA
  rcases hh : hasB xs t with _ | _
  · have HF := hid (show showF xs t = ([], 4) by unfold showF; rw [hh]; rfl)
    clear hA hT
    go_enter Tryz.func54, Tryz.ntmps54
    go_wp2_with fail
    refine (has_any sa xs t _ H.out).mono ?_
    rintro e w' ⟨rfl, hw⟩
    subst hw
    rw [hh]
    go_wp2_with fail
    go_ret2
    exact ⟨by first | (rw [HF.out]; rfl) | rfl, Below.refl _ _⟩
  · have h2 := has_iff.1 hh
    obtain ⟨j, rfl⟩ := Int.eq_ofNat_of_zero_le h2.1
    have hj : j < xs.length := by omega
    have HF := hid (show showF xs (j : Int) = if (showL xs j).length ≤ 4000 then (showL xs j, 0) else ([], 2) by unfold showF; rw [hh]; rfl)
    have HWT := hid (wt_full w sa w.heap.size xs hA hT (j + 1) j (by omega) hj)
    have HNE := hid (show_ne hA.ok hj)
    have HWN := hid (wr_new w (.pointer (some ⟨sa, 0, none⟩)))
    have HB1 := hid (show Below w.heap.size w (w.alloc (.cells #[.pointer none, .slice none 0 0, .pointer (some ⟨sa, 0, none⟩)] 132)) from (Below.refl _ _).alloc (Nat.le_refl _) _)
    clear hA hT h2
    go_enter Tryz.func54, Tryz.ntmps54
    go_wp2_with fail
    refine (has_any sa xs _ _ H.out).mono ?_
    rintro e w' ⟨rfl, hw⟩
    subst hw
    rw [hh]
    go_wp2_with fail
    refine (HWT.out [] _ HB1.out HWN.out).mono ?_
    rintro e w2 ⟨rfl, out, hcut, hlen, hwr, hb2, -⟩
    rw [List.nil_append] at hwr
    have HW2 := hid hwr; have HB2 := hid hb2; have HCUT := hid hcut
    clear hwr hb2 hcut hlen HWN HB1
    go_wp2_with fail
    refine (wlen_any _ _ _ _ _ HW2.out).mono ?_
    rintro e w' ⟨rfl, hw⟩
    subst hw
    rw [Lib.byteCells_length]
    by_cases hle : (showL xs j).length ≤ 4000
    · have ho := HCUT.out.1 (by simpa using hle)
      subst ho
      have hle' : ¬ (4000 : Int) < ((showL xs j).length : Int) := by omega
      have HF2 := hid (show showF xs (j : Int) = (showL xs j, 0) by rw [HF.out, if_pos hle])
      clear hle
      go_wp2_with fail
      refine (wout_any _ _ _ _ _ HW2.out HNE.out).mono ?_
      rintro e w3 ⟨rfl, b3⟩
      have B3 := hid (HB2.out.trans b3)
      clear b3
      go_wp2_with fail
      go_ret2
      exact ⟨by first | (rw [HF2.out]; rfl) | rfl, B3.out⟩
    · have ho := HCUT.out.2 (by simp; omega)
      have hle' : (4000 : Int) < (out.length : Int) := by simp at ho; omega
      have HF2 := hid (show showF xs (j : Int) = ([], 2) by rw [HF.out, if_neg hle])
      clear hle ho
      go_wp2_with fail
      go_ret2
      exact ⟨by first | (rw [HF2.out]; rfl) | rfl, HB2.out⟩
section
variable {w0 W : World} {Z : Nat → Prop} {sa : Nat} {xs : List ND}
theorem l_showF (h : LA w0 W Z sa xs) (hT : Tb w0.heap.size w0) {t er : Int} {S : ByteArray} (hr : (⟨(showF xs t).1.toArray⟩ : ByteArray) = S) (he : (showF xs t).2 = er) :
    Calls Tryz.prog 54 #[.pointer (some ⟨sa, 0, none⟩), .int .i64 t] W fun e w' => e = .returned (.tuple #[.string S, .int .i64 er]) ∧ LA w0 w' Z sa xs ∧ Below W.heap.size W w' := by
  refine (show_full sa xs W h.ar.vw (Tb.up (hT.on h.bl) h.sz) t).mono ?_
  rintro e w' ⟨rfl, hb⟩
  rw [hr, he]
  exact ⟨rfl, h.ext hb, hb⟩
end
end Go.Proofs.YtkgobglmkhkbbaaGreatDoor
