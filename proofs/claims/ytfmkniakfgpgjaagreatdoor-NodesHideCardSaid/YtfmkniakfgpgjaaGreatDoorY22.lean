import Derived.Test.YtfmkniakfgpgjaaGreatDoorY19
/- deduce: look. -/
namespace Go.Proofs.YtfmkniakfgpgjaaGreatDoor
open Go.RowKit Go.KK Go.Shelf Go.Maps
set_option linter.unusedVariables false
set_option linter.unusedSimpArgs false

/-- What look leaves. -/
def LookP (W : World) (xs : List ND) (e : Ending) (w' : World) : Prop := ∃ sp G R lv uv, e = .returned (.pointer (some ⟨sp, 0, none⟩)) ∧ SpA w' G R sp lv uv xs ⟨List.replicate xs.length false, []⟩ ∧ Below W.heap.size W w' ∧ (∀ b, G b → W.heap.size ≤ b)
set_option maxHeartbeats 40000000 in
set_option maxRecDepth 100000 in
theorem look_any (W : World) (st : Nat) (xs : List ND) (hA : ArV W 122 st xs) (hok : Okay xs) (hul : ∀ m, (uses xs m).length ≤ 100000000) :
    Calls Tryz.prog 118 #[.pointer (some ⟨st, 0, none⟩)] W fun e w' => LookP W xs e w' := by
  obtain ⟨i0, hi, hz0, hz1, hz2⟩ := info_parts infoN
  have HA := hid hA; have HOK := hid hok; have HUL := hid hul
  have hxn : xs.length ≤ 100000 := hok.len
  have HB0 := hid (show Below W.heap.size W ((W.alloc (.cells #[.slice none 0 0, .slice none 0 0, .slice none 0 0, .slice none 0 0] 120)).alloc (.cells #[.pointer (some ⟨W.heap.size, 0, none⟩)] 114)) from ((Below.refl _ _).alloc (Nat.le_refl _) _).alloc (by simp) _)
  clear hA hok hul
  go_enter Tryz.func118, Tryz.ntmps118
  go_upto_region 2 with fail
  refine forget (R := fun V => LkS W V W.heap.size (W.heap.size + 1) (W.heap.size + 2) (.slice none 0 0) xs 0 []) ?_ ⟨?_, ?_, ?_, rfl, ?_, ?_, ?_⟩
  rotate_left
  · show ((W.alloc (.cells #[.slice none 0 0, .slice none 0 0, .slice none 0 0, .slice none 0 0] 120)).alloc (.cells #[.pointer (some ⟨W.heap.size, 0, none⟩)] 114)).heap[W.heap.size + 1]? = _
    have := heap_alloc_new (W.alloc (.cells #[.slice none 0 0, .slice none 0 0, .slice none 0 0, .slice none 0 0] 120)) (.cells #[.pointer (some ⟨W.heap.size, 0, none⟩)] 114)
    rwa [World.size_alloc] at this
  · exact (heap_alloc_old _ _ (by simp)).trans (heap_alloc_new W _)
  · exact World.ownsRow_nil _ _ _ _
  · intro i x q hx hq; simp at hq
  · exact ⟨by omega, by omega, by omega, by simp, Nat.le_refl _, by omega⟩
  · exact HB0.out
  intro V hV
  have HV := hid hV
  clear hV HB0
  have HLN := hid (len_any st xs V (HA.out.ext HV.out.low))
  go_wp2_with fail
  refine HLN.out.mono ?_
  rintro e w5 ⟨rfl, hw⟩
  subst w5
  clear HLN
  go_wp2_with fail
  have hVs := HV.out.low.size
  go_loopw [17] (fun v wr => ∃ (j : Nat) (lv : Value) (qs : List Value), v = .int .i64 j ∧ j ≤ xs.length ∧ Hid (LkS W wr W.heap.size (W.heap.size + 1) (W.heap.size + 2) lv xs j qs)) (fun v _ => xs.length - (intOf v).toNat)
  case atStart => exact ⟨0, _, _, rfl, Nat.zero_le _, HV⟩
  case round =>
    clear HV hVs
    obtain ⟨j, lv, qs, hv, hj, HS⟩ := hrel
    subst hv
    by_cases hlt : j < xs.length
    · have hlt' : (j : Int) < (xs.length : Int) := by omega
      have hxg : xs[j]? = some (nodeF xs (j : Int)) := by
        have := nodeF_get (xs := xs) (t := (j : Int)) (has_iff.2 ⟨by omega, by omega⟩)
        rwa [Int.toNat_natCast] at this
      have HND := hid (node_any st xs (j : Int) wr (HA.out.ext HS.out.low))
      generalize nodeF xs (j : Int) = x at *
      generalize nodeE xs (j : Int) = er at *
      have HX := hid hxg
      clear hxg
      obtain ⟨x0, x1, x2, x3⟩ := x
      go_wp2_with fail
      refine HND.out.mono ?_
      rintro e w6 ⟨Aq, cq, rfl, oq, b6⟩
      have OQ := hid (show w6.ownsRow wr.heap.size 3 1 (.slice Aq x3.length cq) x3.length (x3.map (.int .i64)) from oq)
      have HS6 := hid (HS.out.ext b6)
      have B6 := hid b6
      clear oq b6 HND
      go_upto_region 6 with fail
      refine forget (R := fun V => LkS W V W.heap.size (W.heap.size + 1) (W.heap.size + 2) lv xs j qs ∧ V.ownsRow w6.heap.size 64 4 (.slice (some ⟨w6.heap.size, 0, none⟩) 1 1) 1 [.int .i64 x0, .int .i64 x1, .string x2, .slice Aq x3.length cq] ∧ V.ownsRow (W.heap.size + 2) 3 1 (.slice Aq x3.length cq) x3.length (x3.map (.int .i64))) ?_ ⟨HS6.out.ext ((Below.refl _ _).alloc (Nat.le_refl _) _), boxN, own_ext (own_mono OQ.out (by have := HS.out.lo; omega)) ((Below.refl _ _).alloc (Nat.le_refl _) _)⟩
      rintro V ⟨hs, hbx, hoq⟩
      have HSV := hid hs; have HBX := hid hbx; have HOQ := hid hoq
      clear hs hbx hoq HS HS6 OQ B6
      obtain ⟨⟨k0, k1, k2, k3⟩, -⟩ := box4 HBX.out
      obtain ⟨Av, cv, rfl, -⟩ := SlA.owned HSV.out.row
      have hl := HSV.out.lo
      have hbl := (HBX.out.lt w6.heap.size rfl).2
      have r0 : V.cell? ⟨W.heap.size + 1, 0, none⟩ = some (.pointer (some ⟨W.heap.size, 0, none⟩)) := cell_of_row V _ 0 _ _ (0, 0) HSV.out.var
      have r1 : V.cell? ⟨W.heap.size, 0, none⟩ = some (.slice Av j cv) := cell_of_row V _ 0 _ _ (0, 0) HSV.out.box
      have r0' : (V.alloc (.cells #[.int .i64 x0, .int .i64 x1, .string x2, .slice Aq x3.length cq] 64)).cell? ⟨W.heap.size + 1, 0, none⟩ = some (.pointer (some ⟨W.heap.size, 0, none⟩)) := (World.cell?_alloc_old _ _ _ (show W.heap.size + 1 ≠ V.heap.size by omega)).trans r0
      have r1' : (V.alloc (.cells #[.int .i64 x0, .int .i64 x1, .string x2, .slice Aq x3.length cq] 64)).cell? ⟨W.heap.size, 0, none⟩ = some (.slice Av j cv) := (World.cell?_alloc_old _ _ _ (show W.heap.size ≠ V.heap.size by omega)).trans r1
      have HBB := hid (show Below V.heap.size V ((V.alloc (.cells #[.int .i64 x0, .int .i64 x1, .string x2, .slice Aq x3.length cq] 64)).drew) from below_drew ((Below.refl _ _).alloc (Nat.le_refl _) _))
      have HROW := hid (own_ext HSV.out.row HBB.out)
      have HLO := hid (show W.heap.size + 2 ≤ ((V.alloc (.cells #[.int .i64 x0, .int .i64 x1, .string x2, .slice Aq x3.length cq] 64)).drew).heap.size by have := HBB.out.size; omega)
      have HCL := hid (fun (w4 : World) (hg : ((V.alloc (.cells #[.int .i64 x0, .int .i64 x1, .string x2, .slice Aq x3.length cq] 64)).drew).grownBy w4 (Value.slice Av j cv).ownBlock) => HSV.out.cell HBB.out hg)
      have HPT := hid (fun (v : Value) (w4 : World) (hg : ((V.alloc (.cells #[.int .i64 x0, .int .i64 x1, .string x2, .slice Aq x3.length cq] 64)).drew).grownBy w4 (Value.slice Av j cv).ownBlock) (ho : w4.ownsRow (W.heap.size + 2) 64 4 v (j + 1) (nds (xs.take j) qs ++ (⟨x0, x1, x2, x3⟩ : ND).cells (.slice Aq x3.length cq))) => HSV.out.put (v := v) HX.out HBB.out (own_ext HOQ.out HBB.out) hg ho)
      have HJ := hid (show j ≤ 100000 by omega)
      clear hl hbl
      go_region_law (refine step_append_sl _ rfl (.tmp 30) (.tmp 32) 39 rfl (W.heap.size + 2) 64 i0 (.agg #[.int .i64 0, .int .i64 0, .string ⟨#[]⟩, .slice none 0 0]) 4 56 Tryz.underlying39 hi hz0 hz1 hz2 rfl (by decide) (.slice Av j cv) j (nds (xs.take j) qs) (by rfl) HROW.out (some ⟨V.heap.size, 0, none⟩) 1 1 ((⟨x0, x1, x2, x3⟩ : ND).cells (.slice Aq x3.length cq)) (by rfl) (lit4 _ _ _ _).drew (one4 ⟨x0, x1, x2, x3⟩ _ _ _) (by have := HJ.out; unfold maxLen; omega) (by have := HJ.out; omega) HLO.out ?_; intro v4 w4 h4 g4 l4; obtain ⟨A4, c4, rfl, -⟩ := SlA.owned h4; have HP4 := hid (HPT.out _ _ g4 h4); obtain ⟨s4, s5, f4⟩ := HCL.out _ g4; clear h4 g4 l4)
      all_goals
        go_wp2_with fail
        go_roundw
        case rel => exact ⟨j + 1, _, _, by go_num, by omega, HP4⟩
        case measure => simp [intOf]; omega
    · have hjn : j = xs.length := by omega
      subst hjn
      have hlt' : ¬ ((xs.length : Nat) : Int) < (xs.length : Int) := by omega
      have htk : xs.take xs.length = xs := List.take_length
      have hmk1 : ∀ U : World, (Instr.makeSlice 117 (.int .i64 (xs.length : Int)) (.int .i64 (xs.length : Int))).run Tryz.prog U = .ok (.slice (some ⟨U.heap.size, 0, none⟩) xs.length xs.length) (U.alloc (.cells (madeCells #[.bool false] xs.length) 4)) := by
        obtain ⟨b0, b1, b2, b3, b4⟩ := info_parts infoBool
        exact make1 Tryz.underlying117 b1 b2 b3 b4 (by decide) rfl hxn
      have hmk2 : ∀ U : World, (Instr.makeSlice 118 (.int .i64 (xs.length : Int)) (.int .i64 (xs.length : Int))).run Tryz.prog U = .ok (.slice (some ⟨U.heap.size, 0, none⟩) xs.length xs.length) (U.alloc (.cells (madeCells #[.slice none 0 0] xs.length) 33)) := by
        obtain ⟨b0, b1, b2, b3, b4⟩ := info_parts infoInts
        exact make1 Tryz.underlying118 b1 b2 b3 b4 (by decide) rfl hxn
      have hl := HS.out.lo
      obtain ⟨Av, cv, rfl, -⟩ := SlA.owned HS.out.row
      have r0 : wr.cell? ⟨W.heap.size + 1, 0, none⟩ = some (.pointer (some ⟨W.heap.size, 0, none⟩)) := cell_of_row wr _ 0 _ _ (0, 0) HS.out.var
      have r1 : wr.cell? ⟨W.heap.size, 0, none⟩ = some (.slice Av xs.length cv) := cell_of_row wr _ 0 _ _ (0, 0) HS.out.box
      have r2 : wr.cell? ⟨W.heap.size, 1, none⟩ = some (.slice none 0 0) := cell_of_row wr _ 1 _ _ (0, 0) HS.out.box
      have r3 : wr.frozen? ⟨W.heap.size, 1, none⟩ = false := by simp [World.frozen?, HS.out.box]
      have n0 : W.heap.size + 1 ≠ wr.heap.size := by omega
      have n1 : W.heap.size ≠ wr.heap.size := by omega
      have HBC := hid (made1 (.bool false) xs.length)
      generalize madeCells #[Value.bool false] xs.length = bc at *
      have r0' : (wr.alloc (.cells bc 4)).cell? ⟨W.heap.size + 1, 0, none⟩ = some (.pointer (some ⟨W.heap.size, 0, none⟩)) := (World.cell?_alloc_old _ _ _ n0).trans r0
      have r1' : (wr.alloc (.cells bc 4)).cell? ⟨W.heap.size, 0, none⟩ = some (.slice Av xs.length cv) := (World.cell?_alloc_old _ _ _ n1).trans r1
      have r2' : (wr.alloc (.cells bc 4)).cell? ⟨W.heap.size, 1, none⟩ = some (.slice none 0 0) := (World.cell?_alloc_old _ _ _ n1).trans r2
      have r3' : (wr.alloc (.cells bc 4)).frozen? ⟨W.heap.size, 1, none⟩ = false := by
        have := Below.heap_alloc wr (.cells bc 4) W.heap.size (by omega)
        simp [World.frozen?, this, HS.out.box]
      have HSK := hid HS.out
      clear hlt hj
      go_upto_region 8 with fail
      go_region
      go_upto_region 9 with fail
      refine forget (R := fun U => ∃ iv, LkR W U (W.heap.size + 2) (.slice Av xs.length cv) iv xs qs ∧ U.heap[W.heap.size + 1]? = some (.cells #[.pointer (some ⟨W.heap.size, 0, none⟩)] 114 (0, 0)) ∧ U.heap[W.heap.size]? = some (.cells #[.slice Av xs.length cv, iv, .slice none 0 0, .slice none 0 0] 120 (0, 0)) ∧ W.heap.size + 2 < U.heap.size) ?_ ⟨_, HSK.out.made hxn HBC.out⟩
      clear r0 r1 r2 r3 r0' r1' r2' r3' n0 n1 HSK HS hl
      rintro U ⟨iv, hR, hvar, hbox, hUs⟩
      have HR := hid hR; have HVAR := hid hvar; have HBOX := hid hbox
      have r0 : U.cell? ⟨W.heap.size + 1, 0, none⟩ = some (.pointer (some ⟨W.heap.size, 0, none⟩)) := cell_of_row U _ 0 _ _ (0, 0) hvar
      have r1 : U.cell? ⟨W.heap.size, 0, none⟩ = some (.slice Av xs.length cv) := cell_of_row U _ 0 _ _ (0, 0) hbox
      have r2 : U.cell? ⟨W.heap.size, 2, none⟩ = some (.slice none 0 0) := cell_of_row U _ 2 _ _ (0, 0) hbox
      have r3 : U.frozen? ⟨W.heap.size, 2, none⟩ = false := by simp [World.frozen?, hbox]
      have n0 : W.heap.size + 1 ≠ U.heap.size := by omega
      have n1 : W.heap.size ≠ U.heap.size := by omega
      have HBC2 := hid (made1 (.slice none 0 0) xs.length)
      generalize madeCells #[Value.slice none 0 0] xs.length = bs at *
      have r0' : (U.alloc (.cells bs 33)).cell? ⟨W.heap.size + 1, 0, none⟩ = some (.pointer (some ⟨W.heap.size, 0, none⟩)) := (World.cell?_alloc_old _ _ _ n0).trans r0
      have r1' : (U.alloc (.cells bs 33)).cell? ⟨W.heap.size, 0, none⟩ = some (.slice Av xs.length cv) := (World.cell?_alloc_old _ _ _ n1).trans r1
      have r2' : (U.alloc (.cells bs 33)).cell? ⟨W.heap.size, 2, none⟩ = some (.slice none 0 0) := (World.cell?_alloc_old _ _ _ n1).trans r2
      have r3' : (U.alloc (.cells bs 33)).frozen? ⟨W.heap.size, 2, none⟩ = false := by
        have := Below.heap_alloc U (.cells bs 33) W.heap.size (by omega)
        simp [World.frozen?, this, hbox]
      clear hR hvar hbox HBC
      go_region
      go_upto_region 11 with fail
      refine forget (R := fun V3 => LkR W V3 (W.heap.size + 2) (.slice Av xs.length cv) iv xs qs ∧ UsS V3 W.heap.size (W.heap.size + 1) (U.heap.size + 1) U.heap.size xs.length (.slice Av xs.length cv) iv xs.length [] (List.replicate xs.length (.slice none 0 0)) ∧ V3.heap.size = U.heap.size + 1) ?_ ⟨(HR.out.made HVAR.out HBOX.out (by omega) (by omega) (by omega) (by omega) (by omega) hxn HBC2.out).1, (HR.out.made HVAR.out HBOX.out (by omega) (by omega) (by omega) (by omega) (by omega) hxn HBC2.out).2, by show ((U.alloc _).setCell _ _).heap.size = _; simp⟩
      clear r0 r1 r2 r3 r0' r1' r2' r3' n0 n1 HBC2 HVAR HBOX
      rintro V3 ⟨hR3, hU3, hz3⟩
      have HR3 := hid hR3; have HU3 := hid hU3; have HZ3 := hid hz3
      clear hR3 hU3
      have r0 : V3.cell? ⟨W.heap.size + 1, 0, none⟩ = some (.pointer (some ⟨W.heap.size, 0, none⟩)) := cell_of_row V3 _ 0 _ _ (0, 0) HU3.out.var
      have r1 : V3.cell? ⟨W.heap.size, 0, none⟩ = some (.slice Av xs.length cv) := cell_of_row V3 _ 0 _ _ (0, 0) HU3.out.box
      obtain ⟨bcs, hbcs⟩ : ∃ bcs, V3.heap[U.heap.size]? = some (.cells bcs 33 (0, 0)) := by
        rcases HU3.out.row.2 with ⟨e, _⟩ | ⟨g, cap, cur, e, _, hh, _⟩
        · cases e
        · injection e with e
          injection e with e
          injection e with e
          subst e
          exact ⟨cur, hh⟩
      have HBCS := hid hbcs
      clear hbcs
      go_wp2_with fail
      go_loopw [61] (fun v wq => ∃ (t : Nat) (us : List Value), v = .int .i64 t ∧ t ≤ xs.length ∧ Hid (UsS wq W.heap.size (W.heap.size + 1) (U.heap.size + 1) U.heap.size xs.length (.slice Av xs.length cv) iv xs.length (pairs xs t) us ∧ Turn (fun b => b = U.heap.size ∨ V3.heap.size ≤ b) V3 wq)) (fun v _ => xs.length - (intOf v).toNat)
      case atStart => exact ⟨0, _, rfl, Nat.zero_le _, hid ⟨HU3.out, Turn.refl _ _⟩⟩
      case round =>
        clear r0 r1
        obtain ⟨t, us, hv, ht, HQ⟩ := hrel
        subst hv
        by_cases hlt : t < xs.length
        · have hlt' : (t : Int) < (xs.length : Int) := by omega
          have hth : hasB xs (t : Int) = true := has_iff.2 ⟨by omega, by omega⟩
          have hx := nodeF_get hth
          rw [Int.toNat_natCast] at hx
          have HPS := hid (show pairs xs (t + 1) = pairs xs t ++ (links xs (nodeF xs (t : Int))).map fun y => ((t : Int), y) from pairs_succ xs t)
          have HLK := hid (show links xs (nodeF xs (t : Int)) = (nodeF xs (t : Int)).l ++ (if (nodeF xs (t : Int)).o = 8 ∧ (nodeF xs ((nodeF xs (t : Int)).l.getD 0 0)).o = 7 then [(nodeF xs ((nodeF xs (t : Int)).l.getD 0 0)).l.getD 0 0] else if (nodeF xs (t : Int)).o = 10 ∧ (nodeF xs ((nodeF xs (t : Int)).l.getD 1 0)).o = 12 then [(nodeF xs ((nodeF xs (t : Int)).l.getD 1 0)).l.getD 1 0] else []) from rfl)
          have HUB := hid (fun (m1 m2 : List Int) (h : links xs (nodeF xs (t : Int)) = m1 ++ m2) (q : Int) => Nat.le_trans (use_le hlt h q) (HUL.out q))
          have HXP := hid (fun y (hy : y ∈ (nodeF xs (t : Int)).l) => has_part HOK.out hth hy)
          have HXL := hid (fun (o : Int) (k : Nat) (ho : (nodeF xs (t : Int)).o = o) (hk : arN o = some k) => len_of HOK.out hth ho hk)
          have hxb : (nodeF xs (t : Int)).l.length ≤ 64 := by
            have := HOK.out.may _ _ hx
            unfold mayB shB at this
            simp only [Bool.and_eq_true, decide_eq_true_eq] at this
            exact this.1.1.1.1.1.1.2
          obtain ⟨bn, on, c0, A', c', e, hkeep⟩ := HR3.out.keep HBCS.out hx
          injection e with e _ e3
          subst e; subst e3
          have HKP := hid hkeep
          obtain ⟨⟨y0, y1, y2, y3⟩, -⟩ := hkeep wr HQ.out.2
          have r1 : wr.cell? ⟨W.heap.size, 0, none⟩ = some (.slice (some ⟨bn, on, none⟩) xs.length cv) := cell_of_row wr _ 0 _ _ (0, 0) HQ.out.1.box
          generalize nodeF xs (t : Int) = x at *
          generalize hex : (if x.o = 8 ∧ (nodeF xs (x.l.getD 0 0)).o = 7 then [(nodeF xs (x.l.getD 0 0)).l.getD 0 0] else if x.o = 10 ∧ (nodeF xs (x.l.getD 1 0)).o = 12 then [(nodeF xs (x.l.getD 1 0)).l.getD 1 0] else []) = ext at *
          have HEX := hid hex
          clear hex
          clear hkeep hx hth
          go_upto_region 14 with fail
          refine forget (R := fun w9 => UsS w9 W.heap.size (W.heap.size + 1) (U.heap.size + 1) U.heap.size xs.length (.slice (some ⟨bn, on, none⟩) xs.length cv) iv xs.length (pairs xs t) us ∧ Turn (fun b => b = U.heap.size ∨ V3.heap.size ≤ b) V3 w9 ∧ w9.ownsRow wr.heap.size 64 4 (.slice (some ⟨wr.heap.size, 0, none⟩) 1 1) 1 [.int .i64 x.o, .int .i64 x.n, .string x.s, .slice A' x.l.length c']) ?_ ⟨HQ.out.1.ext ((Below.refl _ _).alloc (Nat.le_refl _) _), HQ.out.2.trans (Turn.of_below (F := fun _ => False) ((Below.refl _ _).alloc (Nat.le_refl _) _)) (fun _ h => h.elim), boxN⟩
          rintro w9 ⟨hu9, ht9, hb9⟩
          have HU9 := hid hu9; have HT9 := hid ht9; have HB9 := hid hb9
          have hb9' := hb9
          clear hu9 ht9 hb9 y0 y1 y2 y3 r1
          obtain ⟨⟨n0, n1, n2, n3⟩, -⟩ := box4 HB9.out
          clear HQ HB9
          have HB9 := hid (show w9.ownsRow wr.heap.size 64 4 (.slice (some ⟨wr.heap.size, 0, none⟩) 1 1) 1 [.int .i64 x.o, .int .i64 x.n, .string x.s, .slice A' x.l.length c'] from hb9')
          generalize wr.heap.size = b9 at *
          go_wp2_with fail
          go_loopw [69] (fun v wq => ∃ (k : Nat) (us : List Value), v = .int .i64 k ∧ k ≤ x.l.length ∧ Hid (UsS wq W.heap.size (W.heap.size + 1) (U.heap.size + 1) U.heap.size xs.length (.slice (some ⟨bn, on, none⟩) xs.length cv) iv xs.length (pairs xs t ++ (x.l.take k).map fun y => ((t : Int), y)) us ∧ Turn (fun b => b = U.heap.size ∨ V3.heap.size ≤ b) V3 wq ∧ wq.ownsRow b9 64 4 (.slice (some ⟨b9, 0, none⟩) 1 1) 1 [.int .i64 x.o, .int .i64 x.n, .string x.s, .slice A' x.l.length c'])) (fun v _ => x.l.length - (intOf v).toNat)
          case atStart => exact ⟨0, us, rfl, Nat.zero_le _, hid ⟨by rw [List.take_zero, List.map_nil, List.append_nil]; exact HU9.out, HT9.out, HB9.out⟩⟩
          case round =>
            clear n0 n1 n2 n3 HU9 HT9 HB9
            obtain ⟨k, us, hv, hk, HQ⟩ := hrel
            subst hv
            by_cases hkl : k < x.l.length
            · have hkl' : (k : Int) < (x.l.length : Int) := by omega
              obtain ⟨-, hsl⟩ := HKP.out wr HQ.out.2.1
              obtain ⟨b1, o1, y, rfl, hyk, hcy⟩ := hsl.elemI hkl
              have hyh := HXP.out y (List.mem_of_getElem? hyk)
              obtain ⟨q, rfl⟩ := Int.eq_ofNat_of_zero_le (has_iff.1 hyh).1
              have hqx : q < xs.length := by have := (has_iff.1 hyh).2; omega
              have HTK := hid (show (x.l.take (k + 1)).map (fun y => ((t : Int), y)) = (x.l.take k).map (fun y => ((t : Int), y)) ++ [((t : Int), (q : Int))] by rw [take_one hyk, List.map_append]; rfl)
              have HL1 := hid (look1_any wr _ _ _ _ _ _ _ _ _ us q (t : Int) HQ.out.1 hqx (HUB.out (x.l.take k) (x.l.drop k ++ ext) (by rw [HLK.out, ← List.append_assoc, List.take_append_drop]) q))
              clear hsl hyk hyh
              go_wp2_with fail
              refine HL1.out.mono ?_
              rintro e w8 ⟨rfl, us8, hu8, ht8⟩
              have HN := hid (show UsS w8 W.heap.size (W.heap.size + 1) (U.heap.size + 1) U.heap.size xs.length (.slice (some ⟨bn, on, none⟩) xs.length cv) iv xs.length (pairs xs t ++ (x.l.take (k + 1)).map fun y => ((t : Int), y)) us8 ∧ Turn (fun b => b = U.heap.size ∨ V3.heap.size ≤ b) V3 w8 ∧ w8.ownsRow b9 64 4 (.slice (some ⟨b9, 0, none⟩) 1 1) 1 [.int .i64 x.o, .int .i64 x.n, .string x.s, .slice (some ⟨b1, o1, none⟩) x.l.length c'] from
                ⟨by rw [HTK.out, ← List.append_assoc]; exact hu8, HQ.out.2.1.trans (HQ.out.1.lo_turn ht8) (fun b hb => by rw [HZ3.out]; exact .inl hb), HQ.out.1.node ht8 HQ.out.2.2⟩)
              clear hu8 ht8
              go_wp2_with fail
              go_roundw
              case rel => exact ⟨k + 1, us8, by go_num, by omega, HN⟩
              case measure => simp [intOf]; omega
            · have hke : k = x.l.length := by omega
              have hkl' : ¬ ((x.l.length : Nat) : Int) < (x.l.length : Int) := by omega
              subst hke
              have HQ2 := hid (show UsS wr W.heap.size (W.heap.size + 1) (U.heap.size + 1) U.heap.size xs.length (.slice (some ⟨bn, on, none⟩) xs.length cv) iv xs.length (pairs xs t ++ x.l.map fun y => ((t : Int), y)) us from by have := HQ.out.1; rwa [List.take_length] at this)
              have HT2 := hid HQ.out.2.1
              have HB2 := hid HQ.out.2.2
              clear HQ hkl
              obtain ⟨⟨n0, n1, n2, n3⟩, -⟩ := box4 HB2.out
              have r0 : wr.cell? ⟨W.heap.size + 1, 0, none⟩ = some (.pointer (some ⟨W.heap.size, 0, none⟩)) := cell_of_row wr _ 0 _ _ (0, 0) HQ2.out.var
              have r1 : wr.cell? ⟨W.heap.size, 0, none⟩ = some (.slice (some ⟨bn, on, none⟩) xs.length cv) := cell_of_row wr _ 0 _ _ (0, 0) HQ2.out.box
              have HEND := hid (fun (us8 : List Value) (w8 : World) (hu8 : UsS w8 W.heap.size (W.heap.size + 1) (U.heap.size + 1) U.heap.size xs.length (.slice (some ⟨bn, on, none⟩) xs.length cv) iv xs.length (pairs xs t ++ (x.l.map fun y => ((t : Int), y)) ++ ext.map fun y => ((t : Int), y)) us8) (ht8 : Turn (fun b => b = U.heap.size ∨ V3.heap.size ≤ b) V3 w8) =>
                (show UsS w8 W.heap.size (W.heap.size + 1) (U.heap.size + 1) U.heap.size xs.length (.slice (some ⟨bn, on, none⟩) xs.length cv) iv xs.length (pairs xs (t + 1)) us8 ∧ Turn (fun b => b = U.heap.size ∨ V3.heap.size ≤ b) V3 w8 from
                  ⟨by rw [HPS.out, HLK.out, List.map_append, ← List.append_assoc]; exact hu8, ht8⟩))
              have HEN0 := hid (fun (he : ext = []) (w8 : World) (hb : Below wr.heap.size wr w8) => HEND.out us w8 (by rw [he, List.map_nil, List.append_nil]; exact HQ2.out.ext hb) (HT2.out.trans (Turn.of_below (F := fun _ => False) hb) fun _ h => h.elim))
              obtain ⟨xo, xn, xt, xl⟩ := x
              by_cases h8 : xo = 8
              · subst h8
                obtain ⟨a, b, c, d, hl⟩ := four_of_len (HXL.out 8 4 rfl rfl)
                simp only at hl
                subst hl
                have hah := HXP.out a (by simp)
                obtain ⟨ka, rfl⟩ := Int.eq_ofNat_of_zero_le (has_iff.1 hah).1
                have hkx : (ka : Int) < (xs.length : Int) := (has_iff.1 hah).2
                have hy := nodeF_get hah
                rw [Int.toNat_natCast] at hy
                have HYP := hid (fun y (hy : y ∈ (nodeF xs (ka : Int)).l) => has_part HOK.out hah hy)
                have HYL := hid (fun (ho : (nodeF xs (ka : Int)).o = 7) => len_of HOK.out hah (o := 7) (k := 1) ho rfl)
                have HEX2 := hid (show (if (nodeF xs (ka : Int)).o = 7 then [(nodeF xs (ka : Int)).l.getD 0 0] else []) = ext by
                  rw [← HEX.out]
                  show _ = if (8 : Int) = 8 ∧ (nodeF xs (ka : Int)).o = 7 then _ else _
                  by_cases h7 : (nodeF xs (ka : Int)).o = 7
                  · rw [if_pos h7, if_pos ⟨rfl, h7⟩]; rfl
                  · rw [if_neg h7, if_neg (fun h => h7 h.2), if_neg (fun h => by have := h.1; simp at this)])
                obtain ⟨bn2, on2, cn2, A2, k2, e, hkeep⟩ := HR3.out.keep HBCS.out hy
                injection e with e _ e3
                injection e with e
                injection e with e e'
                subst e; subst e'; subst e3
                generalize nodeF xs (ka : Int) = y at *
                obtain ⟨⟨z0, z1, z2, z3⟩, hzl⟩ := hkeep wr HT2.out
                obtain ⟨-, hsl⟩ := HKP.out wr HT2.out
                obtain ⟨ba, oa, u0, rfl, hu0, e0⟩ := hsl.elemI (k := 0) (by simp)
                have hu0' : (ka : Int) = u0 := by simpa using hu0
                subst hu0'
                rw [Nat.add_zero] at e0
                have n3' : wr.cell? ⟨b9, 3, none⟩ = some (.slice (some ⟨ba, oa, none⟩) 4 c') := n3
                clear n3 hsl hu0 hah hy hkeep HEX
                by_cases h7 : y.o = 7
                · obtain ⟨k0, hyl⟩ := one_of_len (HYL.out h7)
                  obtain ⟨yo, yn, yt, yl⟩ := y
                  simp only at h7 hyl
                  subst h7; subst hyl
                  have hk0 := HYP.out k0 (by simp)
                  obtain ⟨q, rfl⟩ := Int.eq_ofNat_of_zero_le (has_iff.1 hk0).1
                  have hqx : q < xs.length := by have := (has_iff.1 hk0).2; omega
                  have HEE := hid (show [(q : Int)] = ext from HEX2.out)
                  obtain ⟨by', oy, u0, rfl, hu0, f0⟩ := hzl.elemI (k := 0) (by simp)
                  have hu0' : (q : Int) = u0 := by simpa using hu0
                  subst hu0'
                  rw [Nat.add_zero] at f0
                  have z3' : wr.cell? ⟨bn, on + ka * 4 + 3, none⟩ = some (.slice (some ⟨by', oy, none⟩) 1 k2) := z3
                  have HFX := hid (fun (V9 : World) (hb : Below wr.heap.size wr V9) =>
                    have up : ∀ {p : Addr} {u : Value}, wr.cell? p = some u → V9.cell? p = some u := fun h => (hb.cell (p := _) (block_lt_of_cell h)).trans h
                    (show V9.cell? ⟨W.heap.size + 1, 0, none⟩ = some (.pointer (some ⟨W.heap.size, 0, none⟩)) ∧ V9.cell? ⟨W.heap.size, 0, none⟩ = some (.slice (some ⟨bn, on, none⟩) xs.length cv) ∧ V9.cell? ⟨b9, 3, none⟩ = some (.slice (some ⟨ba, oa, none⟩) 4 c') ∧ V9.cell? ⟨ba, oa, none⟩ = some (.int .i64 ka) ∧ V9.cell? ⟨bn, on + ka * 4 + 3, none⟩ = some (.slice (some ⟨by', oy, none⟩) 1 k2) ∧ V9.cell? ⟨by', oy, none⟩ = some (.int .i64 q) from ⟨up r0, up r1, up n3', up e0, up z3', up f0⟩))
                  have HL1 := hid (fun (V9 : World) (hb : Below wr.heap.size wr V9) => (look1_any V9 _ _ _ _ _ _ _ _ _ us q (t : Int) (HQ2.out.ext hb) hqx (HUB.out [(ka : Int), b, c, d] ext HLK.out q)).mono fun e w8 (h9 : _ ∧ _) => (show e = .returned (.tuple #[]) ∧ ∃ us8, UsS w8 W.heap.size (W.heap.size + 1) (U.heap.size + 1) U.heap.size xs.length (.slice (some ⟨bn, on, none⟩) xs.length cv) iv xs.length (pairs xs (t + 1)) us8 ∧ Turn (fun b => b = U.heap.size ∨ V3.heap.size ≤ b) V3 w8 by
                    obtain ⟨h91, us8, hu8, ht8⟩ := h9
                    refine ⟨h91, us8, HEND.out us8 w8 ?_ ?_⟩
                    · rw [← HEE.out]; exact hu8
                    · exact (HT2.out.trans (Turn.of_below (F := fun _ => False) hb) fun _ h => h.elim).trans ((HQ2.out.ext hb).lo_turn ht8) (fun b hb => by rw [HZ3.out]; exact .inl hb)))
                  clear hk0 hzl hu0 z3
                  go_upto_region 19 with fail
                  go_quiet (fail)
                  go_upto_region 20 with fail
                  refine forget (R := fun V9 => Below wr.heap.size wr V9) ?_ (by first | exact below_drewN (Below.refl _ _) _ | exact below_drew (Below.refl _ _))
                  clear r0 r1 n0 n1 n2 n3' e0 z0 z1 z2 z3' f0
                  intro V9 hb9
                  have HB9 := hid hb9
                  obtain ⟨r0, r1, n3, e0, z3, f0⟩ := HFX.out V9 hb9
                  clear hb9
                  go_region_with (first
                    | (go_at_call 138; refine (HL1.out _ (by first | exact HB9.out | exact below_drew HB9.out | exact below_drewN HB9.out _)).mono ?_; rintro e9 w9 ⟨rfl, h9⟩; have H9 := hid h9; clear h9))
                  all_goals
                    obtain ⟨us8, h8⟩ := H9.out
                    have HN := hid h8
                    clear h8
                    go_wp2_with fail
                    go_roundw
                    case rel => exact ⟨t + 1, us8, by go_num, by omega, HN⟩
                    case measure => simp [intOf]; omega
                · have e7 : (y.o == 7) = false := beq_eq_false_iff_ne.2 h7
                  have HE0 := hid (show ext = [] by rw [← HEX2.out, if_neg h7])
                  clear h7
                  go_upto_region 19 with fail
                  go_quiet (fail)
                  go_upto_region 21 with fail
                  go_quiet (fail)
                  go_wp2_with fail
                  go_roundw
                  case rel => exact ⟨t + 1, us, by go_num, by omega, hid (HEN0.out HE0.out _ (by first | exact below_drewN (Below.refl _ _) _ | exact below_drew (Below.refl _ _) | exact below_drewN (below_drewN (Below.refl _ _) _) _ | exact below_drew (below_drew (Below.refl _ _))))⟩
                  case measure => simp [intOf]; omega
              · by_cases h10 : xo = 10
                · subst h10
                  have e8 : ((10 : Int) == 8) = false := by decide
                  obtain ⟨a, b, hl⟩ := two_of_len (HXL.out 10 2 rfl rfl)
                  simp only at hl
                  subst hl
                  have hah := HXP.out b (by simp)
                  obtain ⟨ka, rfl⟩ := Int.eq_ofNat_of_zero_le (has_iff.1 hah).1
                  have hkx : (ka : Int) < (xs.length : Int) := (has_iff.1 hah).2
                  have hy := nodeF_get hah
                  rw [Int.toNat_natCast] at hy
                  have HYP := hid (fun y (hy : y ∈ (nodeF xs (ka : Int)).l) => has_part HOK.out hah hy)
                  have HYL := hid (fun (ho : (nodeF xs (ka : Int)).o = 12) => len_of HOK.out hah (o := 12) (k := 2) ho rfl)
                  have HEX2 := hid (show (if (nodeF xs (ka : Int)).o = 12 then [(nodeF xs (ka : Int)).l.getD 1 0] else []) = ext by
                    rw [← HEX.out]
                    show _ = if (10 : Int) = 8 ∧ _ then _ else if (10 : Int) = 10 ∧ (nodeF xs (ka : Int)).o = 12 then _ else _
                    by_cases h7 : (nodeF xs (ka : Int)).o = 12
                    · rw [if_pos h7, if_neg (fun h => absurd h.1 (by decide)), if_pos ⟨rfl, h7⟩]; rfl
                    · rw [if_neg h7, if_neg (fun h => absurd h.1 (by decide)), if_neg (fun h => h7 h.2)])
                  obtain ⟨bn2, on2, cn2, A2, k2, e, hkeep⟩ := HR3.out.keep HBCS.out hy
                  injection e with e _ e3
                  injection e with e
                  injection e with e e'
                  subst e; subst e'; subst e3
                  generalize nodeF xs (ka : Int) = y at *
                  have HKY := hid hkeep
                  obtain ⟨⟨z0, z1, z2, z3⟩, -⟩ := hkeep wr HT2.out
                  obtain ⟨-, hsl⟩ := HKP.out wr HT2.out
                  obtain ⟨ba, oa, u0, rfl, hu0, e0⟩ := hsl.elemI (k := 1) (by simp)
                  have hu0' : (ka : Int) = u0 := by simpa using hu0
                  subst hu0'
                  have n3' : wr.cell? ⟨b9, 3, none⟩ = some (.slice (some ⟨ba, oa, none⟩) 2 c') := n3
                  clear n3 hsl hu0 hah hy hkeep HEX
                  by_cases h7 : y.o = 12
                  · obtain ⟨k0, k1, hyl⟩ := two_of_len (HYL.out h7)
                    obtain ⟨yo, yn, yt, yl⟩ := y
                    simp only at h7 hyl
                    subst h7; subst hyl
                    have hk0 := HYP.out k1 (by simp)
                    obtain ⟨q, rfl⟩ := Int.eq_ofNat_of_zero_le (has_iff.1 hk0).1
                    have hqx : q < xs.length := by have := (has_iff.1 hk0).2; omega
                    have HEE := hid (show [(q : Int)] = ext from HEX2.out)
                    have HFX := hid (fun (V9 : World) (hb : Below wr.heap.size wr V9) =>
                      have up : ∀ {p : Addr} {u : Value}, wr.cell? p = some u → V9.cell? p = some u := fun h => (hb.cell (p := _) (block_lt_of_cell h)).trans h
                      (show V9.cell? ⟨W.heap.size + 1, 0, none⟩ = some (.pointer (some ⟨W.heap.size, 0, none⟩)) ∧ V9.cell? ⟨W.heap.size, 0, none⟩ = some (.slice (some ⟨bn, on, none⟩) xs.length cv) ∧ V9.cell? ⟨b9, 3, none⟩ = some (.slice (some ⟨ba, oa, none⟩) 2 c') ∧ V9.cell? ⟨ba, oa + 1, none⟩ = some (.int .i64 ka) ∧ V9.cell? ⟨bn, on + ka * 4, none⟩ = some (.int .i64 12) ∧ V9.cell? ⟨bn, on + ka * 4 + 1, none⟩ = some (.int .i64 yn) ∧ V9.cell? ⟨bn, on + ka * 4 + 2, none⟩ = some (.string yt) ∧ V9.cell? ⟨bn, on + ka * 4 + 3, none⟩ = some (.slice A2 2 k2) from ⟨up r0, up r1, up n3', up e0, up z0, up z1, up z2, up z3⟩))
                    go_upto_region 19 with fail
                    go_quiet (fail)
                    go_upto_region 21 with fail
                    go_quiet (fail)
                    go_upto_region 22 with fail
                    refine forget (R := fun V9 => Below wr.heap.size wr V9) ?_ (by first | exact below_drewN (Below.refl _ _) _ | exact below_drew (Below.refl _ _) | exact below_drewN (below_drewN (Below.refl _ _) _) _ | exact below_drew (below_drew (Below.refl _ _)))
                    clear r0 r1 n0 n1 n2 n3' e0 z0 z1 z2 z3
                    intro V9 hb9
                    have HB9 := hid hb9
                    obtain ⟨r0, r1, n3, e0, z0, z1, z2, z3⟩ := HFX.out V9 hb9
                    clear hb9
                    have DZ := hid (Below.refl V9.heap.size V9)
                    have DA := hid (DZ.out.alloc (Nat.le_refl _) (.cells #[.int .i64 0, .int .i64 0, .string ⟨#[]⟩, .slice none 0 0] 64))
                    have HPK := hid (fun (U9 : World) (hb : Below V9.heap.size V9 U9) => HFX.out U9 (HB9.out.trans (hb.mono HB9.out.size)))
                    go_cut [12, 61] from 61 to 147 (fun v c9 U9 => c9 = .int .i64 (t : Int) ∧ v = .pointer (some ⟨V9.heap.size, 0, none⟩) ∧ Below V9.heap.size V9 U9 ∧ U9.ownsRow V9.heap.size 64 4 (.slice (some ⟨V9.heap.size, 0, none⟩) 1 1) 1 [.int .i64 12, .int .i64 yn, .string yt, .slice A2 2 k2])
                    case first =>
                      go_region_held3 (fun U9 => U9.cell? ⟨W.heap.size + 1, 0, none⟩ = some (.pointer (some ⟨W.heap.size, 0, none⟩)) ∧ U9.cell? ⟨W.heap.size, 0, none⟩ = some (.slice (some ⟨bn, on, none⟩) xs.length cv) ∧ U9.cell? ⟨b9, 3, none⟩ = some (.slice (some ⟨ba, oa, none⟩) 2 c') ∧ U9.cell? ⟨ba, oa + 1, none⟩ = some (.int .i64 ka) ∧ U9.cell? ⟨bn, on + ka * 4, none⟩ = some (.int .i64 12) ∧ U9.cell? ⟨bn, on + ka * 4 + 1, none⟩ = some (.int .i64 yn) ∧ U9.cell? ⟨bn, on + ka * 4 + 2, none⟩ = some (.string yt) ∧ U9.cell? ⟨bn, on + ka * 4 + 3, none⟩ = some (.slice A2 2 k2)) (first | exact HPK.out _ DZ.out | exact HPK.out _ (below_drew DZ.out) | exact HPK.out _ DA.out | exact HPK.out _ (below_drew DA.out) | exact HPK.out _ (below_drew (DZ.out.alloc (Nat.le_refl _) _)) | go_keep) (first | fail)
                      all_goals
                        go_wp2_with fail
                        go_meet
                        first
                          | exact ⟨rfl, rfl, below_drew ((Below.refl _ _).alloc (Nat.le_refl _) _), own_block boxN fun _ _ => rfl⟩
                          | exact ⟨rfl, rfl, below_drewN ((Below.refl _ _).alloc (Nat.le_refl _) _) _, own_block boxN fun _ _ => rfl⟩
                          | exact ⟨rfl, rfl, (Below.refl _ _).alloc (Nat.le_refl _) _, boxN⟩
                    case rest =>
                      obtain ⟨rfl, rfl, hb2, hp4⟩ := hcut
                      have HBC := hid (HB9.out.trans (hb2.mono HB9.out.size))
                      have HTC := hid (show Turn (fun b => b = U.heap.size ∨ V3.heap.size ≤ b) V3 wc from HT2.out.trans (Turn.of_below (F := fun _ => False) HBC.out) fun _ h => h.elim)
                      obtain ⟨⟨p0, p1, p2, p3⟩, -⟩ := box4 hp4
                      obtain ⟨-, hzl⟩ := HKY.out wc HTC.out
                      obtain ⟨by', oy, u0, rfl, hu0, f0⟩ := hzl.elemI (k := 1) (by simp)
                      have hu0' : (q : Int) = u0 := by simpa using hu0
                      subst hu0'
                      have HL1 := hid ((look1_any wc _ _ _ _ _ _ _ _ _ us q (t : Int) (HQ2.out.ext HBC.out) hqx (HUB.out [a, (ka : Int)] ext HLK.out q)).mono fun e w8 (h9 : _ ∧ _) => (show e = .returned (.tuple #[]) ∧ ∃ us8, UsS w8 W.heap.size (W.heap.size + 1) (U.heap.size + 1) U.heap.size xs.length (.slice (some ⟨bn, on, none⟩) xs.length cv) iv xs.length (pairs xs (t + 1)) us8 ∧ Turn (fun b => b = U.heap.size ∨ V3.heap.size ≤ b) V3 w8 by
                        obtain ⟨h91, us8, hu8, ht8⟩ := h9
                        refine ⟨h91, us8, HEND.out us8 w8 ?_ ?_⟩
                        · rw [← HEE.out]; exact hu8
                        · exact HTC.out.trans ((HQ2.out.ext HBC.out).lo_turn ht8) (fun b hb => by rw [HZ3.out]; exact .inl hb)))
                      clear hb2 hp4 hzl hu0 n3 r0 r1 e0 z0 z1 z2 z3 hk0
                      go_wp2_with fail
                      refine HL1.out.mono ?_
                      rintro e9 w9 ⟨rfl, us8, h8⟩
                      have HN := hid h8
                      clear h8
                      go_wp2_with fail
                      go_roundw
                      case rel => first | exact ⟨t + 1, us8, by go_num, by omega, HN⟩ | ((repeat apply Exists.intro); exact ⟨⟨t + 1, us8, by go_num, by omega, HN⟩, rfl⟩)
                      case measure => simp [intOf]; omega
                  · have e7 : (y.o == 12) = false := beq_eq_false_iff_ne.2 h7
                    have HE0 := hid (show ext = [] by rw [← HEX2.out, if_neg h7])
                    clear h7
                    go_upto_region 19 with fail
                    go_quiet (fail)
                    go_upto_region 21 with fail
                    go_quiet (fail)
                    go_wp2_with fail
                    go_roundw
                    case rel => exact ⟨t + 1, us, by go_num, by omega, hid (HEN0.out HE0.out _ (by first | exact below_drewN (Below.refl _ _) _ | exact below_drew (Below.refl _ _) | exact below_drewN (below_drewN (Below.refl _ _) _) _ | exact below_drew (below_drew (Below.refl _ _))))⟩
                    case measure => simp [intOf]; omega
                · have e8 : (xo == 8) = false := beq_eq_false_iff_ne.2 h8
                  have e10 : (xo == 10) = false := beq_eq_false_iff_ne.2 h10
                  have HE0 := hid (show ext = [] by rw [← HEX.out, if_neg (fun h => h8 h.1), if_neg (fun h => h10 h.1)])
                  clear h8 h10
                  go_upto_region 19 with fail
                  go_quiet (fail)
                  go_upto_region 21 with fail
                  go_quiet (fail)
                  go_wp2_with fail
                  go_roundw
                  case rel => exact ⟨t + 1, us, by go_num, by omega, hid (HEN0.out HE0.out _ (by first | exact below_drewN (Below.refl _ _) _ | exact below_drew (Below.refl _ _) | exact below_drewN (below_drewN (Below.refl _ _) _) _ | exact below_drew (below_drew (Below.refl _ _))))⟩
                  case measure => simp [intOf]; omega
        · have htn : t = xs.length := by omega
          subst htn
          have hlt' : ¬ ((xs.length : Nat) : Int) < (xs.length : Int) := by omega
          have r0 : wr.cell? ⟨W.heap.size + 1, 0, none⟩ = some (.pointer (some ⟨W.heap.size, 0, none⟩)) := cell_of_row wr _ 0 _ _ (0, 0) HQ.out.1.var
          have HD := hid (HR3.out.done HBCS.out (B3 := U.heap.size + 1) (by omega) (by omega) (by omega) (Nat.le_refl _) HOK.out HQ.out.1 (by have := HQ.out.2; rwa [HZ3.out] at this) (fun b e => by have := (HR3.out.inr.lt b e).2; omega) (fun b h1 h2 h3 => by omega))
          have HLW := hid HR3.out.low
          have HTW := hid HQ.out.2
          clear hlt
          go_wp2_with fail
          go_ret
          obtain ⟨G, R, h1, h2⟩ := HD.out
          exact (show LookP _ _ _ _ from ⟨_, G, R, _, _, rfl, h1, ⟨HTW.out.os.trans HLW.out.os, HTW.out.tape.trans HLW.out.tape, HTW.out.output.trans HLW.out.output, Nat.le_trans HLW.out.size HTW.out.size, fun b hb => (HTW.out.block b (Nat.lt_of_lt_of_le hb HLW.out.size) (by omega)).trans (HLW.out.block b hb)⟩, h2⟩)
end Go.Proofs.YtfmkniakfgpgjaaGreatDoor

/- deduce: are they all there (the closure of closed). -/
namespace Go.Proofs.YtfmkniakfgpgjaaGreatDoor
open Go.RowKit Go.KK Go.Shelf Go.Maps
set_option linter.unusedVariables false
set_option linter.unusedSimpArgs false

theorem keepL_low {W W' : World} {G : Nat → Prop} {A : Option Addr} {n c : Nat} {l : List Int} (h : SlA W 1 A n c (l.map (.int .i64))) (hb : Below W.heap.size W W') (hg : ∀ b, G b → W.heap.size ≤ b) : KeepL W' G A n c l := fun W2 _ hk =>
  ⟨h.nc, h.cm, h.len, fun j u hj => by
    obtain ⟨b, off, e, hc⟩ := h.cells j u hj
    refine ⟨b, off, e, ?_⟩
    have hlt : b < W.heap.size := block_lt_of_cell hc
    have hs := hb.size
    rw [World.cell?_of_block (a := ⟨b, off + j, none⟩) ((hk b (by omega) fun hh => by have := hg b hh; omega).trans (hb.block b hlt))]
    exact hc⟩
section
variable (W : World) (G R : Nat → Prop) (sp : Nat) (lv uv : Value) (xs : List ND) (s : SD)
theorem closed1_any (b : Nat) (t : Int) (h : SpA W G R sp lv uv xs s) (hb : W.cell? ⟨b, 0, none⟩ = some (.pointer (some ⟨sp, 0, none⟩))) :
    Calls Tryz.prog 119 #[.int .i64 t, .pointer (some ⟨b, 0, none⟩)] W fun e w' => e = .returned (.bool (!hasB xs t)) ∧ w' = W := by
  obtain ⟨A, c, qs, rfl, -⟩ := h.rdl
  obtain ⟨iv, ov, ⟨c0, c1, c2, c3⟩, -⟩ := h.cells
  clear h
  have HH := hid (has_iff (xs := xs) (t := t))
  by_cases h0 : t < 0
  · have hf : hasB xs t = false := by
      rw [Bool.eq_false_iff]
      intro e
      have := HH.out.1 e
      omega
    have HF := hid hf
    have h0' : decide (t < 0) = true := decide_eq_true h0
    clear hf
    go_enter Tryz.func119, Tryz.ntmps119
    go_wp2_with fail
    go_ret
    exact ⟨by rw [HF.out]; rfl, rfl⟩
  · have h0' : decide (t < 0) = false := decide_eq_false h0
    by_cases h1 : (xs.length : Int) ≤ t
    · have hf : hasB xs t = false := by
        rw [Bool.eq_false_iff]
        intro e
        have := HH.out.1 e
        omega
      have HF := hid hf
      have h1' : decide ((xs.length : Int) ≤ t) = true := decide_eq_true h1
      clear hf
      go_enter Tryz.func119, Tryz.ntmps119
      go_wp2_with fail
      go_ret
      exact ⟨by rw [HF.out]; rfl, rfl⟩
    · have HF := hid (HH.out.2 ⟨by omega, by omega⟩)
      have h1' : decide ((xs.length : Int) ≤ t) = false := decide_eq_false h1
      go_enter Tryz.func119, Tryz.ntmps119
      go_wp2_with fail
      go_ret
      exact ⟨by rw [HF.out]; rfl, rfl⟩
set_option maxHeartbeats 1000000 in
theorem ixf_closed (b : Nat) (A : Option Addr) (n c : Nat) (l : List Int) (h : SpA W G R sp lv uv xs s) (hb : W.cell? ⟨b, 0, none⟩ = some (.pointer (some ⟨sp, 0, none⟩))) (hl : SlA W 1 A n c (l.map (.int .i64))) (hn : n ≤ 2147483648) :
    Calls Tryz.prog 78 #[.slice A n c, .func (.func 119) #[] #[.pointer (some ⟨b, 0, none⟩)]] W fun e w' => (∃ k : Int, e = .returned (.int .i64 k) ∧ decide (0 ≤ k) = !l.all (hasB xs)) ∧ w' = W := by
  have H := hid h; have HB := hid hb; have HS := hid hl; have HL := hid hl.lenI
  clear h hb hl
  go_enter Tryz.func78, Tryz.ntmps78
  go_wp2
  go_loopw [8] (fun i wr => ∃ j : Nat, i = .int .i64 j ∧ j ≤ n ∧ Hid (l.all (hasB xs) = (l.drop j).all (hasB xs)) ∧ wr = W) (fun i _ => n - (intOf i).toNat)
  case atStart => exact ⟨0, rfl, by omega, hid rfl, rfl⟩
  case round =>
    obtain ⟨j, hi, hj, HJ, hw⟩ := hrel
    subst hi; subst hw
    by_cases hlt : j < n
    · obtain ⟨b1, o, z, rfl, hz, hc⟩ := HS.out.elemI hlt
      have HD := hid (drop_get hz); clear hz
      rcases hh : hasB xs z with _ | _
      · have HF := hid (show l.all (hasB xs) = false by rw [HJ.out, HD.out, List.all_cons, hh]; rfl)
        go_wp2_with (go_at_call 119; refine (closed1_any _ G R sp lv uv xs s b z H.out HB.out).mono ?_; rintro e w' ⟨rfl, hw'⟩; subst hw'; rw [hh])
        go_ret
        exact ⟨⟨j, rfl, by rw [HF.out, decide_eq_true (by omega)]; rfl⟩, rfl⟩
      · have HF := hid (show l.all (hasB xs) = (l.drop (j + 1)).all (hasB xs) by rw [HJ.out, HD.out, List.all_cons, hh]; rfl)
        go_wp2_with (go_at_call 119; refine (closed1_any _ G R sp lv uv xs s b z H.out HB.out).mono ?_; rintro e w' ⟨rfl, hw'⟩; subst hw'; rw [hh])
        go_roundw
        case rel => exact ⟨j + 1, by go_num, by omega, HF, by first | rfl | trivial⟩
        case measure => simp [intOf]; omega
    · have HF := hid (show l.all (hasB xs) = true by rw [HJ.out, List.drop_of_length_le (by have := HL.out; omega)]; rfl)
      go_wp2
      go_ret
      exact ⟨⟨-1, rfl, by rw [HF.out]; rfl⟩, rfl⟩
theorem ctf_closed (b : Nat) (A : Option Addr) (n c : Nat) (l : List Int) (h : SpA W G R sp lv uv xs s) (hb : W.cell? ⟨b, 0, none⟩ = some (.pointer (some ⟨sp, 0, none⟩))) (hl : SlA W 1 A n c (l.map (.int .i64))) (hn : n ≤ 2147483648) :
    Calls Tryz.prog 38 #[.slice A n c, .func (.func 119) #[] #[.pointer (some ⟨b, 0, none⟩)]] W fun e w' => e = .returned (.bool (!l.all (hasB xs))) ∧ w' = W := by
  have HX := hid (ixf_closed W G R sp lv uv xs s b A n c l h hb hl hn)
  clear h hb hl
  go_enter Tryz.func38, Tryz.ntmps38
  go_wp2_with fail
  refine HX.out.mono ?_
  rintro e w' ⟨⟨k, rfl, hk⟩, hw⟩
  subst hw
  have HK := hid hk
  clear hk
  go_wp2
  go_ret
  exact ⟨by rw [← HK.out]; rfl, rfl⟩
end
end Go.Proofs.YtfmkniakfgpgjaaGreatDoor

/- deduce: closed. -/
namespace Go.Proofs.YtfmkniakfgpgjaaGreatDoor
open Go.RowKit Go.KK Go.Shelf Go.Maps
set_option linter.unusedVariables false
set_option linter.unusedSimpArgs false

/-- What closed leaves. -/
def ClosedP (W : World) (xs : List ND) (known : List Int) (e : Ending) (w' : World) : Prop :=
  (known.all (hasB xs) = false ∧ e = .returned (.tuple #[.pointer none, .int .i64 1]) ∧ Below W.heap.size W w') ∨
  (known.all (hasB xs) = true ∧ ∃ sp G R lv uv I, e = .returned (.tuple #[.pointer (some ⟨sp, 0, none⟩), .int .i64 0]) ∧ Inv xs known ⟨I, []⟩ ∧ SpA w' G R sp lv uv xs ⟨I, []⟩ ∧ Below W.heap.size W w' ∧ ∀ b, G b → W.heap.size ≤ b)
theorem closed_any (W : World) (st : Nat) (xs : List ND) (A : Option Addr) (n c : Nat) (known : List Int) (hA : ArV W 122 st xs) (hok : Okay xs) (hul : ∀ m, (uses xs m).length ≤ 100000000) (hl : SlA W 1 A n c (known.map (.int .i64))) (hn : n ≤ 1000000) :
    Calls Tryz.prog 70 #[.pointer (some ⟨st, 0, none⟩), .slice A n c] W fun e w' => ClosedP W xs known e w' := by
  have HLK := hid (look_any W st xs hA hok hul)
  have HOK := hid hok; have HUL := hid hul; have HL := hid hl
  clear hA hok hul hl
  go_enter Tryz.func70, Tryz.ntmps70
  go_wp2_with fail
  refine HLK.out.mono ?_
  rintro e w1 ⟨sp, G, R, lv, uv, rfl, hs, hb, hg⟩
  have HS := hid hs; have HB := hid hb; have HG := hid hg
  have B0 := hid (show Below w1.heap.size w1 (w1.alloc (.cells #[.pointer (some ⟨sp, 0, none⟩)] 114)) from (Below.refl _ _).alloc (Nat.le_refl _) _)
  have HB2 := hid (show Below W.heap.size W (w1.alloc (.cells #[.pointer (some ⟨sp, 0, none⟩)] 114)) from hb.trans (B0.out.mono hb.size))
  have HCT := hid (ctf_closed (w1.alloc (.cells #[.pointer (some ⟨sp, 0, none⟩)] 114)) G R sp lv uv xs _ w1.heap.size A n c known (hs.ext B0.out) (by rw [World.cell?_alloc_at _ _ _ _ rfl]; rfl) (HL.out.ext HB2.out) (by omega))
  have HCL := hid (fun (hh : ∀ t ∈ known, hasB xs t = true) => close_any (w1.alloc (.cells #[.pointer (some ⟨sp, 0, none⟩)] 114)) G R sp lv uv xs A n c known (hs.ext B0.out) (keepL_low HL.out HB2.out hg) hh hn HUL.out)
  clear hs hb hg HLK
  go_wp2_with fail
  refine HCT.out.mono ?_
  rintro e w2 ⟨rfl, hw⟩
  subst w2
  rcases hall : known.all (hasB xs) with _ | _
  · have HF := hid hall
    clear hall
    go_wp2_with fail
    first | go_ret2 | go_ret
    exact (show ClosedP _ _ _ _ _ from .inl ⟨HF.out, rfl, HB2.out⟩)
  · have HF := hid hall
    have HCC := hid (HCL.out (List.all_eq_true.1 hall))
    have hc6 : (w1.alloc (.cells #[.pointer (some ⟨sp, 0, none⟩)] 114)).cell? ⟨w1.heap.size, 0, none⟩ = some (.pointer (some ⟨sp, 0, none⟩)) := by rw [World.cell?_alloc_at _ _ _ _ rfl]; rfl
    have HC6 := hid hc6
    clear hall HCL
    go_wp2_with fail
    refine HCC.out.mono ?_
    rintro e w3 ⟨rfl, I, hi, G', hs3, ht3, hg3⟩
    have HI := hid hi; have HS3 := hid hs3
    have HB3 := hid (show Below W.heap.size W w3 from HB2.out.trans (ht3.below HG.out HB2.out.size))
    have HG3 := hid (show ∀ b, G' b → W.heap.size ≤ b from fun b hb => (hg3 b hb).elim (HG.out b) fun h => Nat.le_trans HB2.out.size h)
    have hc7 : w3.cell? ⟨w1.heap.size, 0, none⟩ = some (.pointer (some ⟨sp, 0, none⟩)) := by
      have hlt := block_lt_of_cell hc6
      rw [World.cell?_of_block (a := ⟨w1.heap.size, 0, none⟩) (ht3.block _ hlt fun hh => Nat.lt_irrefl _ (HS.out.glt _ hh))]
      exact hc6
    clear hi hs3 ht3 hg3 hc6
    go_wp2_with fail
    first | go_ret2 | go_ret
    exact (show ClosedP _ _ _ _ _ from .inr ⟨HF.out, sp, G', R, lv, uv, I, rfl, HI.out, HS3.out, HB3.out, HG3.out⟩)
end Go.Proofs.YtfmkniakfgpgjaaGreatDoor

