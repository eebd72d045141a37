/- StoreBack walked: where both requests have records. -/
import Derived.Test.YtdleikgcgbokmaaD2
namespace Go.Proofs.Ytdleikgcgbokmaa
open Go.RowKit Go.KK
set_option linter.unusedVariables false
set_option linter.unusedSimpArgs false

theorem blk_sla2 {w : World} {T : TypeId} (cs : List Value) (hcs : cs.length = 14) (b : Nat) (hb : b = w.heap.size) : SlA (w.alloc (.cells cs.toArray T)) 7 (some ⟨b, 0, none⟩) 2 2 cs := by
  subst hb
  have := (SlA.of_own (World.ownsRow_lit (e := T) (base := 0) (size := 7) w cs.toArray 2 (Nat.zero_le _) (by unfold maxLen; omega) (by simp [hcs]))).2
  simpa using this

set_option maxHeartbeats 4000000 in
theorem back_good (a0 a1 a2 a3 a4 a5 a6 z0 z1 z2 z3 z4 z5 z6 : Int) (A : Option Addr) (n c : Nat) (t : List Int) (w : World) (b d : Bool) (hb : mayR [a0, a1, a2, a3, a4, a5, a6] = b) (hd : mayR [z0, z1, z2, z3, z4, z5, z6] = d) (hbt : b = true) (hdt : d = true) (h : SlA w 1 A n c (t.map (.int .u8))) (hl : ∀ x ∈ t, 0 ≤ x ∧ x < 256) (hn : n ≤ 20000) :
    Calls Try.prog 4 #[.agg #[.int .i64 a0, .int .i64 a1, .int .i64 a2, .int .i64 a3, .int .i64 a4, .int .i64 a5, .int .i64 a6], .agg #[.int .i64 z0, .int .i64 z1, .int .i64 z2, .int .i64 z3, .int .i64 z4, .int .i64 z5, .int .i64 z6], .slice A n c] w fun e w' => e = .returned (.bool true) ∧ Below w.heap.size w w' := by
  obtain ⟨i0, hi, hz0, hz1, hz2⟩ := info_parts Try.infoU8
  have HTN := hid h.lenI
  have HB := hid hb; have HD := hid hd; clear hb hd
  subst hbt; subst hdt
  go_enter Try.func4, Try.ntmps4
  go_wp2_with fail
  refine (live_any _).mono ?_
  rintro e w1 ⟨rfl, hb1⟩
  have hsz1 := hb1.size
  simp only [World.size_alloc] at hsz1
  have hk1 : Blk w1 w.heap.size 23 [.int .i64 a0, .int .i64 a1, .int .i64 a2, .int .i64 a3, .int .i64 a4, .int .i64 a5, .int .i64 a6] := Blk.below (Blk.alloc_old (Blk.new w 23 _) _) hb1 (by simp; omega)
  have hm1 : Blk w1 (w.heap.size + 1) 23 [.int .i64 z0, .int .i64 z1, .int .i64 z2, .int .i64 z3, .int .i64 z4, .int .i64 z5, .int .i64 z6] := Blk.below (by have := Blk.new (w.alloc (.cells #[.int .i64 a0, .int .i64 a1, .int .i64 a2, .int .i64 a3, .int .i64 a4, .int .i64 a5, .int .i64 a6] 23)) 23 [.int .i64 z0, .int .i64 z1, .int .i64 z2, .int .i64 z3, .int .i64 z4, .int .i64 z5, .int .i64 z6]; simpa using this) hb1 (by simp)
  have hw1 : Below w.heap.size w w1 := (((Below.refl _ _).alloc (Nat.le_refl _) _).alloc (by simp) _).trans (hb1.mono (by simp; omega))
  obtain ⟨q0, q1, q2, q3, q4, q5, q6⟩ := cells7 hk1
  clear hb1
  go_wp2_with fail
  refine (record_any _ _ _ _ _ _ _ _).mono ?_
  intro e w2 hpost
  obtain ⟨A2, n2, c2, x2, er, rfl, hs2, hx2, her, hb2⟩ := rec_form HB.out hpost
  have hsz2 := hb2.size
  have hm2 := hm1.below hb2 (by omega)
  have hk2 := hk1.below hb2 (by omega)
  obtain ⟨r0, r1, r2, r3, r4, r5, r6⟩ := cells7 hm2
  clear hpost q0 q1 q2 q3 q4 q5 q6 hk1 hm1
  have HX2 := hid hx2; have HER := hid her; clear hx2 her
  go_wp2_with fail
  refine (record_any _ _ _ _ _ _ _ _).mono ?_
  intro e w3 hpost
  obtain ⟨A3, n3, c3, x3, es, rfl, hs3, hx3, hes, hb3⟩ := rec_form HD.out hpost
  have hsz3 := hb3.size
  have hm3 := hm2.below hb3 (by omega)
  have hk3 := hk2.below hb3 (by omega)
  have hs23 := hs2.ext hb3
  clear hpost r0 r1 r2 r3 r4 r5 r6 hm2 hk2 hs2
  have HW3 := hid (hw1.trans ((hb2.trans (hb3.mono hsz2)).mono (by omega)))
  have HX3 := hid hx3; have HES := hid hes; clear hx3 hes hb2 hb3 hw1
  have he := HER.out
  have hs := HES.out
  simp only [if_true] at he hs
  subst he; subst hs
  have hx2 := HX2.out; have hx3 := HX3.out
  simp only [if_true] at hx2 hx3
  subst hx2; subst hx3
  have hn2 := hs23.lenI; have hn3 := hs3.lenI
  subst hn2; subst hn3
  have hp2 := rcd_pos [a0, a1, a2, a3, a4, a5, a6]
  have hl2 : (rcd [a0, a1, a2, a3, a4, a5, a6]).length ≤ 32 := by have h1 := rcd_len [a0, a1, a2, a3, a4, a5, a6] rfl; have h2 := nbs_bd [a0, a1, a2, a3, a4, a5, a6]; simp only [List.length_cons, List.length_nil] at h2; omega
  have hl3 : (rcd [z0, z1, z2, z3, z4, z5, z6]).length ≤ 32 := by have h1 := rcd_len [z0, z1, z2, z3, z4, z5, z6] rfl; have h2 := nbs_bd [z0, z1, z2, z3, z4, z5, z6]; simp only [List.length_cons, List.length_nil] at h2; omega
  have HT2 := hid (tape_two (l := [a0, a1, a2, a3, a4, a5, a6]) (k := [z0, z1, z2, z3, z4, z5, z6]) rfl HB.out rfl HD.out)
  have HBY2 := hid (rcd_bytes (l := [a0, a1, a2, a3, a4, a5, a6]) rfl HB.out)
  have HBY3 := hid (rcd_bytes (l := [z0, z1, z2, z3, z4, z5, z6]) rfl HD.out)
  have HTC := hid (tape_cut (l := [a0, a1, a2, a3, a4, a5, a6]) rfl)
  clear HX2 HX3 HER HES
  generalize hr2 : rcd [a0, a1, a2, a3, a4, a5, a6] = x2 at *
  generalize hr3 : rcd [z0, z1, z2, z3, z4, z5, z6] = x3 at *
  clear hr2 hr3
  go_wp2_with (first
    | (at_builtin; refine wpList_append_new _ rfl (.const (.slice none 0 0)) _ 24 rfl 5 i0 (.int .u8 0) 1 1 Try.underlying24 hi hz0 hz1 hz2 rfl (by decide) rfl A2 _ c2 _ rfl hs23 (ints_one _ _) (by unfold maxLen; omega) (by omega) ?_; intro v4 w4 hown4 hb4; have hsz4 := hb4.size; have hs34 := hs3.ext hb4)
    | (at_builtin; refine wpList_append_sl _ rfl (.tmp 46) _ 24 rfl w3.heap.size 5 i0 (.int .u8 0) 1 1 Try.underlying24 hi hz0 hz1 hz2 rfl (by decide) _ _ _ rfl hown4 A3 _ c3 _ rfl hs34 (ints_one _ _) (by unfold maxLen; omega) (by omega) hsz4 ?_; intro v5 w5 hown5 hg5 _))
  have hb5 : Below w3.heap.size w3 w5 := below_append hb4 hg5 hown4 (Nat.le_refl _) hsz4
  obtain ⟨A5, c5, rfl, hs5⟩ := SlA.owned hown5
  rw [← List.map_append] at hs5
  have hsz5 := hb5.size
  have hk5 := hk3.below hb5 (by omega)
  have hm5 := hm3.below hb5 (by omega)
  have hs25 := hs23.ext hb5
  have HW5 := hid (HW3.out.trans (hb5.mono (by omega)))
  clear hown4 hown5 hg5 hb4 hb5 hs34 hs23 hs3 hk3 hm3
  refine (read_any _ _ _ (x2 ++ x3) _ hs5 (fun y hy => (List.mem_append.1 hy).elim (HBY2.out y) (HBY3.out y)) (by omega)).mono ?_
  rintro e w6 ⟨ls, p, v6, hT, rfl, hown6, hb6⟩
  obtain ⟨rfl, rfl⟩ := hT.one_only HT2.out
  obtain ⟨A6, c6, rfl, hs6⟩ := SlA.owned hown6
  have hsz6 := hb6.size
  obtain ⟨q0, q1, q2, q3, q4, q5, q6⟩ := cells7 (hk5.below hb6 (by omega))
  obtain ⟨r0, r1, r2, r3, r4, r5, r6⟩ := cells7 (hm5.below hb6 (by omega))
  have hs26 := hs25.ext hb6
  have HW6 := hid (HW5.out.trans (hb6.mono (by omega)))
  clear hown6 hT hb6 hs25 hk5 hm5 hs5
  go_wp2_with (go_at_call 11; fail)
  have hlit : SlA (w6.alloc (.cells #[.int .i64 a0, .int .i64 a1, .int .i64 a2, .int .i64 a3, .int .i64 a4, .int .i64 a5, .int .i64 a6, .int .i64 z0, .int .i64 z1, .int .i64 z2, .int .i64 z3, .int .i64 z4, .int .i64 z5, .int .i64 z6] 23)) 7 (some ⟨w6.heap.size, 0, none⟩) 2 2 (rqc [[a0, a1, a2, a3, a4, a5, a6], [z0, z1, z2, z3, z4, z5, z6]]) := blk_sla2 [.int .i64 a0, .int .i64 a1, .int .i64 a2, .int .i64 a3, .int .i64 a4, .int .i64 a5, .int .i64 a6, .int .i64 z0, .int .i64 z1, .int .i64 z2, .int .i64 z3, .int .i64 z4, .int .i64 z5, .int .i64 z6] rfl _ rfl
  refine (same_any A6 _ 2 c6 2 [[a0, a1, a2, a3, a4, a5, a6], [z0, z1, z2, z3, z4, z5, z6]] [[a0, a1, a2, a3, a4, a5, a6], [z0, z1, z2, z3, z4, z5, z6]] _ (hs6.alloc _) hlit (by simp) (by simp) rfl rfl (by omega)).mono ?_
  rintro e w7 ⟨he7, q7, hw7⟩
  rw [decide_eq_true rfl] at he7
  subst he7
  have HW7 : Hid (Below w.heap.size w w7) := hid (by rw [hw7]; exact below_drewN (HW6.out.alloc (by omega) _) q7)
  have hs27 : SlA w7 1 A2 x2.length c2 (x2.map (.int .u8)) := by rw [hw7]; exact (hs26.alloc _).drewN q7
  clear hlit hw7 q0 q1 q2 q3 q4 q5 q6 r0 r1 r2 r3 r4 r5 r6 hs6 hs26
  have hn20 : ((x2.length : Int) == 0) = false := beq_eq_false_iff_ne.2 (by omega)
  have hn21 : ((x2.length : Int) + (x3.length : Int) != (x2.length : Int) + (x3.length : Int)) = false := by simp
  have hsl0 := run_cut_to (P := Try.prog) (A := A2) (n := x2.length) (c := c2) Try.underlying24 (fun W => Try.sizeOf5 W) (p := x2.length - 1) (by have := hs27.nc; omega)
  rw [show ((x2.length - 1 : Nat) : Int) = (x2.length : Int) - 1 by omega] at hsl0
  have hstt := sla_to hs27 (p := x2.length - 1) (by omega)
  rw [← List.map_take] at hstt
  go_wp2_with (go_at_call 9; fail)
  refine (read_any _ _ _ (x2.take (x2.length - 1)) _ hstt (fun y hy => HBY2.out y (List.mem_of_mem_take hy)) (by omega)).mono ?_
  rintro e w17 ⟨ls', p', v17, hT', rfl, hown17, hb17⟩
  obtain ⟨rfl, rfl⟩ := hT'.one_only HTC.out
  obtain ⟨A17, c17, rfl, hs17⟩ := SlA.owned hown17
  have hsz7 := HW7.out.size
  have HW17 := hid (HW7.out.trans (hb17.mono hsz7))
  clear hown17 hT' hb17 hstt hs27 hs17 hsl0
  go_wp2_with fail
  refine (read_any _ _ _ t _ (h.ext HW17.out) hl (by omega)).mono ?_
  rintro e w8 ⟨ls, p, v8, hT, rfl, hown8, hb8⟩
  obtain ⟨A8, c8, rfl, hs8⟩ := SlA.owned hown8
  have hsz8 := hb8.size
  obtain ⟨g1, g2⟩ := tape_back hl hT
  obtain ⟨g7, gp, gl⟩ := tape_7 hl hT
  rw [HTN.out] at gp
  have G1 := hid g1; have G2 := hid g2; have G7 := hid g7
  have hsz0 := HW17.out.size
  have HW8 := hid (HW17.out.trans (hb8.mono hsz0))
  have hcat : (catR ls ls.length).length ≤ n := by rw [g2, List.length_take, HTN.out]; omega
  clear hown8 hb8 hT g1 g2 g7
  go_wp2_with fail
  go_loopw [18, 20, 21, 22, 95] (fun v _ _ _ i wr => ∃ j : Nat, j ≤ ls.length ∧ i = .int .i64 (j : Nat) ∧ wr.ownsRow w8.heap.size 5 1 v (catR ls j).length ((catR ls j).map (.int .u8)) ∧ Below w8.heap.size w8 wr) (fun _ _ _ _ i _ => ls.length - (intOf i).toNat)
  case atStart => exact ⟨0, by omega, by simp, by simpa [catR] using World.ownsRow_nil _ _ _ _, Below.refl _ _⟩
  case round =>
    obtain ⟨j, hj, hi', hown, hbr⟩ := hrel
    subst hi'
    have hszr := hbr.size
    by_cases hlt : j < ls.length
    · obtain ⟨b9, o9, y0, y1, y2, y3, y4, y5, y6, rfl, hlj, k0, k1, k2, k3, k4, k5, k6⟩ := req_cells (hs8.ext hbr) G7.out rfl hlt
      have hmay : mayR [y0, y1, y2, y3, y4, y5, y6] = true := G1.out _ (List.mem_of_getElem? hlj)
      have HC := hid (catR_succ hlj)
      have hle := catR_le ls (j + 1)
      have hle2 : (catR ls j).length + (rcd [y0, y1, y2, y3, y4, y5, y6]).length ≤ n := by rw [HC.out, List.length_append] at hle; omega
      have HM := hid hmay
      clear hlj hmay hle
      go_wp2_with (first
        | (go_at_call 7; refine (record_any y0 y1 y2 y3 y4 y5 y6 _).mono ?_; intro e w9 hpost; obtain ⟨A9, n9, c9, x9, e9, rfl, hs9, hx9, he9, hb9⟩ := rec_form HM.out hpost; clear hpost; simp only [if_true] at hx9 he9; subst he9; subst hx9; have hsz9 := hb9.size; simp only [World.size_alloc] at hsz9; have hn9 := hs9.lenI; subst hn9; have hown9 := own_ext (hown.alloc _) hb9)
        | (at_builtin; refine wpList_append_sl _ rfl _ _ 24 rfl w8.heap.size 5 i0 (.int .u8 0) 1 1 Try.underlying24 hi hz0 hz1 hz2 rfl (by decide) _ _ _ rfl hown9 A9 _ c9 _ rfl hs9 (ints_one _ _) (by unfold maxLen; omega) (by omega) (by omega) ?_; intro v10 w10 hown10 hg10 _))
      go_roundw
      case rel =>
        refine ⟨j + 1, by omega, by go_num, ?_, below_append ((hbr.alloc (by omega) _).trans (hb9.mono (by simp; omega))) hg10 hown9 (Nat.le_refl _) (by omega)⟩
        rw [HC.out, List.length_append, List.map_append]
        exact hown10
      case measure => simp [intOf]; omega
    · have hje : j = ls.length := by omega
      have HJ := hid hje; clear hje
      obtain ⟨A10, c10, rfl, hs10⟩ := SlA.owned hown
      have hcv1 := fun k => run_str_slN (P := Try.prog) wr 24 9 5 Try.underlying24 Try.underlying5 Try.underlying9 A10 _ c10 (catR ls j) hs10 k
      have hst := sla_to (h.ext (HW8.out.trans (hbr.mono (by omega)))) gp
      rw [← List.map_take] at hst
      have hcv2 := fun k => run_str_slN (P := Try.prog) wr 24 9 5 Try.underlying24 Try.underlying5 Try.underlying9 A p c (t.take p) hst k
      have heq : strOfNums (catR ls j) = strOfNums (t.take p) := by rw [HJ.out, G2.out]
      rw [heq] at hcv1
      have hsl := run_cut_to (P := Try.prog) (A := A) (n := n) (c := c) Try.underlying24 (fun W => Try.sizeOf5 W) (p := p) (by have := h.nc; omega)
      have HWR := hid (HW8.out.trans (hbr.mono (by omega)))
      clear heq hown hbr hs10 hst hs8
      have hp0 : decide ((0 : Int) ≤ (p : Int)) = true := by simp
      have hp1 : decide ((p : Int) ≤ (n : Int)) = true := by simp; omega
      have hp2 : decide (p ≤ n) = true := by simp; omega
      go_wp2
      go_quiet (fail)
      go_wp2
      go_ret
      exact ⟨by simp, below_drewN HWR.out _⟩

/-- StoreBack, walked. -/
theorem back_any (a0 a1 a2 a3 a4 a5 a6 z0 z1 z2 z3 z4 z5 z6 : Int) (A : Option Addr) (n c : Nat) (t : List Int) (w : World) (h : SlA w 1 A n c (t.map (.int .u8))) (hl : ∀ x ∈ t, 0 ≤ x ∧ x < 256) :
    Calls Try.prog 4 #[.agg #[.int .i64 a0, .int .i64 a1, .int .i64 a2, .int .i64 a3, .int .i64 a4, .int .i64 a5, .int .i64 a6], .agg #[.int .i64 z0, .int .i64 z1, .int .i64 z2, .int .i64 z3, .int .i64 z4, .int .i64 z5, .int .i64 z6], .slice A n c] w fun e w' => e = .returned (.bool true) ∧ Below w.heap.size w w' := by
  by_cases hn : 20000 < n
  · exact back_long _ _ _ _ _ _ _ _ _ _ _ _ _ _ A n c w hn
  · rcases hb : mayR [a0, a1, a2, a3, a4, a5, a6] with _ | _
    · exact back_bad _ _ _ _ _ _ _ _ _ _ _ _ _ _ A n c t w _ _ hb rfl (.inl rfl) h hl (by omega)
    · rcases hd : mayR [z0, z1, z2, z3, z4, z5, z6] with _ | _
      · exact back_bad _ _ _ _ _ _ _ _ _ _ _ _ _ _ A n c t w _ _ hb hd (.inr rfl) h hl (by omega)
      · exact back_good _ _ _ _ _ _ _ _ _ _ _ _ _ _ A n c t w _ _ hb hd rfl rfl h hl (by omega)

end Go.Proofs.Ytdleikgcgbokmaa
