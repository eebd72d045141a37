/- StoreBack walked: where not both requests have records. -/
import Derived.Test.YtdleikgcgbokmaaD1
import Derived.Test.YtdleikgcgbokmaaB8
namespace Go.Proofs.Ytdleikgcgbokmaa
open Go.RowKit Go.KK
set_option linter.unusedVariables false
set_option linter.unusedSimpArgs false

set_option maxHeartbeats 1000000 in
theorem back_long (a0 a1 a2 a3 a4 a5 a6 z0 z1 z2 z3 z4 z5 z6 : Int) (A : Option Addr) (n c : Nat) (w : World) (hn : 20000 < n) :
    Calls Try.prog 4 #[.agg #[.int .i64 a0, .int .i64 a1, .int .i64 a2, .int .i64 a3, .int .i64 a4, .int .i64 a5, .int .i64 a6], .agg #[.int .i64 z0, .int .i64 z1, .int .i64 z2, .int .i64 z3, .int .i64 z4, .int .i64 z5, .int .i64 z6], .slice A n c] w fun e w' => e = .returned (.bool true) ∧ Below w.heap.size w w' := by
  go_enter Try.func4, Try.ntmps4
  go_wp2_with (go_at_call 6; refine (live_any _).mono ?_; rintro e w1 ⟨rfl, hb1⟩)
  go_ret
  exact ⟨rfl, (((Below.refl _ _).alloc (Nat.le_refl _) _).alloc (by simp) _).trans (hb1.mono (by simp; omega))⟩

set_option maxHeartbeats 4000000 in
theorem back_bad (a0 a1 a2 a3 a4 a5 a6 z0 z1 z2 z3 z4 z5 z6 : Int) (A : Option Addr) (n c : Nat) (t : List Int) (w : World) (b d : Bool) (hb : mayR [a0, a1, a2, a3, a4, a5, a6] = b) (hd : mayR [z0, z1, z2, z3, z4, z5, z6] = d) (hbd : b = false ∨ d = false) (h : SlA w 1 A n c (t.map (.int .u8))) (hl : ∀ x ∈ t, 0 ≤ x ∧ x < 256) (hn : n ≤ 20000) :
    Calls Try.prog 4 #[.agg #[.int .i64 a0, .int .i64 a1, .int .i64 a2, .int .i64 a3, .int .i64 a4, .int .i64 a5, .int .i64 a6], .agg #[.int .i64 z0, .int .i64 z1, .int .i64 z2, .int .i64 z3, .int .i64 z4, .int .i64 z5, .int .i64 z6], .slice A n c] w fun e w' => e = .returned (.bool true) ∧ Below w.heap.size w w' := by
  obtain ⟨i0, hi, hz0, hz1, hz2⟩ := info_parts Try.infoU8
  have HTN := hid h.lenI
  have HB := hid hb; have HD := hid hd; have HBD := hid hbd; clear hb hd hbd
  go_enter Try.func4, Try.ntmps4
  go_wp2_with fail
  refine (live_any _).mono ?_
  rintro e w1 ⟨rfl, hb1⟩
  have hsz1 := hb1.size
  simp only [World.size_alloc] at hsz1
  have hk1 : Blk w1 w.heap.size 23 [.int .i64 a0, .int .i64 a1, .int .i64 a2, .int .i64 a3, .int .i64 a4, .int .i64 a5, .int .i64 a6] := Blk.below (Blk.alloc_old (Blk.new w 23 _) _) hb1 (by simp; omega)
  have hm1 : Blk w1 (w.heap.size + 1) 23 [.int .i64 z0, .int .i64 z1, .int .i64 z2, .int .i64 z3, .int .i64 z4, .int .i64 z5, .int .i64 z6] := Blk.below (by have := Blk.new (w.alloc (.cells #[.int .i64 a0, .int .i64 a1, .int .i64 a2, .int .i64 a3, .int .i64 a4, .int .i64 a5, .int .i64 a6] 23)) 23 [.int .i64 z0, .int .i64 z1, .int .i64 z2, .int .i64 z3, .int .i64 z4, .int .i64 z5, .int .i64 z6]; simpa using this) hb1 (by simp)
  have hw1 : Below w.heap.size w w1 := (((Below.refl _ _).alloc (Nat.le_refl _) _).alloc (by simp) _).trans (hb1.mono (by simp; omega))
  obtain ⟨q0, q1, q2, q3, q4, q5, q6⟩ := cells7 hk1
  clear hb1
  go_wp2_with fail
  refine (record_any _ _ _ _ _ _ _ _).mono ?_
  intro e w2 hpost
  obtain ⟨A2, n2, c2, x2, er, rfl, hs2, hx2, her, hb2⟩ := rec_form HB.out hpost
  have hsz2 := hb2.size
  have hm2 := hm1.below hb2 (by omega)
  have hk2 := hk1.below hb2 (by omega)
  obtain ⟨r0, r1, r2, r3, r4, r5, r6⟩ := cells7 hm2
  clear hpost q0 q1 q2 q3 q4 q5 q6 hk1 hm1
  have HX2 := hid hx2; have HER := hid her; clear hx2 her
  go_wp2_with fail
  refine (record_any _ _ _ _ _ _ _ _).mono ?_
  intro e w3 hpost
  obtain ⟨A3, n3, c3, x3, es, rfl, hs3, hx3, hes, hb3⟩ := rec_form HD.out hpost
  have hsz3 := hb3.size
  have hm3 := hm2.below hb3 (by omega)
  have hk3 := hk2.below hb3 (by omega)
  have hs23 := hs2.ext hb3
  clear hpost r0 r1 r2 r3 r4 r5 r6 hm2 hk2 hs2
  have HW3 := hid (hw1.trans ((hb2.trans (hb3.mono hsz2)).mono (by omega)))
  have HX3 := hid hx3; have HES := hid hes; clear hx3 hes hb2 hb3 hw1
  have he := HER.out
  have hs := HES.out
  clear hs23 hs3 hm3 hk3
  rcases b with _ | _
  · simp only [Bool.false_eq_true, if_false] at he
    subst he
    clear hs HER
    go_wp2_with fail
    refine (read_any _ _ _ t _ (h.ext HW3.out) hl (by omega)).mono ?_
    rintro e w8 ⟨ls, p, v8, hT, rfl, hown8, hb8⟩
    obtain ⟨A8, c8, rfl, hs8⟩ := SlA.owned hown8
    have hsz8 := hb8.size
    obtain ⟨g1, g2⟩ := tape_back hl hT
    obtain ⟨g7, gp, gl⟩ := tape_7 hl hT
    rw [HTN.out] at gp
    have G1 := hid g1; have G2 := hid g2; have G7 := hid g7
    have hsz0 := HW3.out.size
    have HW8 := hid (HW3.out.trans (hb8.mono hsz0))
    have hcat : (catR ls ls.length).length ≤ n := by rw [g2, List.length_take, HTN.out]; omega
    clear hown8 hb8 hT g1 g2 g7
    go_wp2_with fail
    go_loopw [18, 20, 21, 22, 95] (fun v _ _ _ i wr => ∃ j : Nat, j ≤ ls.length ∧ i = .int .i64 (j : Nat) ∧ wr.ownsRow w8.heap.size 5 1 v (catR ls j).length ((catR ls j).map (.int .u8)) ∧ Below w8.heap.size w8 wr) (fun _ _ _ _ i _ => ls.length - (intOf i).toNat)
    case atStart => exact ⟨0, by omega, by simp, by simpa [catR] using World.ownsRow_nil _ _ _ _, Below.refl _ _⟩
    case round =>
      obtain ⟨j, hj, hi', hown, hbr⟩ := hrel
      subst hi'
      have hszr := hbr.size
      by_cases hlt : j < ls.length
      · obtain ⟨b9, o9, y0, y1, y2, y3, y4, y5, y6, rfl, hlj, k0, k1, k2, k3, k4, k5, k6⟩ := req_cells (hs8.ext hbr) G7.out rfl hlt
        have hmay : mayR [y0, y1, y2, y3, y4, y5, y6] = true := G1.out _ (List.mem_of_getElem? hlj)
        have HC := hid (catR_succ hlj)
        have hle := catR_le ls (j + 1)
        have hle2 : (catR ls j).length + (rcd [y0, y1, y2, y3, y4, y5, y6]).length ≤ n := by rw [HC.out, List.length_append] at hle; omega
        have HM := hid hmay
        clear hlj hmay hle
        go_wp2_with (first
          | (go_at_call 7; refine (record_any y0 y1 y2 y3 y4 y5 y6 _).mono ?_; intro e w9 hpost; obtain ⟨A9, n9, c9, x9, e9, rfl, hs9, hx9, he9, hb9⟩ := rec_form HM.out hpost; clear hpost; simp only [if_true] at hx9 he9; subst he9; subst hx9; have hsz9 := hb9.size; simp only [World.size_alloc] at hsz9; have hn9 := hs9.lenI; subst hn9; have hown9 := own_ext (hown.alloc _) hb9)
          | (at_builtin; refine wpList_append_sl _ rfl _ _ 24 rfl w8.heap.size 5 i0 (.int .u8 0) 1 1 Try.underlying24 hi hz0 hz1 hz2 rfl (by decide) _ _ _ rfl hown9 A9 _ c9 _ rfl hs9 (ints_one _ _) (by unfold maxLen; omega) (by omega) (by omega) ?_; intro v10 w10 hown10 hg10 _))
        go_roundw
        case rel =>
          refine ⟨j + 1, by omega, by go_num, ?_, below_append ((hbr.alloc (by omega) _).trans (hb9.mono (by simp; omega))) hg10 hown9 (Nat.le_refl _) (by omega)⟩
          rw [HC.out, List.length_append, List.map_append]
          exact hown10
        case measure => simp [intOf]; omega
      · have hje : j = ls.length := by omega
        have HJ := hid hje; clear hje
        obtain ⟨A10, c10, rfl, hs10⟩ := SlA.owned hown
        have hcv1 := fun k => run_str_slN (P := Try.prog) wr 24 9 5 Try.underlying24 Try.underlying5 Try.underlying9 A10 _ c10 (catR ls j) hs10 k
        have hst := sla_to (h.ext (HW8.out.trans (hbr.mono (by omega)))) gp
        rw [← List.map_take] at hst
        have hcv2 := fun k => run_str_slN (P := Try.prog) wr 24 9 5 Try.underlying24 Try.underlying5 Try.underlying9 A p c (t.take p) hst k
        have heq : strOfNums (catR ls j) = strOfNums (t.take p) := by rw [HJ.out, G2.out]
        rw [heq] at hcv1
        have hsl := run_cut_to (P := Try.prog) (A := A) (n := n) (c := c) Try.underlying24 (fun W => Try.sizeOf5 W) (p := p) (by have := h.nc; omega)
        have HWR := hid (HW8.out.trans (hbr.mono (by omega)))
        clear heq hown hbr hs10 hst hs8
        have hp0 : decide ((0 : Int) ≤ (p : Int)) = true := by simp
        have hp1 : decide ((p : Int) ≤ (n : Int)) = true := by simp; omega
        have hp2 : decide (p ≤ n) = true := by simp; omega
        go_wp2
        go_quiet (fail)
        go_wp2
        go_ret
        exact ⟨by simp, below_drewN HWR.out _⟩
  · rcases d with _ | _
    · simp only [Bool.false_eq_true, if_false, if_true] at he hs
      subst he; subst hs
      go_wp2_with fail
      refine (read_any _ _ _ t _ (h.ext HW3.out) hl (by omega)).mono ?_
      rintro e w8 ⟨ls, p, v8, hT, rfl, hown8, hb8⟩
      obtain ⟨A8, c8, rfl, hs8⟩ := SlA.owned hown8
      have hsz8 := hb8.size
      obtain ⟨g1, g2⟩ := tape_back hl hT
      obtain ⟨g7, gp, gl⟩ := tape_7 hl hT
      rw [HTN.out] at gp
      have G1 := hid g1; have G2 := hid g2; have G7 := hid g7
      have hsz0 := HW3.out.size
      have HW8 := hid (HW3.out.trans (hb8.mono hsz0))
      have hcat : (catR ls ls.length).length ≤ n := by rw [g2, List.length_take, HTN.out]; omega
      clear hown8 hb8 hT g1 g2 g7
      go_wp2_with fail
      go_loopw [18, 20, 21, 22, 95] (fun v _ _ _ i wr => ∃ j : Nat, j ≤ ls.length ∧ i = .int .i64 (j : Nat) ∧ wr.ownsRow w8.heap.size 5 1 v (catR ls j).length ((catR ls j).map (.int .u8)) ∧ Below w8.heap.size w8 wr) (fun _ _ _ _ i _ => ls.length - (intOf i).toNat)
      case atStart => exact ⟨0, by omega, by simp, by simpa [catR] using World.ownsRow_nil _ _ _ _, Below.refl _ _⟩
      case round =>
        obtain ⟨j, hj, hi', hown, hbr⟩ := hrel
        subst hi'
        have hszr := hbr.size
        by_cases hlt : j < ls.length
        · obtain ⟨b9, o9, y0, y1, y2, y3, y4, y5, y6, rfl, hlj, k0, k1, k2, k3, k4, k5, k6⟩ := req_cells (hs8.ext hbr) G7.out rfl hlt
          have hmay : mayR [y0, y1, y2, y3, y4, y5, y6] = true := G1.out _ (List.mem_of_getElem? hlj)
          have HC := hid (catR_succ hlj)
          have hle := catR_le ls (j + 1)
          have hle2 : (catR ls j).length + (rcd [y0, y1, y2, y3, y4, y5, y6]).length ≤ n := by rw [HC.out, List.length_append] at hle; omega
          have HM := hid hmay
          clear hlj hmay hle
          go_wp2_with (first
            | (go_at_call 7; refine (record_any y0 y1 y2 y3 y4 y5 y6 _).mono ?_; intro e w9 hpost; obtain ⟨A9, n9, c9, x9, e9, rfl, hs9, hx9, he9, hb9⟩ := rec_form HM.out hpost; clear hpost; simp only [if_true] at hx9 he9; subst he9; subst hx9; have hsz9 := hb9.size; simp only [World.size_alloc] at hsz9; have hn9 := hs9.lenI; subst hn9; have hown9 := own_ext (hown.alloc _) hb9)
            | (at_builtin; refine wpList_append_sl _ rfl _ _ 24 rfl w8.heap.size 5 i0 (.int .u8 0) 1 1 Try.underlying24 hi hz0 hz1 hz2 rfl (by decide) _ _ _ rfl hown9 A9 _ c9 _ rfl hs9 (ints_one _ _) (by unfold maxLen; omega) (by omega) (by omega) ?_; intro v10 w10 hown10 hg10 _))
          go_roundw
          case rel =>
            refine ⟨j + 1, by omega, by go_num, ?_, below_append ((hbr.alloc (by omega) _).trans (hb9.mono (by simp; omega))) hg10 hown9 (Nat.le_refl _) (by omega)⟩
            rw [HC.out, List.length_append, List.map_append]
            exact hown10
          case measure => simp [intOf]; omega
        · have hje : j = ls.length := by omega
          have HJ := hid hje; clear hje
          obtain ⟨A10, c10, rfl, hs10⟩ := SlA.owned hown
          have hcv1 := fun k => run_str_slN (P := Try.prog) wr 24 9 5 Try.underlying24 Try.underlying5 Try.underlying9 A10 _ c10 (catR ls j) hs10 k
          have hst := sla_to (h.ext (HW8.out.trans (hbr.mono (by omega)))) gp
          rw [← List.map_take] at hst
          have hcv2 := fun k => run_str_slN (P := Try.prog) wr 24 9 5 Try.underlying24 Try.underlying5 Try.underlying9 A p c (t.take p) hst k
          have heq : strOfNums (catR ls j) = strOfNums (t.take p) := by rw [HJ.out, G2.out]
          rw [heq] at hcv1
          have hsl := run_cut_to (P := Try.prog) (A := A) (n := n) (c := c) Try.underlying24 (fun W => Try.sizeOf5 W) (p := p) (by have := h.nc; omega)
          have HWR := hid (HW8.out.trans (hbr.mono (by omega)))
          clear heq hown hbr hs10 hst hs8
          have hp0 : decide ((0 : Int) ≤ (p : Int)) = true := by simp
          have hp1 : decide ((p : Int) ≤ (n : Int)) = true := by simp; omega
          have hp2 : decide (p ≤ n) = true := by simp; omega
          go_wp2
          go_quiet (fail)
          go_wp2
          go_ret
          exact ⟨by simp, below_drewN HWR.out _⟩
    · have := HBD.out
      simp at this

end Go.Proofs.Ytdleikgcgbokmaa
