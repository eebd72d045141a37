import Derived.Test.YtfmkniakfgpgjaaDoorY12
import Derived.Test.YtfmkniakfgpgjaaDoorY08
import Derived.Test.YtfmkniakfgpgjaaDoorY09
/- the document's token layer: Issue. -/
namespace Go.Proofs.YtfmkniakfgpgjaaDoor
open Go.RowKit Go.KK Go.Shelf Go.Maps
set_option linter.unusedVariables false
set_option linter.unusedSimpArgs false

theorem had_one (g : List (Int × Int)) (w : Int) : hadF g [w] = cntF g w := by unfold hadF; simp
/-- The counts ahead of a name, and those behind it. -/
def ltF (g : List (Int × Int)) (w : Int) : List (Int × Int) := g.filter fun c => decide (c.1 < w)
def gtF (g : List (Int × Int)) (w : Int) : List (Int × Int) := g.filter fun c => decide (w < c.1)
theorem ltF_take {g : List (Int × Int)} {j : Nat} {c : Int × Int} (h : g[j]? = some c) (w : Int) : ltF (g.take (j + 1)) w = ltF (g.take j) w ++ (if c.1 < w then [c] else []) := by
  unfold ltF
  rw [List.take_add_one, h, List.filter_append]
  by_cases hc : c.1 < w <;> simp [hc]
theorem gtF_take {g : List (Int × Int)} {j : Nat} {c : Int × Int} (h : g[j]? = some c) (w : Int) : gtF (g.take (j + 1)) w = gtF (g.take j) w ++ (if w < c.1 then [c] else []) := by
  unfold gtF
  rw [List.take_add_one, h, List.filter_append]
  by_cases hc : w < c.1 <;> simp [hc]
theorem ltF_len (g : List (Int × Int)) (w : Int) : (ltF g w).length ≤ g.length := List.length_filter_le ..
theorem gtF_len (g : List (Int × Int)) (w : Int) : (gtF g w).length ≤ g.length := List.length_filter_le ..
theorem gt_lo {g : List (Int × Int)} {w : Int} (h : ∀ d ∈ g, w < d.1) : ltF g w = [] ∧ gtF g w = g := by
  unfold ltF gtF
  refine ⟨List.filter_eq_nil_iff.2 fun d hd => ?_, List.filter_eq_self.2 fun d hd => ?_⟩
  · have := h d hd; simp; omega
  · have := h d hd; simp; omega
/-- One more for a name: what is ahead of it, it, what is behind it. -/
theorem inc_lg : ∀ {g : List (Int × Int)} (w : Int), CtS g → incR g w = ltF g w ++ (w, cntF g w + 1) :: gtF g w
  | [], w, _ => rfl
  | c :: g, w, h => by
    obtain ⟨h1, h2⟩ := List.pairwise_cons.1 h
    have ih := inc_lg w h2
    unfold incR
    by_cases hc : c.1 < w
    · rw [if_pos hc, ih, cnt_cons, if_neg (by omega)]
      have e1 : ltF (c :: g) w = c :: ltF g w := by unfold ltF; rw [List.filter_cons, if_pos (by simpa using hc)]
      have e2 : gtF (c :: g) w = gtF g w := by unfold gtF; rw [List.filter_cons, if_neg (by simp; omega)]
      rw [e1, e2]; rfl
    · rw [if_neg hc]
      have hg : ∀ d ∈ g, w < d.1 := fun d hd => by have := h1 d hd; omega
      obtain ⟨g1, g2⟩ := gt_lo hg
      have e1 : ltF (c :: g) w = ltF g w := by unfold ltF; rw [List.filter_cons, if_neg (by simpa using hc)]
      by_cases he : c.1 = w
      · have e2 : gtF (c :: g) w = gtF g w := by unfold gtF; rw [List.filter_cons, if_neg (by simp; omega)]
        rw [if_pos he, e1, e2, g1, g2, cnt_cons, if_pos he]; rfl
      · have e2 : gtF (c :: g) w = c :: gtF g w := by unfold gtF; rw [List.filter_cons, if_pos (by simp; omega)]
        have e3 : cntF (c :: g) w = 0 := cnt_no (is_gt fun d hd => by
          rcases List.mem_cons.1 hd with rfl | hd
          · omega
          · exact hg d hd)
        rw [if_neg he, e1, e2, g1, g2, e3]; rfl
theorem sla_cnt {w : World} {T : TypeId} {k : Nat} (hk : k = w.heap.size) (a b : Value) : SlA (w.alloc (.cells #[a, b] T)) 2 (some ⟨k, 0, none⟩) 1 1 [a, b] := by
  subst hk
  exact (SlA.of_own (e := T) (base := 0) ⟨rfl, .inr ⟨w.heap.size, 1, #[a, b], rfl, Nat.zero_le _, heap_alloc_new w _, Nat.le_refl _, by decide, rfl, rfl⟩⟩).2
/-- What the document's Issue leaves. -/
def IsQ (w0 w : World) (Z : Nat → Prop) (sb : Nat) (r : List ND × Int × MT × Int) (e : Ending) (w' : World) : Prop :=
  ∃ Z' g p, e = .returned (.tuple #[.int .i64 r.2.1, mtV r.2.2.1 g p, .int .i64 r.2.2.2]) ∧ LQ w0 w' Z' sb r.1 ∧ Mv Z w Z' w' ∧ MtR w' Z' r.2.2.1 g p ∧ NewV w g p
theorem isq_no {w0 w w' : World} {Z Z' : Nat → Prop} {sb : Nat} {ys : List ND} {e : Int} (l : LQ w0 w' Z' sb ys) (m : Mv Z w Z' w') : IsQ w0 w Z sb (ys, 0, mt0, e) (.returned (.tuple #[.int .i64 0, .agg #[.int .i64 0, .int .i64 0, .slice none 0 0, .slice none 0 0], .int .i64 e])) w' :=
  ⟨Z', .slice none 0 0, .slice none 0 0, rfl, l, m, MtR.mt _ _ _ _, newV_nil _ _ _ _ _⟩
theorem has_mv {o : Obj} {b : Nat} {W W' : World} {Z Z' : Nat → Prop} (h : HasO o b W) (m : Mv Z W Z' W') (hz : ¬ Z b) : HasO o b W' := (m.t.block b h.lt hz).trans h
theorem lq_set {w0 V : World} {Z : Nat → Prop} {sb : Nat} {ys : List ND} (h : LQ w0 V Z sb ys) {b : Nat} (hz : ¬ Z b) (hb : w0.heap.size ≤ b) (o : Nat) (v : Value) : LQ w0 (V.setCell ⟨b, o, none⟩ v) Z sb ys :=
  ⟨h.ar.turn (Turn.setCell (F := fun k => k = b) v (.inl rfl)) (fun k hk e => hz (e ▸ hk)), h.z, h.bl.setCell hb v⟩
theorem mv_set {Z Z' : Nat → Prop} {W V : World} (m : Mv Z W Z' V) {b : Nat} (hb : W.heap.size ≤ b) (o : Nat) (v : Value) : Mv Z W Z' (V.setCell ⟨b, o, none⟩ v) :=
  ⟨m.t.trans (Turn.setCell (F := fun k => k = b) v (.inl rfl)) (fun k e => .inr (e ▸ hb)), m.n⟩
theorem zbox {w0 W : World} {Z : Nat → Prop} {sb : Nat} {ys : List ND} (h : LQ w0 W Z sb ys) {b : Nat} (hb : W.heap.size ≤ b) : ¬ Z b := fun hz => by have := h.ar.zlt b hz; omega
section
variable {w0 W W' : World} {Z Z' : Nat → Prop} {sb : Nat} {ys ys' : List ND}
set_option maxHeartbeats 4000000 in
set_option maxRecDepth 100000 in
theorem rissue_any (h : LQ w0 W Z sb ys) (m : MT) (g p : Value) (hm : MtR W Z m g p) (ho : MtO m) (who asked : Int) (hw : I64 who) :
    Calls Tryd.prog 15 #[.pointer (some ⟨sb, 0, none⟩), .agg #[.int .i64 m.k, .int .i64 m.q, g, p], .int .i64 who, .int .i64 asked] W (IsQ w0 W Z sb (issF ys m who asked)) := by
  have HM := hid hm
  obtain ⟨Ag, cg, Ap, cp, rfl, rfl, -, -⟩ := hm
  have H := hid h; have HO := hid ho
  have ok := h.ar.ok
  obtain ⟨i0, hi, hz0, hz1, hz2⟩ := info_parts infoC
  have hb : Below W.heap.size W ((W.alloc (.cells #[.int .i64 m.k, .int .i64 m.q, .slice Ag m.g.length cg, .slice Ap m.p.length cp] 31)).alloc (.cells #[.int .i64 0, .int .i64 0, .slice none 0 0, .slice none 0 0] 31)) := ((Below.refl _ _).alloc (Nat.le_refl _) _).alloc (by simp) _
  have hx0 : HasO (.cells #[.int .i64 m.k, .int .i64 m.q, .slice Ag m.g.length cg, .slice Ap m.p.length cp] 31 (0, 0)) W.heap.size ((W.alloc (.cells #[.int .i64 m.k, .int .i64 m.q, .slice Ag m.g.length cg, .slice Ap m.p.length cp] 31)).alloc (.cells #[.int .i64 0, .int .i64 0, .slice none 0 0, .slice none 0 0] 31)) := (HasO.new _ _).alloc
  have hx1 : HasO (.cells #[.int .i64 0, .int .i64 0, .slice none 0 0, .slice none 0 0] 31 (0, 0)) (W.heap.size + 1) ((W.alloc (.cells #[.int .i64 m.k, .int .i64 m.q, .slice Ag m.g.length cg, .slice Ap m.p.length cp] 31)).alloc (.cells #[.int .i64 0, .int .i64 0, .slice none 0 0, .slice none 0 0] 31)) := HasO.new' (by simp)
  have HS := hid (And.intro hb (And.intro hx0 hx1))
  have HF := hid (show issF ys m who asked = if hasB ys who && hasB ys asked && (nodeF ys asked).o == 12 then (if m.q ≤ cntF m.g who then (ys, 0, mt0, 82) else if makE ys (ndN 10 [m.k, asked]) == 0 then (makT ys (ndN 10 [m.k, asked]), makI ys (ndN 10 [m.k, asked]), ⟨m.k, m.q, incF m.g who, m.p⟩, 0) else (makT ys (ndN 10 [m.k, asked]), 0, mt0, makE ys (ndN 10 [m.k, asked]))) else (ys, 0, mt0, 1) from rfl)
  clear h ho hb hx0 hx1
  go_enter Tryd.func15, Tryd.ntmps15
  go_upto_region 1 with fail
  refine forget (R := fun V => Below W.heap.size W V ∧ HasO (.cells #[.int .i64 m.k, .int .i64 m.q, .slice Ag m.g.length cg, .slice Ap m.p.length cp] 31 (0, 0)) W.heap.size V ∧ HasO (.cells #[.int .i64 0, .int .i64 0, .slice none 0 0, .slice none 0 0] 31 (0, 0)) (W.heap.size + 1) V) ?_ HS.out
  clear HS
  rintro V ⟨hb, h0, h1⟩
  have HB := hid (hb.alloc hb.size (.cells #[.int .i64 who, .int .i64 asked] 3)); have H0 := hid (h0.alloc (o' := .cells #[.int .i64 who, .int .i64 asked] 3)); have H1 := hid (h1.alloc (o' := .cells #[.int .i64 who, .int .i64 asked] 3))
  clear hb h0 h1
  have HK := hid (rterm_any sb (V.alloc (.cells #[.int .i64 who, .int .i64 asked] 3)) (some ⟨V.heap.size, 0, none⟩) 2 2 [who, asked] (H.out.ext HB.out).ar.vw (sla_row #[.int .i64 who, .int .i64 asked] (by unfold maxLen; simp)) (by omega))
  have hkn : kno ys [who, asked] = (hasB ys who && hasB ys asked) := by unfold kno; simp
  rw [hkn] at HK
  rcases hk : hasB ys who && hasB ys asked with _ | _
  · have HF1 := hid (show issF ys m who asked = (ys, 0, mt0, 1) by rw [HF.out, hk]; rfl)
    rw [hk] at HK
    obtain ⟨⟨y0, y1, y2, y3⟩, f0, f1, f2, f3⟩ := mint4 H1.out
    clear hk hkn HF H0 H1
    go_wp2_with fail
    refine HK.out.mono ?_
    rintro e1 w1 ⟨rfl, hw1⟩
    subst hw1
    go_wp2_with fail
    refine bodyPost_ret (v := .tuple #[.int .i64 0, .agg #[.int .i64 0, .int .i64 0, .slice none 0 0, .slice none 0 0], .int .i64 1]) ?_ rfl ?_
    · rw [results_3 rfl]
      go_simp
    rw [HF1.out]
    have hb4 := st4 HB.out (b := W.heap.size + 1) (by omega) (.int .i64 0) (.int .i64 0) (.slice none 0 0) (.slice none 0 0)
    exact isq_no (H.out.ext hb4) (.below hb4)
  obtain ⟨hwh, hak⟩ : hasB ys who = true ∧ hasB ys asked = true := by simpa using hk
  rw [hk] at HK
  obtain ⟨a0, a1⟩ := has_iff.1 hak
  obtain ⟨i, rfl⟩ := Int.eq_ofNat_of_zero_le a0
  have hil : i < ys.length := by omega
  obtain ⟨b, off, c, y0, hT⟩ := ar_tab (H.out.ext HB.out).ar.vw (by omega)
  obtain ⟨A, c', k0, -⟩ := hT i hil
  have HAI := hid (has_i64 ok hak)
  have HF1 := hid (show issF ys m who (i : Int) = if (nodeF ys (i : Int)).o == 12 then (if m.q ≤ cntF m.g who then (ys, 0, mt0, 82) else if makE ys (ndN 10 [m.k, (i : Int)]) == 0 then (makT ys (ndN 10 [m.k, (i : Int)]), makI ys (ndN 10 [m.k, (i : Int)]), ⟨m.k, m.q, incF m.g who, m.p⟩, 0) else (makT ys (ndN 10 [m.k, (i : Int)]), 0, mt0, makE ys (ndN 10 [m.k, (i : Int)]))) else (ys, 0, mt0, 1) by rw [HF.out, hk, Bool.true_and])
  clear hk hkn HF hT hwh hak
  by_cases h12 : (nodeF ys (i : Int)).o = 12
  case neg =>
    have h12' : ((nodeF ys (i : Int)).o != 12) = true := bne_iff_ne.2 h12
    have HR := hid (show issF ys m who (i : Int) = (ys, 0, mt0, 1) by rw [HF1.out, beq_eq_false_iff_ne.2 h12]; rfl)
    obtain ⟨⟨y0', y1, y2, y3⟩, f0, f1, f2, f3⟩ := mint4 H1.out
    clear HF1 H0 H1 h12
    generalize nodeF ys (i : Int) = x at *
    go_wp2_with fail
    refine HK.out.mono ?_
    rintro e1 w1 ⟨rfl, hw1⟩
    subst hw1
    go_wp2_with fail
    refine bodyPost_ret (v := .tuple #[.int .i64 0, .agg #[.int .i64 0, .int .i64 0, .slice none 0 0, .slice none 0 0], .int .i64 1]) ?_ rfl ?_
    · rw [results_3 rfl]
      go_simp
    rw [HR.out]
    have hb4 := st4 HB.out (b := W.heap.size + 1) (by omega) (.int .i64 0) (.int .i64 0) (.slice none 0 0) (.slice none 0 0)
    exact isq_no (H.out.ext hb4) (.below hb4)
  have h12' : ((nodeF ys (i : Int)).o != 12) = false := by rw [h12]; rfl
  have HF2 := hid (show issF ys m who (i : Int) = (if m.q ≤ cntF m.g who then (ys, 0, mt0, 82) else if makE ys (ndN 10 [m.k, (i : Int)]) == 0 then (makT ys (ndN 10 [m.k, (i : Int)]), makI ys (ndN 10 [m.k, (i : Int)]), ⟨m.k, m.q, incF m.g who, m.p⟩, 0) else (makT ys (ndN 10 [m.k, (i : Int)]), 0, mt0, makE ys (ndN 10 [m.k, (i : Int)]))) by rw [HF1.out, h12]; rfl)
  clear HF1 h12
  generalize nodeF ys (i : Int) = x at *
  go_upto_region 3 with (first
    | (go_at_call 29; refine HK.out.mono ?_; rintro e1 w1 ⟨rfl, hw1⟩; subst hw1)
    | fail)
  refine forget (R := fun V => Below W.heap.size W V ∧ HasO (.cells #[.int .i64 m.k, .int .i64 m.q, .slice Ag m.g.length cg, .slice Ap m.p.length cp] 31 (0, 0)) W.heap.size V ∧ HasO (.cells #[.int .i64 0, .int .i64 0, .slice none 0 0, .slice none 0 0] 31 (0, 0)) (W.heap.size + 1) V) ?_ ⟨HB.out, H0.out, H1.out⟩
  clear HK HB H0 H1 y0 k0
  rintro V3 ⟨hb, h0, h1⟩
  have HB := hid hb; have H0 := hid h0; have H1 := hid h1
  clear hb h0 h1
  obtain ⟨⟨m0, m1, m2, m3⟩, -⟩ := mint4 H0.out
  obtain ⟨Ag', cg', Ap', cp', eg, ep, sg, sp⟩ := HM.out
  injection eg with e1 e2 e3
  injection ep with e4 e5 e6
  subst e1; subst e3; subst e4; subst e6
  have HG := hid sg; have HP := hid sp
  clear sg sp e2 e5
  have HHD := hid (rhad_any m Ag cg (.slice Ap m.p.length cp) (some ⟨V3.heap.size, 0, none⟩) 1 1 [who] (V3.alloc (.cells #[.int .i64 who] 3)) ((HG.out.1.ext HB.out).alloc _) HO.out.s HO.out.b HO.out.n (sla_row #[.int .i64 who] (by unfold maxLen; simp)) (by omega))
  rw [had_one] at HHD
  obtain ⟨hc0, hc1⟩ := cnt_le HO.out.s HO.out.b who
  have HCC := hid (And.intro hc0 hc1)
  clear hc0 hc1
  obtain ⟨cc, hcc⟩ : ∃ cc : Int, cc = cntF m.g who := ⟨_, rfl⟩
  rw [← hcc] at HHD HF2 HCC
  have HCN := hid hcc
  clear hcc
  go_upto_region 4 with (first
    | (go_at_call 23; refine HHD.out.mono ?_; rintro e4 w4 ⟨rfl, b4⟩; have B4 := hid (((Below.refl V3.heap.size V3).alloc (Nat.le_refl _) (.cells #[.int .i64 who] 3)).trans (b4.mono (by simp))); clear b4)
    | fail)
  refine forget (R := fun V => Below W.heap.size W V ∧ HasO (.cells #[.int .i64 m.k, .int .i64 m.q, .slice Ag m.g.length cg, .slice Ap m.p.length cp] 31 (0, 0)) W.heap.size V ∧ HasO (.cells #[.int .i64 0, .int .i64 0, .slice none 0 0, .slice none 0 0] 31 (0, 0)) (W.heap.size + 1) V) ?_ ⟨HB.out.trans (B4.out.mono HB.out.size), HasO.bel H0.out B4.out, HasO.bel H1.out B4.out⟩
  clear HHD HB H0 H1 B4 m0 m1 m2 m3
  rintro V4 ⟨hb, h0, h1⟩
  have HB := hid hb; have H0 := hid h0; have H1 := hid h1
  clear hb h0 h1
  obtain ⟨⟨m0, m1, m2, m3⟩, -⟩ := mint4 H0.out
  by_cases hq : m.q ≤ cc
  · have HR := hid (show issF ys m who (i : Int) = (ys, 0, mt0, 82) by rw [HF2.out, if_pos hq])
    obtain ⟨⟨y0, y1, y2, y3⟩, f0, f1, f2, f3⟩ := mint4 H1.out
    clear HF2 H0 H1
    go_wp2_with fail
    refine bodyPost_ret (v := .tuple #[.int .i64 0, .agg #[.int .i64 0, .int .i64 0, .slice none 0 0, .slice none 0 0], .int .i64 82]) ?_ rfl ?_
    · rw [results_3 rfl]
      go_simp
    rw [HR.out]
    have hb4 := st4 HB.out (b := W.heap.size + 1) (by omega) (.int .i64 0) (.int .i64 0) (.slice none 0 0) (.slice none 0 0)
    exact isq_no (H.out.ext hb4) (.below hb4)
  have hq' : ¬ m.q ≤ cc := hq
  have HX := hid (q_of2 (H.out.ext HB.out) (o := 10) (a := m.k) (b := (i : Int)) (i64_lit (by decide) (by decide)) HO.out.k HAI.out)
  have hti := idx_i64 ok (ndN 10 [m.k, (i : Int)])
  by_cases he : makE ys (ndN 10 [m.k, (i : Int)]) = 0
  case neg =>
    have HR := hid (show issF ys m who (i : Int) = (makT ys (ndN 10 [m.k, (i : Int)]), 0, mt0, makE ys (ndN 10 [m.k, (i : Int)])) by rw [HF2.out, if_neg hq, beq_eq_false_iff_ne.2 he]; rfl)
    have hne : (makE ys (ndN 10 [m.k, (i : Int)]) != 0) = true := bne_iff_ne.2 he
    unfold LrQ mk at HX
    clear HF2 he hq
    generalize makE ys (ndN 10 [m.k, (i : Int)]) = te at *
    generalize makI ys (ndN 10 [m.k, (i : Int)]) = ti at *
    generalize makT ys (ndN 10 [m.k, (i : Int)]) = Y at *
    go_upto_region 7 with (first
      | (go_at_call 33; refine HX.out.mono ?_; rintro e5 w5 ⟨Z5, rfl, l5, m5⟩; have L5 := hid l5; have M5 := hid m5; clear l5 m5)
      | fail)
    have h15 := has_mv H1.out M5.out (zbox H.out (by omega))
    obtain ⟨⟨y0, y1, y2, y3⟩, f0, f1, f2, f3⟩ := mint4 h15
    have HBM := hid ((Mv.below HB.out).trans M5.out)
    have H1L := hid (show W.heap.size + 1 < V4.heap.size from H1.out.lt)
    clear h15 H0 H1 HX m0 m1 m2 m3
    go_wp2_with fail
    refine bodyPost_ret (v := .tuple #[.int .i64 0, .agg #[.int .i64 0, .int .i64 0, .slice none 0 0, .slice none 0 0], .int .i64 te]) ?_ rfl ?_
    · rw [results_3 rfl]
      go_simp
    rw [HR.out]
    have hz5 : ¬ Z5 (W.heap.size + 1) := fun hz => by
      have h1 := H1L.out
      rcases M5.out.n _ hz with k | k
      · exact zbox H.out (by omega) k
      · omega
    have h0s := H.out.sz
    exact isq_no (lq_set (lq_set (lq_set (lq_set L5.out hz5 (by omega) _ _) hz5 (by omega) _ _) hz5 (by omega) _ _) hz5 (by omega) _ _) (mv_set (mv_set (mv_set (mv_set HBM.out (by omega) _ _) (by omega) _ _) (by omega) _ _) (by omega) _ _)
  have hne : (makE ys (ndN 10 [m.k, (i : Int)]) != 0) = false := by rw [he]; rfl
  have HR := hid (show issF ys m who (i : Int) = (makT ys (ndN 10 [m.k, (i : Int)]), makI ys (ndN 10 [m.k, (i : Int)]), ⟨m.k, m.q, incF m.g who, m.p⟩, 0) by rw [HF2.out, if_neg hq, he]; rfl)
  unfold LrQ mk at HX
  rw [he] at HX
  clear HF2 he hq hne
  generalize makI ys (ndN 10 [m.k, (i : Int)]) = ti at *
  generalize makT ys (ndN 10 [m.k, (i : Int)]) = Y at *
  go_upto_region 9 with (first
    | (go_at_call 33; refine HX.out.mono ?_; rintro e5 w5 ⟨Z5, rfl, l5, m5⟩; have L5 := hid l5; have M5 := hid m5; clear l5 m5)
    | fail)
  have HBM := hid ((Mv.below HB.out).trans M5.out)
  have H05 := hid (has_mv H0.out M5.out (zbox H.out (by omega)))
  have H15 := hid (has_mv H1.out M5.out (zbox H.out (by omega)))
  have HLV := hid (show W.heap.size + 1 < w5.heap.size from Nat.lt_of_lt_of_le H1.out.lt M5.out.t.size)
  have HZ5 := hid (show ¬ Z5 (W.heap.size + 1) from fun hz => by
    rcases M5.out.n _ hz with k | k
    · exact zbox H.out (by omega) k
    · have := H1.out.lt; omega)
  clear H0 H1 HX m0 m1 m2 m3 HG HP HB
  obtain ⟨Ag', cg', Ap', cp', eg, ep, sg, sp⟩ := HM.out.turn HBM.out.t HBM.out.n
  injection eg with e1 e2 e3
  injection ep with e4 e5 e6
  subst e1; subst e3; subst e4; subst e6
  have HG := hid sg; have HP := hid sp
  clear sg sp e2 e5
  obtain ⟨⟨m0, m1, m2, m3⟩, -⟩ := mint4 H05.out
  have hgn := HO.out.n
  go_upto_region 11 with fail
  go_loopw [63, 14, 16] (fun i v u wr => ∃ j : Nat, i = .int .i64 j ∧ j ≤ m.g.length ∧ Below w5.heap.size w5 wr ∧ wr.ownsRow w5.heap.size 66 2 v (ltF (m.g.take j) who).length (cts (ltF (m.g.take j) who))) (fun i _ _ _ => m.g.length - (intOf i).toNat)
  case atStart => exact ⟨0, rfl, Nat.zero_le _, Below.refl _ _, World.ownsRow_nil _ _ _ _⟩
  case round =>
    obtain ⟨j, hij, hj, hb, hown⟩ := hrel
    subst hij
    have HBr := hid hb; have HOW := hid hown
    clear hb hown
    by_cases hlt : j < m.g.length
    · obtain ⟨b1, o1, d, hA, hz, hc0, hc1⟩ := ctA_at (SlA.ext HG.out.1 HBr.out) hlt
      have HZ := hid hz
      clear hz
      have hlt2 : (j : Int) < (m.g.length : Int) := by omega
      subst hA
      have HL := hid (ltF_take HZ.out who)
      have hln := ltF_len (m.g.take j) who
      rw [List.length_take] at hln
      by_cases hd : d.1 < who
      · rw [if_pos hd] at HL
        go_wp2_with (first
          | (at_builtin; go_loud (refine wpList_append_sl _ rfl _ _ 28 rfl w5.heap.size 66 i0 (.agg #[.int .i64 0, .int .i64 0]) 2 16 Tryd.underlying28 hi hz0 hz1 hz2 rfl (by decide) u14 (ltF (m.g.take j) who).length (cts (ltF (m.g.take j) who)) rfl ((HOW.out.alloc _).alloc _) _ 1 1 [.int .i64 d.1, .int .i64 d.2] rfl (sla_cnt (by simp) _ _) (cts_one [(d.1, d.2)]) (by unfold maxLen; omega) (by omega) (by have := HBr.out.size; simp; omega) ?_; intro v8 w8 own8 gr8 loc8; have OW8 := hid own8; have B8 := hid (below_append ((HBr.out.alloc HBr.out.size _).alloc (Nat.le_trans HBr.out.size (by simp)) _) gr8 ((HOW.out.alloc _).alloc _) (Nat.le_refl _) (Nat.le_trans HBr.out.size (by simp; omega))); clear own8 gr8 loc8))
          | fail)
        go_roundw
        case rel => exact ⟨j + 1, by go_num, by omega, B8.out, by rw [HL.out]; have h := OW8.out; rw [List.length_append, cts_app]; exact h⟩
        case measure => simp [intOf]; omega
      · rw [if_neg hd, List.append_nil] at HL
        go_wp2_with fail
        go_roundw
        case rel => exact ⟨j + 1, by go_num, by omega, HBr.out.alloc HBr.out.size _, by rw [HL.out]; exact HOW.out.alloc _⟩
        case measure => simp [intOf]; omega
    · obtain rfl : j = m.g.length := by omega
      rw [List.take_length] at HOW
      have hlt2 : ¬ ((m.g.length : Nat) : Int) < (m.g.length : Int) := by omega
      have hln := ltF_len m.g who
      have hw1 : RowKit.wrap64 (cc + 1) = cc + 1 := wrap_id (by have := HCC.out; omega) (by have := HCC.out; omega)
      go_upto_region 17 with (first
        | (at_builtin; go_loud (refine wpList_append_sl _ rfl _ _ 28 rfl w5.heap.size 66 i0 (.agg #[.int .i64 0, .int .i64 0]) 2 16 Tryd.underlying28 hi hz0 hz1 hz2 rfl (by decide) u14 (ltF m.g who).length (cts (ltF m.g who)) rfl (HOW.out.alloc _) _ 1 1 [.int .i64 who, .int .i64 (cc + 1)] rfl (sla_cnt rfl _ _) (cts_one [(who, cc + 1)]) (by unfold maxLen; omega) (by omega) (by have := HBr.out.size; simp; omega) ?_; intro v8 w8 own8 gr8 loc8; have OW8 := hid own8; have B8 := hid (below_append (HBr.out.alloc HBr.out.size _) gr8 (HOW.out.alloc _) (Nat.le_refl _) (HBr.out.alloc HBr.out.size _).size); clear own8 gr8 loc8))
        | fail)
      obtain ⟨A8, c8, rfl, -⟩ := SlA.owned OW8.out
      obtain ⟨P, hP⟩ : ∃ P : List (Int × Int), P = ltF m.g who ++ [(who, cc + 1)] := ⟨_, rfl⟩
      have hPl : (ltF m.g who).length + 1 = P.length := by rw [hP]; simp
      have OP8 := hid (show w8.ownsRow w5.heap.size 66 2 (.slice A8 P.length c8) P.length (cts P) from by
        have h := OW8.out
        rw [hPl] at h
        rw [hP, cts_app, ← hP]
        exact h)
      have HPD := hid hP
      have HPL := hid (show P.length ≤ 1001 from by omega)
      rw [hPl]
      clear hP hPl OW8 HOW hln hw1
      have HNG := hid (show incF m.g who = P ++ gtF m.g who from by rw [inc_eq who HO.out.s, inc_lg who HO.out.s, HPD.out, HCN.out]; simp)
      have HGL := hid (gtF_len m.g who)
      refine forget (R := fun V9 => Below w5.heap.size w5 V9 ∧ V9.ownsRow w5.heap.size 66 2 (.slice A8 P.length c8) P.length (cts P)) ?_ ⟨B8.out, OP8.out⟩
      clear OP8 B8 m0 m1 m2 m3 HBr hlt hlt2 hj
      rintro V9 ⟨hb9, ho9⟩
      have HB9 := hid hb9; have HO9 := hid ho9
      have H09 := hid (HasO.bel H05.out hb9); have H19 := hid (HasO.bel H15.out hb9)
      clear hb9 ho9
      obtain ⟨⟨m0, m1, m2, m3⟩, -⟩ := mint4 H09.out
      go_upto_region 18 with fail
      go_loopw [86, 14, 18] (fun i v u wr => ∃ j : Nat, i = .int .i64 j ∧ j ≤ m.g.length ∧ Below w5.heap.size w5 wr ∧ wr.ownsRow w5.heap.size 66 2 v (P ++ gtF (m.g.take j) who).length (cts (P ++ gtF (m.g.take j) who))) (fun i _ _ _ => m.g.length - (intOf i).toNat)
      case atStart => exact ⟨0, rfl, Nat.zero_le _, HB9.out, by rw [List.take_zero, show gtF [] who = [] from rfl, List.append_nil]; exact HO9.out⟩
      case round =>
        clear H09 H19 m0 m1 m2 m3 HO9 HB9
        obtain ⟨j, hij, hj, hb, hown⟩ := hrel
        subst hij
        have HBr := hid hb; have HOW := hid hown
        clear hb hown
        by_cases hlt : j < m.g.length
        · obtain ⟨b1, o1, d, hA, hz, hc0, hc1⟩ := ctA_at (SlA.ext HG.out.1 HBr.out) hlt
          have HZ := hid hz
          clear hz
          have hlt2 : (j : Int) < (m.g.length : Int) := by omega
          subst hA
          have HL := hid (gtF_take HZ.out who)
          have hln := gtF_len (m.g.take j) who
          rw [List.length_take] at hln
          have hpl := HPL.out
          have hQl : (P ++ gtF (m.g.take j) who).length ≤ 2001 := by rw [List.length_append]; omega
          obtain ⟨Q, hQ⟩ : ∃ Q : List (Int × Int), Q = P ++ gtF (m.g.take j) who := ⟨_, rfl⟩
          rw [← hQ] at HOW hQl
          have HQ := hid hQ
          clear hQ hln hpl
          by_cases hd : who < d.1
          · rw [if_pos hd] at HL
            go_wp2_with (first
              | (at_builtin; go_loud (refine wpList_append_sl _ rfl _ _ 28 rfl w5.heap.size 66 i0 (.agg #[.int .i64 0, .int .i64 0]) 2 16 Tryd.underlying28 hi hz0 hz1 hz2 rfl (by decide) u14 Q.length (cts Q) rfl ((HOW.out.alloc _).alloc _) _ 1 1 [.int .i64 d.1, .int .i64 d.2] rfl (sla_cnt (by simp) _ _) (cts_one [(d.1, d.2)]) (by unfold maxLen; omega) (by omega) (by have := HBr.out.size; simp; omega) ?_; intro v8 w8 own8 gr8 loc8; have OW8 := hid own8; have B8 := hid (below_append ((HBr.out.alloc HBr.out.size _).alloc (Nat.le_trans HBr.out.size (by simp)) _) gr8 ((HOW.out.alloc _).alloc _) (Nat.le_refl _) (Nat.le_trans HBr.out.size (by simp; omega))); clear own8 gr8 loc8))
              | fail)
            go_roundw
            case rel => exact ⟨j + 1, by go_num, by omega, B8.out, by rw [HL.out, ← List.append_assoc, ← HQ.out]; have h := OW8.out; rw [List.length_append, cts_app]; exact h⟩
            case measure => simp [intOf]; omega
          · rw [if_neg hd, List.append_nil] at HL
            go_wp2_with fail
            go_roundw
            case rel => exact ⟨j + 1, by go_num, by omega, HBr.out.alloc HBr.out.size _, by rw [HL.out, ← HQ.out]; exact HOW.out.alloc _⟩
            case measure => simp [intOf]; omega
        · obtain rfl : j = m.g.length := by omega
          rw [List.take_length, ← HNG.out] at HOW
          have HNL := hid (show (incF m.g who).length ≤ 2001 from by rw [HNG.out, List.length_append]; have := HPL.out; have := HGL.out; omega)
          have hlt2 : ¬ ((m.g.length : Nat) : Int) < (m.g.length : Int) := by omega
          obtain ⟨A10, c10, rfl, -⟩ := SlA.owned HOW.out
          generalize hN : incF m.g who = N at *
          clear hN
          have H09 := hid (HasO.bel H05.out HBr.out); have H19 := hid (HasO.bel H15.out HBr.out)
          obtain ⟨⟨m0, m1, m2, m3⟩, -⟩ := mint4 H09.out
          have HCP := hid (rcopy17_any m Ag Ap cg cp wr (HG.out.1.ext HBr.out) (HP.out.1.ext HBr.out) HO.out.n HO.out.pn)
          go_upto_region 24 with (first
            | (go_at_call 10; refine HCP.out.mono ?_; rintro e11 w11 ⟨g11, p11, rfl, b11, n11, og11, op11⟩; unfold mtV; obtain ⟨Ag11, cg11, rfl, -⟩ := SlA.owned og11; obtain ⟨Ap11, cp11, rfl, -⟩ := SlA.owned op11; have B11 := hid b11; have OP11 := hid op11; clear b11 n11 og11 op11)
            | fail)
          have hlv := HLV.out
          have hbx : w5.heap.size ≤ w11.heap.size := Nat.le_trans HBr.out.size B11.out.size
          have hs : Below w5.heap.size w5 (w11.alloc (.cells #[.int .i64 m.k, .int .i64 m.q, .slice Ag11 m.g.length cg11, .slice Ap11 m.p.length cp11] 31)) ∧ HasO (.cells #[.int .i64 m.k, .int .i64 m.q, .slice Ag11 m.g.length cg11, .slice Ap11 m.p.length cp11] 31 (0, 0)) w11.heap.size (w11.alloc (.cells #[.int .i64 m.k, .int .i64 m.q, .slice Ag11 m.g.length cg11, .slice Ap11 m.p.length cp11] 31)) ∧ (w11.alloc (.cells #[.int .i64 m.k, .int .i64 m.q, .slice Ag11 m.g.length cg11, .slice Ap11 m.p.length cp11] 31)).ownsRow w5.heap.size 66 2 (.slice A10 N.length c10) N.length (cts N) ∧ (w11.alloc (.cells #[.int .i64 m.k, .int .i64 m.q, .slice Ag11 m.g.length cg11, .slice Ap11 m.p.length cp11] 31)).ownsRow w5.heap.size 3 1 (.slice Ap11 m.p.length cp11) m.p.length (m.p.map (.int .i64)) :=
            ⟨(HBr.out.trans (B11.out.mono HBr.out.size)).alloc hbx _, HasO.new _ _, own_ext (own_ext HOW.out B11.out) ((Below.refl _ _).alloc (Nat.le_refl _) _), own_mono (OP11.out.alloc _) HBr.out.size⟩
          have HS := hid hs
          have HBX := hid hbx
          clear hs hbx B11 OP11 HOW H09 H19 m0 m1 m2 m3 HCP HBr
          generalize w11.heap.size = bx at *
          refine forget (R := fun U => Below w5.heap.size w5 U ∧ HasO (.cells #[.int .i64 m.k, .int .i64 m.q, .slice Ag11 m.g.length cg11, .slice Ap11 m.p.length cp11] 31 (0, 0)) bx U ∧ U.ownsRow w5.heap.size 66 2 (.slice A10 N.length c10) N.length (cts N) ∧ U.ownsRow w5.heap.size 3 1 (.slice Ap11 m.p.length cp11) m.p.length (m.p.map (.int .i64))) ?_ HS.out
          clear HS
          rintro U ⟨hb, hx, hog, hop⟩
          obtain ⟨⟨x0, x1, x2, x3⟩, -, -, f2, -⟩ := mint4 hx
          have hs2 : Below w5.heap.size w5 (U.setCell ⟨bx, 2, none⟩ (.slice A10 N.length c10)) ∧ HasO (.cells #[.int .i64 m.k, .int .i64 m.q, .slice A10 N.length c10, .slice Ap11 m.p.length cp11] 31 (0, 0)) bx (U.setCell ⟨bx, 2, none⟩ (.slice A10 N.length c10)) ∧ (U.setCell ⟨bx, 2, none⟩ (.slice A10 N.length c10)).ownsRow w5.heap.size 66 2 (.slice A10 N.length c10) N.length (cts N) ∧ (U.setCell ⟨bx, 2, none⟩ (.slice A10 N.length c10)).ownsRow w5.heap.size 3 1 (.slice Ap11 m.p.length cp11) m.p.length (m.p.map (.int .i64)) :=
            ⟨hb.setCell (p := ⟨bx, 2, none⟩) HBX.out _, HasO.put hx 2 _, own_block hog fun b hb => heap_setCell_other _ _ _ _ (own_box hx hog hb (by decide)), own_block hop fun b hb => heap_setCell_other _ _ _ _ (own_box hx hop hb (by decide))⟩
          have HS := hid hs2
          clear hs2 hb hx hog hop
          go_upto_region 25 with fail
          refine forget (R := fun U => Below w5.heap.size w5 U ∧ HasO (.cells #[.int .i64 m.k, .int .i64 m.q, .slice A10 N.length c10, .slice Ap11 m.p.length cp11] 31 (0, 0)) bx U ∧ U.ownsRow w5.heap.size 66 2 (.slice A10 N.length c10) N.length (cts N) ∧ U.ownsRow w5.heap.size 3 1 (.slice Ap11 m.p.length cp11) m.p.length (m.p.map (.int .i64))) ?_ HS.out
          clear HS x0 x1 x2 x3 f2
          clear U
          rintro U ⟨hb, hx, hog, hop⟩
          have HB := hid hb; have OG := hid hog; have OP := hid hop
          obtain ⟨⟨x0, x1, x2, x3⟩, -⟩ := mint4 hx
          obtain ⟨⟨z0, z1, z2, z3⟩, f0, f1, f2, f3⟩ := mint4 (HasO.bel H15.out hb)
          clear hb hx hog hop
          go_wp2_with fail
          go_region
          all_goals
            go_wp2_with fail
            refine bodyPost_ret (v := .tuple #[.int .i64 ti, .agg #[.int .i64 m.k, .int .i64 m.q, .slice A10 N.length c10, .slice Ap11 m.p.length cp11], .int .i64 0]) ?_ rfl ?_
            · rw [results_3 rfl]
              go_simp
            rw [HR.out]
            have hz5 := HZ5.out
            have h0s := H.out.sz
            have hlv := HLV.out
            have hb5 : Below w5.heap.size w5 U.drew := below_drew HB.out
            have og : U.drew.ownsRow w5.heap.size 66 2 (.slice A10 N.length c10) N.length (cts N) := OG.out
            have op : U.drew.ownsRow w5.heap.size 3 1 (.slice Ap11 m.p.length cp11) m.p.length (m.p.map (.int .i64)) := OP.out
            have og4 := own_away (own_away (own_away (own_away og (a := ⟨W.heap.size + 1, 0, none⟩) hlv (.int .i64 m.k)) (a := ⟨W.heap.size + 1, 1, none⟩) hlv (.int .i64 m.q)) (a := ⟨W.heap.size + 1, 2, none⟩) hlv (.slice A10 N.length c10)) (a := ⟨W.heap.size + 1, 3, none⟩) hlv (.slice Ap11 m.p.length cp11)
            have op4 := own_away (own_away (own_away (own_away op (a := ⟨W.heap.size + 1, 0, none⟩) hlv (.int .i64 m.k)) (a := ⟨W.heap.size + 1, 1, none⟩) hlv (.int .i64 m.q)) (a := ⟨W.heap.size + 1, 2, none⟩) hlv (.slice A10 N.length c10)) (a := ⟨W.heap.size + 1, 3, none⟩) hlv (.slice Ap11 m.p.length cp11)
            have hzl : ∀ b, Z5 b → b < w5.heap.size := fun b hz => L5.out.ar.zlt b hz
            have hnv : NewV W (.slice A10 N.length c10) (.slice Ap11 m.p.length cp11) := fun b hb => by
              have hsz := HBM.out.t.size
              rcases hb with hb | hb
              · have := (OG.out.lt b hb).1; omega
              · have := (OP.out.lt b hb).1; omega
            refine ⟨Z5, .slice A10 N.length c10, .slice Ap11 m.p.length cp11, rfl, ?_, ?_, ?_, hnv⟩
            · exact lq_set (lq_set (lq_set (lq_set (L5.out.ext hb5) hz5 (by omega) _ _) hz5 (by omega) _ _) hz5 (by omega) _ _) hz5 (by omega) _ _
            · exact mv_set (mv_set (mv_set (mv_set (HBM.out.trans (.below hb5)) (by omega) _ _) (by omega) _ _) (by omega) _ _) (by omega) _ _
            · obtain ⟨A1, c1, e1, s1⟩ := SlZ.of_own og4 hzl
              obtain ⟨A2, c2, e2, s2⟩ := SlZ.of_own op4 hzl
              exact ⟨A1, c1, A2, c2, e1, e2, s1, s2⟩
end
end Go.Proofs.YtfmkniakfgpgjaaDoor

/- token's law TokenDoes: what is carried from round to round, in colours: each block bears one, and a step turns one colour alone. -/
namespace Go.Proofs.YtfmkniakfgpgjaaDoor
open Go.RowKit Go.KK Go.Shelf Go.Maps
set_option linter.unusedVariables false
set_option linter.unusedSimpArgs false

theorem MtR.sub {W : World} {Z Z' : Nat → Prop} {m : MT} {g p : Value} (h : MtR W Z m g p) (hz : ∀ b, Z' b → Z b) : MtR W Z' m g p := by
  obtain ⟨Ag, cg, Ap, cp, rfl, rfl, s1, s2⟩ := h
  exact ⟨Ag, cg, Ap, cp, rfl, rfl, ⟨s1.1, fun hn b o e hb => s1.2 hn b o e (hz b hb)⟩, ⟨s2.1, fun hn b o e hb => s2.2 hn b o e (hz b hb)⟩⟩
/-- The blocks that bear a colour. -/
def Nc (c : Nat → Nat) (b : Nat) : Prop := c b ≠ 0
def mO (m : MT) (g p : Value) : Obj := .cells #[.int .i64 m.k, .int .i64 m.q, g, p] 31 (0, 0)
/-- A step that turns one colour alone, and none of the call's elders. -/
structure Stp (w W W' : World) (c c' : Nat → Nat) (k : Nat) : Prop where
  t : ∃ F : Nat → Prop, Turn F W W' ∧ ∀ b, F b → c b = k ∧ w.heap.size ≤ b
  c : ∀ b, b < W.heap.size → c' b = c b
section
variable {w W W' W2 : World} {c c' c2 : Nat → Nat} {k j : Nat}
theorem Stp.below (hb : Below W.heap.size W W') (k : Nat) : Stp w W W' c c k := ⟨⟨fun _ => False, .of_below hb, fun _ h => h.elim⟩, fun _ _ => rfl⟩
theorem Stp.new (hb : Below W.heap.size W W') (k : Nat) (hc : ∀ b, b < W.heap.size → c' b = c b) : Stp w W W' c c' k := ⟨⟨fun _ => False, .of_below hb, fun _ h => h.elim⟩, hc⟩
theorem Stp.set {b : Nat} (hb : c b = k) (lo : w.heap.size ≤ b) (o : Nat) (v : Value) : Stp w W (W.setCell ⟨b, o, none⟩ v) c c k :=
  ⟨⟨fun x => x = b, Turn.setCell v (.inl rfl), fun x e => e ▸ ⟨hb, lo⟩⟩, fun _ _ => rfl⟩
theorem Stp.put {b : Nat} (hb : c b = k) (lo : w.heap.size ≤ b) {m : MT} {g p : Value} : Stp w W (put4 W b m g p) c c k :=
  ⟨⟨fun x => x = b, put4_turn, fun x e => e ▸ ⟨hb, lo⟩⟩, fun _ _ => rfl⟩
theorem Stp.block (s : Stp w W W' c c' k) {b : Nat} (hb : b < W.heap.size) (hk : c b ≠ k) : W'.heap[b]? = W.heap[b]? := by
  obtain ⟨F, ht, hf⟩ := s.t
  exact ht.block b hb fun h => hk (hf b h).1
theorem Stp.size (s : Stp w W W' c c' k) : W.heap.size ≤ W'.heap.size := by obtain ⟨F, ht, _⟩ := s.t; exact ht.size
theorem Stp.has (s : Stp w W W' c c' k) {o : Obj} {b : Nat} (h : HasO o b W) (hk : c b ≠ k) : HasO o b W' := (s.block h.lt hk).trans h
theorem Stp.trans (s : Stp w W W' c c' k) (r : Stp w W' W2 c' c2 k) : Stp w W W2 c c2 k := by
  obtain ⟨F, ht, hf⟩ := s.t
  obtain ⟨G, hu, hg⟩ := r.t
  refine ⟨⟨fun b => F b ∨ (G b ∧ b < W.heap.size), (ht.mono fun b h => .inl h).trans hu fun b h => ?_, fun b h => ?_⟩, fun b hb => (r.c b (Nat.lt_of_lt_of_le hb ht.size)).trans (s.c b hb)⟩
  · rcases Nat.lt_or_ge b W.heap.size with hl | hl
    · exact .inl (.inr ⟨h, hl⟩)
    · exact .inr hl
  · rcases h with h | ⟨h, hl⟩
    · exact hf b h
    · exact ⟨(s.c b hl).symm.trans (hg b h).1, (hg b h).2⟩
theorem Stp.bel (s : Stp w W W' c c' k) {B : Nat} (h : Below B w W) (hB : B ≤ w.heap.size) : Below B w W' := by
  obtain ⟨F, ht, hf⟩ := s.t
  exact h.trans (ht.below (fun b hb => Nat.le_trans hB (hf b hb).2) (Nat.le_trans hB h.size))
/-- An arena's step. -/
theorem Stp.mv {Z Z2 : Nat → Prop} (m : Mv Z W Z2 W') (hz : ∀ b, Z b → c b = k) (lo : ∀ b, Z b → w.heap.size ≤ b) : ∃ c', Stp w W W' c c' k ∧ (∀ b, Z2 b → c' b = k) ∧ ∀ b, W.heap.size ≤ b → ¬ Z2 b → c' b = 0 := by
  classical
  refine ⟨fun b => if b < W.heap.size then c b else if Z2 b then k else 0, ⟨⟨Z, m.t, fun b hb => ⟨hz b hb, lo b hb⟩⟩, fun b hb => if_pos hb⟩, fun b hb => ?_, fun b hb hn => ?_⟩ <;> dsimp only
  · by_cases hl : b < W.heap.size
    · rw [if_pos hl]
      exact (m.n b hb).elim (hz b) fun h => by omega
    · rw [if_neg hl, if_pos hb]
  · rw [if_neg (by omega), if_neg hn]
end
section
variable {w W W' : World} {c c' : Nat → Nat} {k j b sa sb mb : Nat} {m m' : MT} {g p g' p' v v' : Value} {l : List Int} {xs ys xs' ys' : List ND}
theorem MtR.stp (h : MtR W (Nc c) m g p) (s : Stp w W W' c c' k) (h0 : k ≠ 0) : MtR W' (Nc c') m g p := by
  obtain ⟨F, ht, hf⟩ := s.t
  refine h.turn (ht.mono fun b e => by unfold Nc; rw [(hf b e).1]; exact h0) fun b hb => ?_
  rcases Nat.lt_or_ge b W.heap.size with hl | hl
  · exact .inl (by unfold Nc at hb ⊢; rwa [s.c b hl] at hb)
  · exact .inr hl
/-- A new mint's rows bear no colour. -/
theorem MtR.newc {Z2 : Nat → Prop} (h : MtR W' Z2 m g p) (hn : NewV W g p) (hc : ∀ b, W.heap.size ≤ b → ¬ Z2 b → c' b = 0) : MtR W' (Nc c') m g p := by
  obtain ⟨Ag, cg, Ap, cp, rfl, rfl, s1, s2⟩ := h
  refine ⟨Ag, cg, Ap, cp, rfl, rfl, ⟨s1.1, fun hne b o e hb => ?_⟩, ⟨s2.1, fun hne b o e hb => ?_⟩⟩
  · subst e
    exact hb (hc b (hn b (.inl rfl)) (s1.2 hne b o rfl))
  · subst e
    exact hb (hc b (hn b (.inr rfl)) (s2.2 hne b o rfl))
/-- A mint in a box. -/
structure Bx (w W : World) (c : Nat → Nat) (b k : Nat) (m : MT) (g p : Value) : Prop where
  o : HasO (mO m g p) b W
  r : MtR W (Nc c) m g p
  lo : w.heap.size ≤ b
  c : c b = k
theorem Bx.stp (h : Bx w W c b j m g p) (s : Stp w W W' c c' k) (hk : j ≠ k) (h0 : k ≠ 0) : Bx w W' c' b j m g p :=
  ⟨s.has h.o (by rw [h.c]; exact hk), h.r.stp s h0, h.lo, (s.c b h.o.lt).trans h.c⟩
theorem put4_has (h : HasO (mO m g p) b W) : HasO (mO m' g' p') b (put4 W b m' g' p') := by
  have := HasO.put (HasO.put (HasO.put (HasO.put h 0 (.int .i64 m'.k)) 1 (.int .i64 m'.q)) 2 g') 3 p'
  exact this
theorem Bx.put (h : Bx w W c b j m g p) (hr : MtR W (Nc c) m' g' p') (h0 : j ≠ 0) : Bx w (put4 W b m' g' p') c b j m' g' p' :=
  ⟨put4_has h.o, hr.stp (Stp.put (w := w) h.c h.lo) h0, h.lo, h.c⟩
theorem Bx.cells (h : Bx w W c b j m g p) : (W.cell? ⟨b, 0, none⟩ = some (.int .i64 m.k) ∧ W.cell? ⟨b, 1, none⟩ = some (.int .i64 m.q) ∧ W.cell? ⟨b, 2, none⟩ = some g ∧ W.cell? ⟨b, 3, none⟩ = some p) ∧ W.frozen? ⟨b, 0, none⟩ = false ∧ W.frozen? ⟨b, 1, none⟩ = false ∧ W.frozen? ⟨b, 2, none⟩ = false ∧ W.frozen? ⟨b, 3, none⟩ = false := mint4 h.o
/-- A box made: its block takes the colour. -/
theorem Bx.new (hr : MtR W (Nc c) m g p) (lo : w.heap.size ≤ W.heap.size) (hc : ∀ b, b < W.heap.size → c' b = c b) (hk : c' W.heap.size = j) (h0 : j ≠ 0) : Bx w (W.alloc (.cells #[.int .i64 m.k, .int .i64 m.q, g, p] 31)) c' W.heap.size j m g p :=
  ⟨HasO.new _ _, hr.stp (Stp.new (w := w) (k := j) ((Below.refl _ _).alloc (Nat.le_refl _) _) hc) h0, lo, hk⟩
/-- A row of numbers of the call's own. -/
structure Rw (w W : World) (c : Nat → Nat) (v : Value) (k : Nat) (l : List Int) : Prop where
  r : W.ownsRow w.heap.size 3 1 v l.length (l.map (.int .i64))
  c : ∀ b, v.ownBlock = some b → c b = k
theorem Rw.stp (h : Rw w W c v j l) (s : Stp w W W' c c' k) (hk : j ≠ k) : Rw w W' c' v j l :=
  ⟨own_block h.r fun b hb => s.block (h.r.lt b hb).2 (by rw [h.c b hb]; exact hk), fun b hb => (s.c b (h.r.lt b hb).2).trans (h.c b hb)⟩
theorem Rw.nil (w W : World) (c : Nat → Nat) (k : Nat) : Rw w W c (.slice none 0 0) k [] := ⟨World.ownsRow_nil _ _ _ _, fun b h => by cases h⟩
theorem Rw.grown (h : Rw w W c v k l) (hg : W.grownBy W' v.ownBlock) : Stp w W W' c c k :=
  ⟨⟨fun b => v.ownBlock = some b, Turn.grown hg fun b hb => .inl hb, fun b hb => ⟨h.c b hb, (h.r.lt b hb).1⟩⟩, fun _ _ => rfl⟩
/-- A number more at the row's end: a new block takes the row's colour. -/
theorem Rw.app (h : Rw w W c v k l) {x : Int} (hr : W'.ownsRow w.heap.size 3 1 v' (l.length + 1) (l.map (.int .i64) ++ [.int .i64 x])) (hg : W.grownBy W' v.ownBlock) (hl : v'.ownBlock = v.ownBlock ∨ v'.ownBlock = some W.heap.size) : ∃ c', Stp w W W' c c' k ∧ Rw w W' c' v' k (l ++ [x]) := by
  refine ⟨fun b => if b < W.heap.size then c b else k, ⟨(h.grown hg).t, fun b hb => if_pos hb⟩, ?_, fun b hb => ?_⟩
  · rw [List.length_append, List.map_append]; exact hr
  · by_cases hb' : b < W.heap.size
    · rw [if_pos hb']
      rcases hl with hl | hl
      · exact h.c b (hl ▸ hb)
      · rw [hl] at hb; injection hb with hb; omega
    · rw [if_neg hb']
/-- The map of pairs. -/
structure Mp (w W : World) (c : Nat → Nat) (mb k : Nat) : Prop where
  m : ∃ M, MtP W mb M
  c : c mb = k
  lo : w.heap.size ≤ mb
theorem Mp.stp (h : Mp w W c mb j) (s : Stp w W W' c c' k) (hk : j ≠ k) : Mp w W' c' mb j := by
  obtain ⟨M, hM⟩ := h.m
  exact ⟨⟨M, hM.block (s.block hM.lt (by rw [h.c]; exact hk))⟩, (s.c mb hM.lt).trans h.c, h.lo⟩
theorem Mp.step (h : Mp w W c mb k) {M : List (Int × Int)} (hM : MtP W' mb M) (ht : Turn (fun b => b = mb) W W') : Stp w W W' c c k ∧ Mp w W' c mb k :=
  ⟨⟨⟨fun b => b = mb, ht, fun b e => e ▸ ⟨h.c, h.lo⟩⟩, fun _ _ => rfl⟩, ⟨M, hM⟩, h.c, h.lo⟩
/-- Both arenas. -/
structure Ta (w W : World) (c : Nat → Nat) (sa sb : Nat) (Z Z' : Nat → Prop) (xs ys : List ND) : Prop where
  tx : Tx w W sa sb Z Z' xs ys
  z : ∀ b, Z b → c b = 1
  z' : ∀ b, Z' b → c b = 2
theorem LQ.turn {Z' F : Nat → Prop} (h : LQ w W Z' sb ys) (ht : Turn F W W') (hd : ∀ b, Z' b → ¬ F b) (hf : ∀ b, F b → w.heap.size ≤ b) : LQ w W' Z' sb ys :=
  ⟨h.ar.turn ht hd, h.z, h.bl.trans (ht.below hf h.bl.size)⟩
theorem Ta.stp {Z Z' : Nat → Prop} (h : Ta w W c sa sb Z Z' xs ys) (s : Stp w W W' c c' k) (h1 : k ≠ 1) (h2 : k ≠ 2) : Ta w W' c' sa sb Z Z' xs ys := by
  obtain ⟨F, ht, hf⟩ := s.t
  refine ⟨⟨h.tx.a.turn ht (fun b hz e => h1 ((hf b e).1.symm.trans (h.z b hz))) fun b e => (hf b e).2, h.tx.b.turn ht (fun b hz e => h2 ((hf b e).1.symm.trans (h.z' b hz))) fun b e => (hf b e).2, h.tx.d⟩, fun b hb => ?_, fun b hb => ?_⟩
  · exact (s.c b (h.tx.a.ar.zlt b hb)).trans (h.z b hb)
  · exact (s.c b (h.tx.b.ar.zlt b hb)).trans (h.z' b hb)
theorem Ta.onA {Z Z' Z2 : Nat → Prop} (h : Ta w W c sa sb Z Z' xs ys) (la : LA w W' Z2 sa xs') (m : Mv Z W Z2 W') : ∃ c', Stp w W W' c c' 1 ∧ (∀ b, W.heap.size ≤ b → ¬ Z2 b → c' b = 0) ∧ Ta w W' c' sa sb Z2 Z' xs' ys := by
  obtain ⟨c', s, h1, h2⟩ := Stp.mv (w := w) m h.z h.tx.a.z
  exact ⟨c', s, h2, h.tx.onA la m, h1, fun b hb => (s.c b (h.tx.b.ar.zlt b hb)).trans (h.z' b hb)⟩
theorem Ta.onB {Z Z' Z2 : Nat → Prop} (h : Ta w W c sa sb Z Z' xs ys) (lq : LQ w W' Z2 sb ys') (m : Mv Z' W Z2 W') : ∃ c', Stp w W W' c c' 2 ∧ (∀ b, W.heap.size ≤ b → ¬ Z2 b → c' b = 0) ∧ Ta w W' c' sa sb Z Z2 xs ys' := by
  obtain ⟨c', s, h1, h2⟩ := Stp.mv (w := w) m h.z' h.tx.b.z
  exact ⟨c', s, h2, h.tx.onB lq m, fun b hb => (s.c b (h.tx.a.ar.zlt b hb)).trans (h.z b hb), h1⟩
end
/-- What is to be done, in its box. -/
structure Ob (w W : World) (c : Nat → Nat) (bo : Nat) (od oa ob : Int) : Prop where
  o : HasO (.cells #[.int .i64 od, .int .i64 oa, .int .i64 ob] 39 (0, 0)) bo W
  c : c bo = 11
theorem Ob.stp {w W W' : World} {c c' : Nat → Nat} {bo k : Nat} {od oa ob : Int} (h : Ob w W c bo od oa ob) (s : Stp w W W' c c' k) (hk : 11 ≠ k) : Ob w W' c' bo od oa ob :=
  ⟨s.has h.o (by rw [h.c]; exact hk), (s.c bo h.o.lt).trans h.c⟩
theorem Ob.cells {w W : World} {c : Nat → Nat} {bo : Nat} {od oa ob : Int} (h : Ob w W c bo od oa ob) : W.cell? ⟨bo, 0, none⟩ = some (.int .i64 od) ∧ W.cell? ⟨bo, 1, none⟩ = some (.int .i64 oa) ∧ W.cell? ⟨bo, 2, none⟩ = some (.int .i64 ob) := by
  refine ⟨?_, ?_, ?_⟩ <;> (rw [cell_of_row _ bo _ _ _ (0, 0) h.o]; rfl)
/-- All that a round carries. -/
structure TdR (w W : World) (c : Nat → Nat) (sa sb bm bn mb bo bw bp bq : Nat) (Z Z' : Nat → Prop) (xs ys : List ND) (m : MT) (g p g' p' gw pw : Value) (m2 : MT) (gp pp : Value) (n2 : MT) (gq pq v v' : Value) (l l' : List Int) (od oa ob : Int) : Prop where
  ta : Ta w W c sa sb Z Z' xs ys
  bm : Bx w W c bm 3 m g p
  bn : Bx w W c bn 4 m g' p'
  rv : Rw w W c v 5 l
  rv' : Rw w W c v' 6 l'
  mp : Mp w W c mb 7
  bp : Bx w W c bp 8 m2 gp pp
  bq : Bx w W c bq 9 n2 gq pq
  bw : Bx w W c bw 10 m gw pw
  bo : Ob w W c bo od oa ob
section
variable {w W W' : World} {c c' : Nat → Nat} {k sa sb bm bn mb bo bw bp bq : Nat} {Z Z' Z2 : Nat → Prop} {xs ys xs' ys' : List ND} {m m' m2 n2 : MT} {g p g' p' gw pw gp pp gq pq ga pa v v' va : Value} {l l' : List Int} {od oa ob x : Int}
theorem TdR.ext (h : TdR w W c sa sb bm bn mb bo bw bp bq Z Z' xs ys m g p g' p' gw pw m2 gp pp n2 gq pq v v' l l' od oa ob) (hb : Below W.heap.size W W') : TdR w W' c sa sb bm bn mb bo bw bp bq Z Z' xs ys m g p g' p' gw pw m2 gp pp n2 gq pq v v' l l' od oa ob := by
  have s : Stp w W W' c c 20 := Stp.below hb 20
  exact ⟨h.ta.stp s (by decide) (by decide), h.bm.stp s (by decide) (by decide), h.bn.stp s (by decide) (by decide), h.rv.stp s (by decide), h.rv'.stp s (by decide), h.mp.stp s (by decide), h.bp.stp s (by decide) (by decide), h.bq.stp s (by decide) (by decide), h.bw.stp s (by decide) (by decide), h.bo.stp s (by decide)⟩
theorem TdR.onA (h : TdR w W c sa sb bm bn mb bo bw bp bq Z Z' xs ys m g p g' p' gw pw m2 gp pp n2 gq pq v v' l l' od oa ob) (la : LA w W' Z2 sa xs') (mv : Mv Z W Z2 W') : ∃ c', TdR w W' c' sa sb bm bn mb bo bw bp bq Z2 Z' xs' ys m g p g' p' gw pw m2 gp pp n2 gq pq v v' l l' od oa ob ∧ ∀ b, W.heap.size ≤ b → ¬ Z2 b → c' b = 0 := by
  obtain ⟨c', s, hc, hta⟩ := h.ta.onA la mv
  exact ⟨c', ⟨hta, h.bm.stp s (by decide) (by decide), h.bn.stp s (by decide) (by decide), h.rv.stp s (by decide), h.rv'.stp s (by decide), h.mp.stp s (by decide), h.bp.stp s (by decide) (by decide), h.bq.stp s (by decide) (by decide), h.bw.stp s (by decide) (by decide), h.bo.stp s (by decide)⟩, hc⟩
theorem TdR.onB (h : TdR w W c sa sb bm bn mb bo bw bp bq Z Z' xs ys m g p g' p' gw pw m2 gp pp n2 gq pq v v' l l' od oa ob) (lq : LQ w W' Z2 sb ys') (mv : Mv Z' W Z2 W') : ∃ c', TdR w W' c' sa sb bm bn mb bo bw bp bq Z Z2 xs ys' m g p g' p' gw pw m2 gp pp n2 gq pq v v' l l' od oa ob ∧ ∀ b, W.heap.size ≤ b → ¬ Z2 b → c' b = 0 := by
  obtain ⟨c', s, hc, hta⟩ := h.ta.onB lq mv
  exact ⟨c', ⟨hta, h.bm.stp s (by decide) (by decide), h.bn.stp s (by decide) (by decide), h.rv.stp s (by decide), h.rv'.stp s (by decide), h.mp.stp s (by decide), h.bp.stp s (by decide) (by decide), h.bq.stp s (by decide) (by decide), h.bw.stp s (by decide) (by decide), h.bo.stp s (by decide)⟩, hc⟩
theorem TdR.putP (h : TdR w W c sa sb bm bn mb bo bw bp bq Z Z' xs ys m g p g' p' gw pw m2 gp pp n2 gq pq v v' l l' od oa ob) (hr : MtR W (Nc c) m' ga pa) : TdR w (put4 W bp m' ga pa) c sa sb bm bn mb bo bw bp bq Z Z' xs ys m g p g' p' gw pw m' ga pa n2 gq pq v v' l l' od oa ob := by
  have s : Stp w W (put4 W bp m' ga pa) c c 8 := Stp.put h.bp.c h.bp.lo
  exact ⟨h.ta.stp s (by decide) (by decide), h.bm.stp s (by decide) (by decide), h.bn.stp s (by decide) (by decide), h.rv.stp s (by decide), h.rv'.stp s (by decide), h.mp.stp s (by decide), h.bp.put hr (by decide), h.bq.stp s (by decide) (by decide), h.bw.stp s (by decide) (by decide), h.bo.stp s (by decide)⟩
theorem TdR.putQ (h : TdR w W c sa sb bm bn mb bo bw bp bq Z Z' xs ys m g p g' p' gw pw m2 gp pp n2 gq pq v v' l l' od oa ob) (hr : MtR W (Nc c) m' ga pa) : TdR w (put4 W bq m' ga pa) c sa sb bm bn mb bo bw bp bq Z Z' xs ys m g p g' p' gw pw m2 gp pp m' ga pa v v' l l' od oa ob := by
  have s : Stp w W (put4 W bq m' ga pa) c c 9 := Stp.put h.bq.c h.bq.lo
  exact ⟨h.ta.stp s (by decide) (by decide), h.bm.stp s (by decide) (by decide), h.bn.stp s (by decide) (by decide), h.rv.stp s (by decide), h.rv'.stp s (by decide), h.mp.stp s (by decide), h.bp.stp s (by decide) (by decide), h.bq.put hr (by decide), h.bw.stp s (by decide) (by decide), h.bo.stp s (by decide)⟩
theorem TdR.csM (h : TdR w W c sa sb bm bn mb bo bw bp bq Z Z' xs ys m g p g' p' gw pw m2 gp pp n2 gq pq v v' l l' od oa ob) : W.cell? ⟨bm, 0, none⟩ = some (.int .i64 m.k) ∧ W.cell? ⟨bm, 1, none⟩ = some (.int .i64 m.q) ∧ W.cell? ⟨bm, 2, none⟩ = some g ∧ W.cell? ⟨bm, 3, none⟩ = some p ∧ W.cell? ⟨bo, 1, none⟩ = some (.int .i64 oa) ∧ W.cell? ⟨bo, 2, none⟩ = some (.int .i64 ob) := by
  obtain ⟨⟨a0, a1, a2, a3⟩, -⟩ := h.bm.cells
  exact ⟨a0, a1, a2, a3, h.bo.cells.2.1, h.bo.cells.2.2⟩
theorem TdR.csN (h : TdR w W c sa sb bm bn mb bo bw bp bq Z Z' xs ys m g p g' p' gw pw m2 gp pp n2 gq pq v v' l l' od oa ob) : W.cell? ⟨bn, 0, none⟩ = some (.int .i64 m.k) ∧ W.cell? ⟨bn, 1, none⟩ = some (.int .i64 m.q) ∧ W.cell? ⟨bn, 2, none⟩ = some g' ∧ W.cell? ⟨bn, 3, none⟩ = some p' ∧ W.cell? ⟨bo, 1, none⟩ = some (.int .i64 oa) ∧ W.cell? ⟨bo, 2, none⟩ = some (.int .i64 ob) := by
  obtain ⟨⟨a0, a1, a2, a3⟩, -⟩ := h.bn.cells
  exact ⟨a0, a1, a2, a3, h.bo.cells.2.1, h.bo.cells.2.2⟩
theorem TdR.csO (h : TdR w W c sa sb bm bn mb bo bw bp bq Z Z' xs ys m g p g' p' gw pw m2 gp pp n2 gq pq v v' l l' od oa ob) : W.cell? ⟨bo, 1, none⟩ = some (.int .i64 oa) ∧ W.cell? ⟨bo, 2, none⟩ = some (.int .i64 ob) := h.bo.cells.2
end
/-- Behind a round: the arenas, the mints, the rows, the map. -/
structure TdS (w W : World) (c : Nat → Nat) (sa sb bm bn mb : Nat) (Z Z' : Nat → Prop) (X : List ND) (m : MT) (g p g' p' v v' : Value) (l l' : List Int) : Prop where
  ta : Ta w W c sa sb Z Z' X X
  bm : Bx w W c bm 3 m g p
  bn : Bx w W c bn 4 m g' p'
  rv : Rw w W c v 5 l
  rv' : Rw w W c v' 6 l'
  mp : Mp w W c mb 7
section
variable {w W W' : World} {c c' : Nat → Nat} {k sa sb bm bn mb bo bw bp bq : Nat} {Z Z' : Nat → Prop} {X : List ND} {m m2 : MT} {g p g' p' gw pw gp pp gq pq v v' va : Value} {l l' : List Int} {od oa ob x : Int}
theorem TdS.stp (h : TdS w W c sa sb bm bn mb Z Z' X m g p g' p' v v' l l') (s : Stp w W W' c c' k) (hk : 8 ≤ k) : TdS w W' c' sa sb bm bn mb Z Z' X m g p g' p' v v' l l' :=
  ⟨h.ta.stp s (by omega) (by omega), h.bm.stp s (by omega) (by omega), h.bn.stp s (by omega) (by omega), h.rv.stp s (by omega), h.rv'.stp s (by omega), h.mp.stp s (by omega)⟩
theorem TdS.ext (h : TdS w W c sa sb bm bn mb Z Z' X m g p g' p' v v' l l') (hb : Below W.heap.size W W') : TdS w W' c sa sb bm bn mb Z Z' X m g p g' p' v v' l l' := h.stp (Stp.below hb 8) (by decide)
theorem TdS.bl (h : TdS w W c sa sb bm bn mb Z Z' X m g p g' p' v v' l l') : Below w.heap.size w W := h.ta.tx.a.bl
/-- A number more in the first row. -/
theorem TdS.app (h : TdS w W c sa sb bm bn mb Z Z' X m g p g' p' v v' l l') (hr : W'.ownsRow w.heap.size 3 1 va (l.length + 1) (l.map (.int .i64) ++ [.int .i64 x])) (hg : W.grownBy W' v.ownBlock) (hl : va.ownBlock = v.ownBlock ∨ va.ownBlock = some W.heap.size) : ∃ c', Stp w W W' c c' 5 ∧ TdS w W' c' sa sb bm bn mb Z Z' X m g p g' p' va v' (l ++ [x]) l' := by
  obtain ⟨c', s, r⟩ := h.rv.app hr hg hl
  exact ⟨c', s, h.ta.stp s (by decide) (by decide), h.bm.stp s (by decide) (by decide), h.bn.stp s (by decide) (by decide), r, h.rv'.stp s (by decide), h.mp.stp s (by decide)⟩
theorem TdS.app' (h : TdS w W c sa sb bm bn mb Z Z' X m g p g' p' v v' l l') (hr : W'.ownsRow w.heap.size 3 1 va (l'.length + 1) (l'.map (.int .i64) ++ [.int .i64 x])) (hg : W.grownBy W' v'.ownBlock) (hl : va.ownBlock = v'.ownBlock ∨ va.ownBlock = some W.heap.size) : ∃ c', Stp w W W' c c' 6 ∧ TdS w W' c' sa sb bm bn mb Z Z' X m g p g' p' v va l (l' ++ [x]) := by
  obtain ⟨c', s, r⟩ := h.rv'.app hr hg hl
  exact ⟨c', s, h.ta.stp s (by decide) (by decide), h.bm.stp s (by decide) (by decide), h.bn.stp s (by decide) (by decide), h.rv.stp s (by decide), r, h.mp.stp s (by decide)⟩
/-- Both mints are laid into their variables. -/
theorem TdS.put (h : TdS w W c sa sb bm bn mb Z Z' X m g p g' p' v v' l l') (hr : MtR W (Nc c) m2 gp pp) (hq : MtR W (Nc c) m2 gq pq) : TdS w (put4 (put4 W bm m2 gp pp) bn m2 gq pq) c sa sb bm bn mb Z Z' X m2 gp pp gq pq v v' l l' := by
  have s : Stp w W (put4 W bm m2 gp pp) c c 3 := Stp.put h.bm.c h.bm.lo
  have b1 : Bx w (put4 W bm m2 gp pp) c bm 3 m2 gp pp := h.bm.put hr (by decide)
  have b2 : Bx w (put4 W bm m2 gp pp) c bn 4 m g' p' := h.bn.stp s (by decide) (by decide)
  have t : Stp w (put4 W bm m2 gp pp) (put4 (put4 W bm m2 gp pp) bn m2 gq pq) c c 4 := Stp.put b2.c b2.lo
  exact ⟨(h.ta.stp s (by decide) (by decide)).stp t (by decide) (by decide), b1.stp t (by decide) (by decide), b2.put (hq.stp s (by decide)) (by decide), (h.rv.stp s (by decide)).stp t (by decide), (h.rv'.stp s (by decide)).stp t (by decide), (h.mp.stp s (by decide)).stp t (by decide)⟩
theorem TdR.s (h : TdR w W c sa sb bm bn mb bo bw bp bq Z Z' X X m g p g' p' gw pw m2 gp pp m2 gq pq v v' l l' od oa ob) : TdS w W c sa sb bm bn mb Z Z' X m g p g' p' v v' l l' := ⟨h.ta, h.bm, h.bn, h.rv, h.rv', h.mp⟩
/-- The map has turned. -/
theorem TdR.map (h : TdR w W c sa sb bm bn mb bo bw bp bq Z Z' X X m g p g' p' gw pw m2 gp pp m2 gq pq v v' l l' od oa ob) {M : List (Int × Int)} (hM : MtP W' mb M) (ht : Turn (fun b => b = mb) W W') : TdR w W' c sa sb bm bn mb bo bw bp bq Z Z' X X m g p g' p' gw pw m2 gp pp m2 gq pq v v' l l' od oa ob := by
  obtain ⟨s, hm⟩ := h.mp.step hM ht
  exact ⟨h.ta.stp s (by decide) (by decide), h.bm.stp s (by decide) (by decide), h.bn.stp s (by decide) (by decide), h.rv.stp s (by decide), h.rv'.stp s (by decide), hm, h.bp.stp s (by decide) (by decide), h.bq.stp s (by decide) (by decide), h.bw.stp s (by decide) (by decide), h.bo.stp s (by decide)⟩
end
end Go.Proofs.YtfmkniakfgpgjaaDoor

