import Derived.Test.YtfmkniakfgpgjaaGreatDoorY17
import Derived.Deep.DeepCutAuto
import Derived.Deep.RegionHeld3
/- deduce: apart (lists, what is locked, what is blinded, and all else). -/
namespace Go.Proofs.YtfmkniakfgpgjaaGreatDoor
open Go.RowKit Go.KK Go.Shelf Go.Maps
set_option linter.unusedVariables false
set_option linter.unusedSimpArgs false

theorem boxN {w : World} {v0 v1 v2 v3 : Value} {T : TypeId} : (w.alloc (.cells #[v0, v1, v2, v3] T)).ownsRow w.heap.size T 4 (.slice (some ⟨w.heap.size, 0, none⟩) 1 1) 1 [v0, v1, v2, v3] :=
  ⟨by simp, .inr ⟨w.heap.size, 1, _, rfl, Nat.le_refl _, heap_alloc_new w _, Nat.le_refl _, by decide, rfl, by simp⟩⟩
theorem sizeI (W : World) : (sizeOf 3).run Tryz.prog W = .ok 1 W := by kernel_rfl
theorem run_cut13 {b o n c : Nat} (hc : 3 ≤ c) : ∀ W : World, (Instr.slice 33 (.slice (some ⟨b, o, none⟩) n c) (some (.int .i64 1)) (some (.int .i64 3)) none).run Tryz.prog W = .ok (.slice (some ⟨b, o + 1, none⟩) 2 (c - 1)) W := by
  intro W
  have he : Tryz.prog.elem 33 = 3 := by simp [Program.elem, Tryz.underlying33]
  rw [run_slice_lh W 33 (some ⟨b, o, none⟩) n c (by rw [he]; exact Tryz.underlying33) .i64 .i64 1 3 (by decide) (by decide) (by omega), he, sizeI W]
  have : c ≠ 1 := by omega
  simp [Result.andThen, sliced, this, add_lit]
theorem run_cut1 {b o n c : Nat} (hc : 2 ≤ c) (hn : 1 ≤ n) : ∀ W : World, (Instr.slice 33 (.slice (some ⟨b, o, none⟩) n c) (some (.int .i64 1)) none none).run Tryz.prog W = .ok (.slice (some ⟨b, o + 1, none⟩) (n - 1) (c - 1)) W := by
  intro W
  have he : Tryz.prog.elem 33 = 3 := by simp [Program.elem, Tryz.underlying33]
  rw [run_slice_l W 33 (some ⟨b, o, none⟩) n c (by rw [he]; exact Tryz.underlying33) .i64 1 (by decide) (by omega), he, sizeI W]
  have : c ≠ 1 := by omega
  simp [Result.andThen, sliced, this, add_lit]
section
variable {W W' : World} {G R : Nat → Prop} {A : Option Addr} {n c : Nat} {l : List Int}
theorem KeepL.up (h : KeepL W G A n c l) (hb : Below W.heap.size W W') : KeepL W' G A n c l := fun W2 hs hk => h W2 (Nat.le_trans hb.size hs) fun b hbl hg => (hk b (Nat.lt_of_lt_of_le hbl hb.size) hg).trans (hb.block b hbl)
theorem KeepL.sub {b o i j : Nat} (h : KeepL W G (some ⟨b, o, none⟩) n c l) (hij : i ≤ j) (hj : j ≤ n) : KeepL W G (some ⟨b, o + i, none⟩) (j - i) (c - i) ((l.drop i).take (j - i)) := fun W2 hs hk => by
  have h1 := h W2 hs hk
  have hl := h1.lenI
  have hnc := h1.nc
  have hcm := h1.cm
  refine ⟨by omega, by omega, by simp; omega, fun k u hu => ?_⟩
  rw [List.getElem?_map, List.getElem?_take, List.getElem?_drop] at hu
  split at hu
  · obtain ⟨b', off, e, hc⟩ := h1.cells (i + k) u (by rw [List.getElem?_map]; exact hu)
    injection e with e
    injection e with e1 e2
    subst e1; subst e2
    exact ⟨b, o + i, rfl, by rw [Nat.add_assoc]; exact hc⟩
  · cases hu
end
section
variable (W : World) (G R : Nat → Prop) (sp : Nat) (lv uv : Value) (xs : List ND) (s : SD) (t : Nat) (x : ND) (h : SpA W G R sp lv uv xs s) (hx : xs[t]? = some x)
include h hx
theorem ap_bound : x.l.length ≤ 64 := by
  have := h.ok.may t x hx
  unfold mayB shB at this
  simp only [Bool.and_eq_true, decide_eq_true_eq] at this
  exact this.1.1.1.1.1.1.2
theorem ap_has : ∀ y ∈ x.l, hasB xs y = true := fun y hy => by
  have := h.ok.may t x hx
  unfold mayB at this
  simp only [Bool.and_eq_true, List.all_eq_true] at this
  have h3 := has_iff.1 (this.1.2 y hy)
  rw [List.length_take] at h3
  exact has_iff.2 ⟨h3.1, by omega⟩
set_option maxHeartbeats 2000000 in
set_option maxRecDepth 100000 in
/-- A list. -/
theorem ap3 (ho : x.o = 3) : Calls Tryz.prog 140 #[.pointer (some ⟨sp, 0, none⟩), .int .i64 t] W fun e w' => e = .returned (.tuple #[]) ∧ SpS W G R sp lv uv xs (Go.KK.addL s x.l) w' := by
  have H := hid h
  have hxb := ap_bound W G R sp lv uv xs s t x h hx
  have HXH := hid (ap_has W G R sp lv uv xs s t x h hx)
  have htx : (t : Int) < (xs.length : Int) := by have := (List.getElem?_eq_some_iff.1 hx).1; omega
  obtain ⟨bn, on, cn, A', c', rfl, hcell, hkl⟩ := h.keep hx
  obtain ⟨y0, y1, y2, y3⟩ := hcell W (Nat.le_refl _) fun _ _ _ => rfl
  rw [ho] at y0
  obtain ⟨iv, ov, ⟨c0, c1, c2, c3⟩, -⟩ := h.cells
  have HKL := hid hkl
  clear h hx hcell hkl ho
  go_enter Tryz.func140, Tryz.ntmps140
  go_upto_region 3 with fail
  refine forget (R := fun V => Below W.heap.size W V ∧ V.ownsRow W.heap.size 64 4 (.slice (some ⟨W.heap.size, 0, none⟩) 1 1) 1 [.int .i64 3, .int .i64 x.n, .string x.s, .slice A' x.l.length c']) ?_ ⟨(Below.refl _ _).alloc (Nat.le_refl _) _, boxN⟩
  clear y0 y1 y2 y3 c0 c1 c2 c3
  rintro V ⟨hb, hx4⟩
  have HV := hid hb
  obtain ⟨⟨n0, n1, n2, n3⟩, -⟩ := box4 hx4
  have HAD := hid (add_any V G R sp _ _ xs s A' _ c' x.l (H.out.ext hb) (HKL.out.up hb) HXH.out (by omega))
  clear hb hx4
  go_wp2_with fail
  refine HAD.out.mono ?_
  rintro e w5 ⟨rfl, hs5⟩
  have HS5 := hid (hs5.first HV.out)
  clear hs5
  go_wp2_with fail
  go_end0
  exact ⟨rfl, HS5.out⟩
set_option maxHeartbeats 2000000 in
set_option maxRecDepth 100000 in
/-- What does not come apart. -/
theorem ap0 (ho3 : x.o ≠ 3) (ho8 : x.o ≠ 8) (ho9 : x.o ≠ 9) (ho10 : x.o ≠ 10) (ho12 : x.o ≠ 12) : Calls Tryz.prog 140 #[.pointer (some ⟨sp, 0, none⟩), .int .i64 t] W fun e w' => e = .returned (.tuple #[]) ∧ SpS W G R sp lv uv xs s w' := by
  have H := hid h
  have htx : (t : Int) < (xs.length : Int) := by have := (List.getElem?_eq_some_iff.1 hx).1; omega
  obtain ⟨bn, on, cn, A', c', rfl, hcell, hkl⟩ := h.keep hx
  obtain ⟨y0, y1, y2, y3⟩ := hcell W (Nat.le_refl _) fun _ _ _ => rfl
  obtain ⟨iv, ov, ⟨c0, c1, c2, c3⟩, -⟩ := h.cells
  have e3 : (x.o == 3) = false := beq_eq_false_iff_ne.2 ho3
  have e8 : (x.o == 8) = false := beq_eq_false_iff_ne.2 ho8
  have e9 : (x.o == 9) = false := beq_eq_false_iff_ne.2 ho9
  have e10 : (x.o == 10) = false := beq_eq_false_iff_ne.2 ho10
  have e12 : (x.o == 12) = false := beq_eq_false_iff_ne.2 ho12
  clear h hx hcell hkl ho3 ho8 ho9 ho10 ho12
  go_enter Tryz.func140, Tryz.ntmps140
  go_wp2_with fail
  go_end0
  exact ⟨rfl, H.out.stay ((Below.refl _ _).alloc (Nat.le_refl _) _)⟩
end
end Go.Proofs.YtfmkniakfgpgjaaGreatDoor

/- deduce: apart (what is locked, blinded, sealed). -/
namespace Go.Proofs.YtfmkniakfgpgjaaGreatDoor
open Go.RowKit Go.KK Go.Shelf Go.Maps
set_option linter.unusedVariables false
set_option linter.unusedSimpArgs false

theorem four_of_len {l : List Int} (h : l.length = 4) : ∃ a b c d, l = [a, b, c, d] := by
  rcases l with _ | ⟨a, _ | ⟨b, _ | ⟨c, _ | ⟨d, _ | ⟨e, l⟩⟩⟩⟩⟩
  · cases h
  · cases h
  · cases h
  · cases h
  · exact ⟨a, b, c, d, rfl⟩
  · simp at h
/-- The cells of a list of numbers. -/
theorem cell_of_keep {W : World} {G : Nat → Prop} {A : Option Addr} {n c : Nat} {l : List Int} (h : KeepL W G A n c l) (hn : 0 < n) : ∃ b o, A = some ⟨b, o, none⟩ ∧ ∀ (j : Nat) y, l[j]? = some y → W.cell? ⟨b, o + j, none⟩ = some (.int .i64 y) := by
  obtain ⟨b, o, z, rfl, -, -⟩ := h.here.elemI hn
  refine ⟨b, o, rfl, fun j y hy => ?_⟩
  obtain ⟨b', off, e, hc⟩ := h.here.cells j (.int .i64 y) (by rw [List.getElem?_map, hy]; rfl)
  injection e with e
  injection e with e1 e2
  subst e1; subst e2
  exact hc
section
variable (W : World) (G R : Nat → Prop) (sp : Nat) (lv uv : Value) (xs : List ND) (s : SD) (t : Nat) (x : ND) (h : SpA W G R sp lv uv xs s) (hx : xs[t]? = some x)
include h hx
set_option maxHeartbeats 4000000 in
set_option maxRecDepth 100000 in
/-- What is locked. -/
theorem ap9 (s' : SD) (hs' : s' = if inB s.i (x.l.getD 0 0) = true then Go.KK.addL s (x.l.drop 1) else s) (ho : x.o = 9) : Calls Tryz.prog 140 #[.pointer (some ⟨sp, 0, none⟩), .int .i64 t] W fun e w' => e = .returned (.tuple #[]) ∧ SpS W G R sp lv uv xs s' w' := by
  have H := hid h; have HSE := hid hs'
  clear hs'
  have HXH := hid (ap_has W G R sp lv uv xs s t x h hx)
  have htx : (t : Int) < (xs.length : Int) := by have := (List.getElem?_eq_some_iff.1 hx).1; omega
  have hl4 : x.l.length = 4 := by
    have := h.ok.may t x hx
    unfold mayB shB lenB at this
    rw [ho] at this
    simp only [Bool.and_eq_true] at this
    exact eq_of_beq this.1.1.1.1.1.1.1
  obtain ⟨bn, on, cn, A', c', rfl, hcell, hkl⟩ := h.keep hx
  obtain ⟨y0, y1, y2, y3⟩ := hcell W (Nat.le_refl _) fun _ _ _ => rfl
  obtain ⟨iv, ov, ⟨c0, c1, c2, c3⟩, -⟩ := h.cells
  have hc4 := hkl.here.nc
  obtain ⟨a, b, c, d, hl⟩ := four_of_len hl4
  obtain ⟨xo, xn, xt, xl⟩ := x
  simp only at ho hl
  subst ho; subst hl
  obtain ⟨ba, oa, rfl, hea⟩ := cell_of_keep hkl (by simp)
  have hah := HXH.out a (by simp)
  have ha2 := has_iff.1 hah
  obtain ⟨ka, rfl⟩ := Int.eq_ofNat_of_zero_le ha2.1
  have y3' : W.cell? ⟨bn, on + t * 4 + 3, none⟩ = some (.slice (some ⟨ba, oa, none⟩) 4 c') := y3
  have HKL := hid (show KeepL W G (some ⟨ba, oa, none⟩) 4 c' [(ka : Int), b, c, d] from hkl)
  have hc4' : 4 ≤ c' := hc4
  have hkx : ka < xs.length := by omega
  clear h hx hcell hkl y3 hea hc4 hl4 hah ha2
  go_enter Tryz.func140, Tryz.ntmps140
  go_upto_region 9 with fail
  refine forget (R := fun V => Below W.heap.size W V ∧ V.ownsRow W.heap.size 64 4 (.slice (some ⟨W.heap.size, 0, none⟩) 1 1) 1 [.int .i64 9, .int .i64 xn, .string xt, .slice (some ⟨ba, oa, none⟩) 4 c']) ?_ ⟨(Below.refl _ _).alloc (Nat.le_refl _) _, boxN⟩
  clear y0 y1 y2 y3' c0 c1 c2 c3
  rintro V ⟨hb, hx4⟩
  have HV := hid hb; have HX := hid hx4
  obtain ⟨⟨n0, n1, n2, n3⟩, -⟩ := box4 hx4
  have HS := hid (H.out.ext hb)
  obtain ⟨iv2, ov2, ⟨c0, c1, c2, c3⟩, -, own1, -⟩ := HS.out.cells
  have hlen := HS.out.len
  obtain ⟨ib, cap, rfl, hcb, hfb⟩ := in_cell own1 (t := ka) (by omega)
  have hki : (ka : Int) < (s.i.length : Int) := by omega
  have HKV := hid (HKL.out.up hb)
  obtain ⟨ba2, oa2, e, hea⟩ := cell_of_keep HKV.out (by decide)
  injection e with e
  injection e with e e'
  subst e; subst e'
  have e0 := hea 0 (ka : Int) rfl
  rw [Nat.add_zero] at e0
  clear hb hx4 own1 hea
  rcases hin : inB s.i (ka : Int) with _ | _
  · rw [hin] at hcb
    have HF := hid (show s' = s by
      rw [HSE.out]
      show (if inB s.i (ka : Int) = true then _ else _) = _
      rw [hin]; rfl)
    clear hin
    go_quiet (fail)
    go_wp2_with fail
    go_end0
    exact ⟨rfl, by rw [HF.out]; exact H.out.stay (below_drewN HV.out _)⟩
  · rw [hin] at hcb
    have HF := hid (show s' = Go.KK.addL s [b, c, d] by
      rw [HSE.out]
      show (if inB s.i (ka : Int) = true then _ else _) = _
      rw [hin]; rfl)
    clear hin
    go_quiet (fail)
    go_upto_region 10 with fail
    refine forget (R := fun U => Below W.heap.size W U ∧ U.ownsRow W.heap.size 64 4 (.slice (some ⟨W.heap.size, 0, none⟩) 1 1) 1 [.int .i64 9, .int .i64 xn, .string xt, .slice (some ⟨ba, oa, none⟩) 4 c']) ?_ ⟨below_drewN HV.out _, own_block HX.out fun _ _ => rfl⟩
    clear n0 n1 n2 n3 c0 c1 c2 c3 hcb hfb e0 HKV HV HX HS
    rintro U ⟨hb, hx4⟩
    have HU := hid hb
    obtain ⟨⟨n0, n1, n2, n3⟩, -⟩ := box4 hx4
    have hcut := run_cut1 (b := ba) (o := oa) (n := 4) (c := c') (by omega) (by decide)
    have HKS := hid (show KeepL U G (some ⟨ba, oa + 1, none⟩) 3 (c' - 1) [b, c, d] from (HKL.out.up hb).sub (i := 1) (j := 4) (by decide) (by decide))
    have HAD := hid (add_any U G R sp _ _ xs s _ _ _ [b, c, d] (H.out.ext hb) HKS.out (fun y hy => HXH.out y (by simp at hy ⊢; exact .inr hy)) (by decide))
    clear hb hx4
    go_wp2_with fail
    refine HAD.out.mono ?_
    rintro e w5 ⟨rfl, hs5⟩
    have HS5 := hid (hs5.first HU.out)
    clear hs5
    go_wp2_with fail
    go_end0
    exact ⟨rfl, by rw [HF.out]; exact HS5.out⟩
set_option maxHeartbeats 4000000 in
set_option maxRecDepth 100000 in
/-- What is blinded. -/
theorem ap12 (s' : SD) (hs' : s' = if inB s.i (x.l.getD 1 0) = true then add1 s (x.l.getD 0 0) else s) (ho : x.o = 12) : Calls Tryz.prog 140 #[.pointer (some ⟨sp, 0, none⟩), .int .i64 t] W fun e w' => e = .returned (.tuple #[]) ∧ SpS W G R sp lv uv xs s' w' := by
  have H := hid h; have HSE := hid hs'
  clear hs'
  have HXH := hid (ap_has W G R sp lv uv xs s t x h hx)
  have htx : (t : Int) < (xs.length : Int) := by have := (List.getElem?_eq_some_iff.1 hx).1; omega
  have hl2 : x.l.length = 2 := by
    have := h.ok.may t x hx
    unfold mayB shB lenB at this
    rw [ho] at this
    simp only [Bool.and_eq_true] at this
    exact eq_of_beq this.1.1.1.1.1.1.1
  obtain ⟨bn, on, cn, A', c', rfl, hcell, hkl⟩ := h.keep hx
  obtain ⟨y0, y1, y2, y3⟩ := hcell W (Nat.le_refl _) fun _ _ _ => rfl
  obtain ⟨iv, ov, ⟨c0, c1, c2, c3⟩, -⟩ := h.cells
  obtain ⟨a, b, hl⟩ := two_of_len hl2
  obtain ⟨xo, xn, xt, xl⟩ := x
  simp only at ho hl
  subst ho; subst hl
  obtain ⟨ba, oa, rfl, hea⟩ := cell_of_keep hkl (by simp)
  have hah := HXH.out b (by simp)
  have ha2 := has_iff.1 hah
  obtain ⟨ka, rfl⟩ := Int.eq_ofNat_of_zero_le ha2.1
  have y3' : W.cell? ⟨bn, on + t * 4 + 3, none⟩ = some (.slice (some ⟨ba, oa, none⟩) 2 c') := y3
  have HKL := hid (show KeepL W G (some ⟨ba, oa, none⟩) 2 c' [a, (ka : Int)] from hkl)
  have hkx : ka < xs.length := by omega
  clear h hx hcell hkl y3 hea hl2 hah ha2
  go_enter Tryz.func140, Tryz.ntmps140
  go_upto_region 17 with fail
  refine forget (R := fun V => Below W.heap.size W V ∧ V.ownsRow W.heap.size 64 4 (.slice (some ⟨W.heap.size, 0, none⟩) 1 1) 1 [.int .i64 12, .int .i64 xn, .string xt, .slice (some ⟨ba, oa, none⟩) 2 c']) ?_ ⟨(Below.refl _ _).alloc (Nat.le_refl _) _, boxN⟩
  clear y0 y1 y2 y3' c0 c1 c2 c3
  rintro V ⟨hb, hx4⟩
  have HV := hid hb; have HX := hid hx4
  obtain ⟨⟨n0, n1, n2, n3⟩, -⟩ := box4 hx4
  have HS := hid (H.out.ext hb)
  obtain ⟨iv2, ov2, ⟨c0, c1, c2, c3⟩, -, own1, -⟩ := HS.out.cells
  have hlen := HS.out.len
  obtain ⟨ib, cap, rfl, hcb, hfb⟩ := in_cell own1 (t := ka) (by omega)
  have hki : (ka : Int) < (s.i.length : Int) := by omega
  have HKV := hid (HKL.out.up hb)
  obtain ⟨ba2, oa2, e, hea⟩ := cell_of_keep HKV.out (by decide)
  injection e with e
  injection e with e e'
  subst e; subst e'
  have e1 := hea 1 (ka : Int) rfl
  clear hb hx4 own1 hea
  rcases hin : inB s.i (ka : Int) with _ | _
  · rw [hin] at hcb
    have HF := hid (show s' = s by
      rw [HSE.out]
      show (if inB s.i (ka : Int) = true then _ else _) = _
      rw [hin]; rfl)
    clear hin
    go_quiet (fail)
    go_wp2_with fail
    go_end0
    exact ⟨rfl, by rw [HF.out]; exact H.out.stay (below_drewN HV.out _)⟩
  · rw [hin] at hcb
    have HF := hid (show s' = Go.KK.addL s [a] by
      rw [HSE.out]
      show (if inB s.i (ka : Int) = true then _ else _) = _
      rw [hin]; rfl)
    clear hin
    go_quiet (fail)
    go_upto_region 18 with fail
    refine forget (R := fun U => Below W.heap.size W U ∧ U.ownsRow W.heap.size 64 4 (.slice (some ⟨W.heap.size, 0, none⟩) 1 1) 1 [.int .i64 12, .int .i64 xn, .string xt, .slice (some ⟨ba, oa, none⟩) 2 c']) ?_ ⟨below_drewN HV.out _, own_block HX.out fun _ _ => rfl⟩
    clear n0 n1 n2 n3 c0 c1 c2 c3 hcb hfb e1 HKV HV HX HS
    rintro U ⟨hb, hx4⟩
    have HU := hid hb
    obtain ⟨⟨n0, n1, n2, n3⟩, -⟩ := box4 hx4
    obtain ⟨ba3, oa3, e, hea⟩ := cell_of_keep (HKL.out.up hb) (by decide)
    injection e with e
    injection e with e e'
    subst e; subst e'
    have e0 := hea 0 a rfl
    rw [Nat.add_zero] at e0
    have HAD := hid (add_any (U.alloc (.cells #[.int .i64 a] 3)) G R sp _ _ xs s _ 1 1 [a] ((H.out.ext hb).ext ((Below.refl _ _).alloc (Nat.le_refl _) _)) (keepL_new a fun b hg => Nat.lt_of_lt_of_le (H.out.glt b hg) hb.size) (fun y hy => HXH.out y (by simp at hy ⊢; exact .inl hy)) (by decide))
    clear hb hx4 hea
    go_wp2_with fail
    refine HAD.out.mono ?_
    rintro e w5 ⟨rfl, hs5⟩
    have HS5 := hid ((hs5.first ((Below.refl _ _).alloc (Nat.le_refl _) _)).first HU.out)
    clear hs5
    go_wp2_with fail
    go_end0
    exact ⟨rfl, by rw [HF.out]; exact HS5.out⟩
end
end Go.Proofs.YtfmkniakfgpgjaaGreatDoor

/- deduce: apart (what is sealed, what is signed), and all of it. -/
namespace Go.Proofs.YtfmkniakfgpgjaaGreatDoor
open Go.RowKit Go.KK Go.Shelf Go.Maps
set_option linter.unusedVariables false
set_option linter.unusedSimpArgs false

theorem one_of_len {l : List Int} (h : l.length = 1) : ∃ a, l = [a] := by
  rcases l with _ | ⟨a, _ | ⟨b, l⟩⟩
  · cases h
  · exact ⟨a, rfl⟩
  · simp at h
section
variable (W : World) (G R : Nat → Prop) (sp : Nat) (lv uv : Value) (xs : List ND) (s : SD) (t : Nat) (x : ND) (h : SpA W G R sp lv uv xs s) (hx : xs[t]? = some x)
include h hx
theorem ap_len {o : Int} {k : Nat} (ho : x.o = o) (hk : arN o = some k) : x.l.length = k := by
  have := h.ok.may t x hx
  unfold mayB shB lenB at this
  rw [ho, hk] at this
  simp only [Bool.and_eq_true] at this
  exact eq_of_beq this.1.1.1.1.1.1.1
set_option maxHeartbeats 4000000 in
set_option maxRecDepth 100000 in
/-- What is sealed. -/
theorem ap8 (s' : SD) (hs' : s' = if (nodeF xs (x.l.getD 0 0)).o = 7 ∧ inB s.i ((nodeF xs (x.l.getD 0 0)).l.getD 0 0) = true then Go.KK.addL s ((x.l.drop 1).take 2) else s) (ho : x.o = 8) : Calls Tryz.prog 140 #[.pointer (some ⟨sp, 0, none⟩), .int .i64 t] W fun e w' => e = .returned (.tuple #[]) ∧ SpS W G R sp lv uv xs s' w' := by
  have H := hid h; have HSE := hid hs'
  clear hs'
  have HXH := hid (ap_has W G R sp lv uv xs s t x h hx)
  have htx : (t : Int) < (xs.length : Int) := by have := (List.getElem?_eq_some_iff.1 hx).1; omega
  have hl4 := ap_len W G R sp lv uv xs s t x h hx ho rfl
  obtain ⟨bn, on, cn, A', c', rfl, hcell, hkl⟩ := h.keep hx
  obtain ⟨y0, y1, y2, y3⟩ := hcell W (Nat.le_refl _) fun _ _ _ => rfl
  obtain ⟨iv, ov, ⟨c0, c1, c2, c3⟩, -⟩ := h.cells
  have hc4 := hkl.here.nc
  obtain ⟨a, b, c, d, hl⟩ := four_of_len hl4
  obtain ⟨xo, xn, xt, xl⟩ := x
  simp only at ho hl
  subst ho; subst hl
  obtain ⟨ba, oa, rfl, hea⟩ := cell_of_keep hkl (by simp)
  have hah := HXH.out a (by simp)
  have ha2 := has_iff.1 hah
  obtain ⟨ka, rfl⟩ := Int.eq_ofNat_of_zero_le ha2.1
  have hy := nodeF_get hah
  rw [Int.toNat_natCast] at hy
  have HSE2 := hid (show s' = if (nodeF xs (ka : Int)).o = 7 ∧ inB s.i ((nodeF xs (ka : Int)).l.getD 0 0) = true then Go.KK.addL s [b, c] else s from HSE.out)
  clear HSE
  have HY := hid hy
  have HYH := hid (ap_has W G R sp _ uv xs s ka _ h hy)
  have HYL := hid (fun ho => ap_len W G R sp _ uv xs s ka _ h hy (o := 7) (k := 1) ho rfl)
  generalize nodeF xs (ka : Int) = y at *
  have y3' : W.cell? ⟨bn, on + t * 4 + 3, none⟩ = some (.slice (some ⟨ba, oa, none⟩) 4 c') := y3
  have HKL := hid (show KeepL W G (some ⟨ba, oa, none⟩) 4 c' [(ka : Int), b, c, d] from hkl)
  have hc4' : 4 ≤ c' := hc4
  have hkx : (ka : Int) < (xs.length : Int) := by omega
  clear h hx hcell hkl y3 hea hc4 hl4 hah ha2 hy
  go_enter Tryz.func140, Tryz.ntmps140
  go_upto_region 5 with fail
  refine forget (R := fun V => Below W.heap.size W V ∧ V.ownsRow W.heap.size 64 4 (.slice (some ⟨W.heap.size, 0, none⟩) 1 1) 1 [.int .i64 8, .int .i64 xn, .string xt, .slice (some ⟨ba, oa, none⟩) 4 c']) ?_ ⟨(Below.refl _ _).alloc (Nat.le_refl _) _, boxN⟩
  clear y0 y1 y2 y3' c0 c1 c2 c3
  rintro V ⟨hb, hx4⟩
  have HV := hid hb; have HX := hid hx4
  obtain ⟨⟨n0, n1, n2, n3⟩, -⟩ := box4 hx4
  have hnbV := (hx4.lt W.heap.size rfl).2
  have HS := hid (H.out.ext hb)
  obtain ⟨iv2, ov2, ⟨c0, c1, c2, c3⟩, -⟩ := HS.out.cells
  obtain ⟨bn2, on2, cn2, A2, k2, e, hcell, hkl2⟩ := HS.out.keep HY.out
  injection e with e _ e3
  injection e with e
  injection e with e e'
  subst e; subst e'; subst e3
  obtain ⟨z0, z1, z2, z3⟩ := hcell V (Nat.le_refl _) fun _ _ _ => rfl
  obtain ⟨ba2, oa2, e, hea⟩ := cell_of_keep (HKL.out.up hb) (by decide)
  injection e with e
  injection e with e e'
  subst e; subst e'
  have e0 := hea 0 (ka : Int) rfl
  rw [Nat.add_zero] at e0
  have HK2 := hid hkl2
  have HPK := hid (fun (U : World) (hb : Below V.heap.size V U) =>
    have up : ∀ {p : Addr} {u : Value}, V.cell? p = some u → U.cell? p = some u := fun h => (hb.cell (p := _) (block_lt_of_cell h)).trans h
    (show U.cell? ⟨sp, 0, none⟩ = some (.slice (some ⟨bn, on, none⟩) xs.length cn) ∧ U.cell? ⟨W.heap.size, 3, none⟩ = some (.slice (some ⟨ba, oa, none⟩) 4 c') ∧ U.cell? ⟨ba, oa, none⟩ = some (.int .i64 ka) ∧ U.cell? ⟨bn, on + ka * 4, none⟩ = some (.int .i64 y.o) ∧ U.cell? ⟨bn, on + ka * 4 + 1, none⟩ = some (.int .i64 y.n) ∧ U.cell? ⟨bn, on + ka * 4 + 2, none⟩ = some (.string y.s) ∧ U.cell? ⟨bn, on + ka * 4 + 3, none⟩ = some (.slice A2 y.l.length k2) from
      ⟨up c0, up n3, up e0, up z0, up z1, up z2, up z3⟩))
  have DZ := hid (Below.refl V.heap.size V)
  have DA := hid (DZ.out.alloc (Nat.le_refl _) (.cells #[.int .i64 0, .int .i64 0, .string ⟨#[]⟩, .slice none 0 0] 64))
  clear hb hx4 hea hcell hkl2 n0 n1 n2 c1 c2 c3
  go_cut [5] (fun v U => v = .pointer (some ⟨V.heap.size, 0, none⟩) ∧ Below V.heap.size V U ∧ U.ownsRow V.heap.size 64 4 (.slice (some ⟨V.heap.size, 0, none⟩) 1 1) 1 [.int .i64 y.o, .int .i64 y.n, .string y.s, .slice A2 y.l.length k2])
  case first =>
    go_region_held3 (fun U => U.cell? ⟨sp, 0, none⟩ = some (.slice (some ⟨bn, on, none⟩) xs.length cn) ∧ U.cell? ⟨W.heap.size, 3, none⟩ = some (.slice (some ⟨ba, oa, none⟩) 4 c') ∧ U.cell? ⟨ba, oa, none⟩ = some (.int .i64 ka) ∧ U.cell? ⟨bn, on + ka * 4, none⟩ = some (.int .i64 y.o) ∧ U.cell? ⟨bn, on + ka * 4 + 1, none⟩ = some (.int .i64 y.n) ∧ U.cell? ⟨bn, on + ka * 4 + 2, none⟩ = some (.string y.s) ∧ U.cell? ⟨bn, on + ka * 4 + 3, none⟩ = some (.slice A2 y.l.length k2)) (first | exact HPK.out _ DZ.out | exact HPK.out _ (below_drew DZ.out) | exact HPK.out _ DA.out | exact HPK.out _ (below_drew DA.out) | exact HPK.out _ (below_drew (DZ.out.alloc (Nat.le_refl _) _)) | go_keep) (first | fail)
    all_goals
      go_wp2_with fail
      go_meet
      first
        | exact ⟨rfl, below_drew ((Below.refl _ _).alloc (Nat.le_refl _) _), own_block boxN fun _ _ => rfl⟩
        | exact ⟨rfl, below_drewN ((Below.refl _ _).alloc (Nat.le_refl _) _) _, own_block boxN fun _ _ => rfl⟩
        | exact ⟨rfl, (Below.refl _ _).alloc (Nat.le_refl _) _, boxN⟩
  case rest =>
    obtain ⟨rfl, hb2, hp4⟩ := hcut
    clear n3 c0 z0 z1 z2 z3 e0 DZ DA HPK
    have HB2 := hid (HV.out.trans (hb2.mono HV.out.size)); have HP := hid hp4; have HXW := hid (own_ext HX.out hb2)
    obtain ⟨⟨p0, p1, p2, p3⟩, -⟩ := box4 hp4
    have HSW := hid (H.out.ext HB2.out)
    have HK3 := hid (HK2.out.up hb2)
    clear hb2 hp4 HX HS HK2
    by_cases hyo : y.o = 7
    · obtain ⟨k0, hyl⟩ := one_of_len (HYL.out hyo)
      obtain ⟨yo, yn, yt, yl⟩ := y
      simp only at hyo hyl
      subst hyo; subst hyl
      have hk0 := HYH.out k0 (by simp)
      have hk2 := has_iff.1 hk0
      obtain ⟨q, rfl⟩ := Int.eq_ofNat_of_zero_le hk2.1
      obtain ⟨iv3, ov3, ⟨c0, c1, c2, c3⟩, -, own1, -⟩ := HSW.out.cells
      have hlen := HSW.out.len
      obtain ⟨ib, cap, rfl, hcb, hfb⟩ := in_cell own1 (t := q) (by omega)
      have hqi : (q : Int) < (s.i.length : Int) := by omega
      obtain ⟨by', oy, rfl, hey⟩ := cell_of_keep HK3.out (by simp)
      have f0 := hey 0 (q : Int) rfl
      rw [Nat.add_zero] at f0
      have p3' : wc.cell? ⟨V.heap.size, 3, none⟩ = some (.slice (some ⟨by', oy, none⟩) 1 k2) := p3
      have HSE3 := hid (show s' = if inB s.i (q : Int) = true then Go.KK.addL s [b, c] else s by
        rw [HSE2.out]
        show (if (7 : Int) = 7 ∧ inB s.i (q : Int) = true then _ else _) = _
        simp)
      clear own1 hey p3 hk0 hk2 HSE2
      rcases hin : inB s.i (q : Int) with _ | _
      · rw [hin] at hcb
        have HF := hid (show s' = s by rw [HSE3.out, hin]; rfl)
        clear hin HSE3
        go_upto_region 6 with fail
        go_quiet (fail)
        go_wp2_with fail
        go_end0
        exact ⟨rfl, by rw [HF.out]; exact H.out.stay (by first | exact below_drewN HB2.out _ | exact below_drew HB2.out)⟩
      · rw [hin] at hcb
        have HF := hid (show s' = Go.KK.addL s [b, c] by rw [HSE3.out, hin]; rfl)
        clear hin HSE3
        go_upto_region 6 with fail
        go_quiet (fail)
        go_upto_region 7 with fail
        refine forget (R := fun U => Below W.heap.size W U ∧ U.ownsRow W.heap.size 64 4 (.slice (some ⟨W.heap.size, 0, none⟩) 1 1) 1 [.int .i64 8, .int .i64 xn, .string xt, .slice (some ⟨ba, oa, none⟩) 4 c']) ?_ ⟨below_drewN HB2.out _, own_block HXW.out fun _ _ => rfl⟩
        clear p0 p1 p2 p3' c0 c1 c2 c3 hcb hfb f0 HSW HP HK3 HXW
        rintro U ⟨hb, hx4⟩
        have HU := hid hb
        obtain ⟨⟨n0, n1, n2, n3⟩, -⟩ := box4 hx4
        have hcut := run_cut13 (b := ba) (o := oa) (n := 4) (c := c') (by omega)
        have HKS := hid (show KeepL U G (some ⟨ba, oa + 1, none⟩) 2 (c' - 1) [b, c] from (HKL.out.up hb).sub (i := 1) (j := 3) (by decide) (by decide))
        have HAD := hid (add_any U G R sp _ _ xs s _ _ _ [b, c] (H.out.ext hb) HKS.out (fun y hy => HXH.out y (by simp at hy ⊢; rcases hy with rfl | rfl <;> simp)) (by decide))
        clear hb hx4
        go_wp2_with fail
        refine HAD.out.mono ?_
        rintro e w5 ⟨rfl, hs5⟩
        have HS5 := hid (hs5.first HU.out)
        clear hs5
        go_wp2_with fail
        go_end0
        exact ⟨rfl, by rw [HF.out]; exact HS5.out⟩
    · have hyo' : (y.o == 7) = false := beq_eq_false_iff_ne.2 hyo
      have HF := hid (show s' = s by rw [HSE2.out, if_neg fun h => hyo h.1])
      clear hyo HSE2
      go_upto_region 6 with fail
      go_quiet (fail)
      go_wp2_with fail
      go_end0
      exact ⟨rfl, by rw [HF.out]; exact H.out.stay (by first | exact below_drewN HB2.out _ | exact below_drew HB2.out)⟩
end
end Go.Proofs.YtfmkniakfgpgjaaGreatDoor

/- deduce: apart (what is signed). -/
namespace Go.Proofs.YtfmkniakfgpgjaaGreatDoor
open Go.RowKit Go.KK Go.Shelf Go.Maps
set_option linter.unusedVariables false
set_option linter.unusedSimpArgs false

section
variable (W : World) (G R : Nat → Prop) (sp : Nat) (lv uv : Value) (xs : List ND) (s : SD) (t : Nat) (x : ND) (h : SpA W G R sp lv uv xs s) (hx : xs[t]? = some x)
include h hx
set_option maxHeartbeats 4000000 in
set_option maxRecDepth 100000 in
/-- What is signed. -/
theorem ap10 (hul : ∀ m, (uses xs m).length ≤ 100000000) (s' : SD) (hs' : s' = if (nodeF xs (x.l.getD 1 0)).o = 12 ∧ inB (add1 s (x.l.getD 1 0)).i ((nodeF xs (x.l.getD 1 0)).l.getD 1 0) = true then
      unbF xs (add1 s (x.l.getD 1 0)) (x.l.getD 0 0) ((nodeF xs (x.l.getD 1 0)).l.getD 0 0) else add1 s (x.l.getD 1 0)) (ho : x.o = 10) : Calls Tryz.prog 140 #[.pointer (some ⟨sp, 0, none⟩), .int .i64 t] W fun e w' => e = .returned (.tuple #[]) ∧ SpS W G R sp lv uv xs s' w' := by
  have H := hid h; have HSE := hid hs'
  have HUL := hid hul
  clear hs' hul
  have HXH := hid (ap_has W G R sp lv uv xs s t x h hx)
  have htx : (t : Int) < (xs.length : Int) := by have := (List.getElem?_eq_some_iff.1 hx).1; omega
  have hl2 := ap_len W G R sp lv uv xs s t x h hx ho rfl
  obtain ⟨bn, on, cn, A', c', rfl, hcell, hkl⟩ := h.keep hx
  obtain ⟨y0, y1, y2, y3⟩ := hcell W (Nat.le_refl _) fun _ _ _ => rfl
  obtain ⟨iv, ov, ⟨c0, c1, c2, c3⟩, -⟩ := h.cells
  obtain ⟨a, b, hl⟩ := two_of_len hl2
  obtain ⟨xo, xn, xt, xl⟩ := x
  simp only at ho hl
  subst ho; subst hl
  obtain ⟨ba, oa, rfl, hea⟩ := cell_of_keep hkl (by simp)
  have hah := HXH.out b (by simp)
  have ha2 := has_iff.1 hah
  obtain ⟨kb, rfl⟩ := Int.eq_ofNat_of_zero_le ha2.1
  have hy := nodeF_get hah
  rw [Int.toNat_natCast] at hy
  have HSE2 := hid (show s' = if (nodeF xs (kb : Int)).o = 12 ∧ inB (Go.KK.addL s [(kb : Int)]).i ((nodeF xs (kb : Int)).l.getD 1 0) = true then unbF xs (Go.KK.addL s [(kb : Int)]) a ((nodeF xs (kb : Int)).l.getD 0 0) else Go.KK.addL s [(kb : Int)] from HSE.out)
  clear HSE
  have HY := hid hy
  have HYH := hid (ap_has W G R sp _ uv xs s kb _ h hy)
  have HYL := hid (fun ho => ap_len W G R sp _ uv xs s kb _ h hy (o := 12) (k := 2) ho rfl)
  generalize nodeF xs (kb : Int) = y at *
  have y3' : W.cell? ⟨bn, on + t * 4 + 3, none⟩ = some (.slice (some ⟨ba, oa, none⟩) 2 c') := y3
  have HKL := hid (show KeepL W G (some ⟨ba, oa, none⟩) 2 c' [a, (kb : Int)] from hkl)
  have hkx : (kb : Int) < (xs.length : Int) := by omega
  clear h hx hcell hkl y3 hea hl2 hah ha2 hy
  go_enter Tryz.func140, Tryz.ntmps140
  go_upto_region 12 with fail
  refine forget (R := fun V => Below W.heap.size W V ∧ V.ownsRow W.heap.size 64 4 (.slice (some ⟨W.heap.size, 0, none⟩) 1 1) 1 [.int .i64 10, .int .i64 xn, .string xt, .slice (some ⟨ba, oa, none⟩) 2 c']) ?_ ⟨(Below.refl _ _).alloc (Nat.le_refl _) _, boxN⟩
  clear y0 y1 y2 y3' c0 c1 c2 c3
  rintro U ⟨hb, hx4⟩
  have HU := hid hb; have HXU := hid hx4
  obtain ⟨⟨n0, n1, n2, n3⟩, -⟩ := box4 hx4
  obtain ⟨ba3, oa3, e, hea⟩ := cell_of_keep (HKL.out.up hb) (by decide)
  injection e with e
  injection e with e e'
  subst e; subst e'
  have e1 := hea 1 (kb : Int) rfl
  have HAD := hid (add_any (U.alloc (.cells #[.int .i64 (kb : Int)] 3)) G R sp _ _ xs s _ 1 1 [(kb : Int)] ((H.out.ext hb).ext ((Below.refl _ _).alloc (Nat.le_refl _) _)) (keepL_new (kb : Int) fun b hg => Nat.lt_of_lt_of_le (H.out.glt b hg) hb.size) (fun y hy => HXH.out y (by simp at hy ⊢; exact .inr hy)) (by decide))
  clear hb hx4 hea
  go_wp2_with fail
  refine HAD.out.mono ?_
  rintro e V ⟨rfl, hs5⟩
  have HS5 := hid (hs5.first ((Below.refl _ _).alloc (Nat.le_refl _) _))
  clear hs5 n0 n1 n2 n3 e1 HAD
  obtain ⟨G1, hs1, ht1, hg1⟩ := HS5.out
  have HV := hid (HU.out.size)
  have HS := hid hs1; have HT := hid ht1; have HG := hid hg1
  have HX := hid (own_block (w' := V) HXU.out fun b e => by
    injection e with e
    subst e
    exact ht1.block _ (by have := (HXU.out.lt W.heap.size rfl).2; exact this) fun hg => Nat.lt_irrefl _ (H.out.glt _ hg))
  have HLV := hid ((HKL.out.up HU.out).turn ht1)
  clear hs1 ht1 hg1 HS5
  obtain ⟨⟨n0, n1, n2, n3⟩, -⟩ := box4 HX.out
  have hnbV := (HX.out.lt W.heap.size rfl).2
  obtain ⟨iv2, ov2, ⟨c0, c1, c2, c3⟩, -⟩ := HS.out.cells
  obtain ⟨bn2, on2, cn2, A2, k2, e, hcell, hkl2⟩ := HS.out.keep HY.out
  injection e with e _ e3
  injection e with e
  injection e with e e'
  subst e; subst e'; subst e3
  obtain ⟨z0, z1, z2, z3⟩ := hcell V (Nat.le_refl _) fun _ _ _ => rfl
  have HK2 := hid hkl2
  have hsl := HLV.out
  obtain ⟨ba4, oa4, u0, eA, hu0, e0⟩ := hsl.elemI (k := 0) (by simp)
  injection eA with eA
  injection eA with eA eA2
  subst eA; subst eA2
  obtain ⟨ba4, oa4, u1, eA, hu1, e1⟩ := hsl.elemI (k := 1) (by simp)
  injection eA with eA
  injection eA with eA eA2
  subst eA; subst eA2
  have hu0' : a = u0 := by simpa using hu0
  have hu1' : (kb : Int) = u1 := by simpa using hu1
  subst hu0'; subst hu1'
  rw [Nat.add_zero] at e0
  have HPK := hid (fun (U : World) (hb : Below V.heap.size V U) =>
    have up : ∀ {p : Addr} {u : Value}, V.cell? p = some u → U.cell? p = some u := fun h => (hb.cell (p := _) (block_lt_of_cell h)).trans h
    (show U.cell? ⟨sp, 0, none⟩ = some (.slice (some ⟨bn, on, none⟩) xs.length cn) ∧ U.cell? ⟨W.heap.size, 3, none⟩ = some (.slice (some ⟨ba, oa, none⟩) 2 c') ∧ U.cell? ⟨ba, oa + 1, none⟩ = some (.int .i64 kb) ∧ U.cell? ⟨bn, on + kb * 4, none⟩ = some (.int .i64 y.o) ∧ U.cell? ⟨bn, on + kb * 4 + 1, none⟩ = some (.int .i64 y.n) ∧ U.cell? ⟨bn, on + kb * 4 + 2, none⟩ = some (.string y.s) ∧ U.cell? ⟨bn, on + kb * 4 + 3, none⟩ = some (.slice A2 y.l.length k2) from
      ⟨up c0, up n3, up e1, up z0, up z1, up z2, up z3⟩))
  have DZ := hid (Below.refl V.heap.size V)
  have DA := hid (DZ.out.alloc (Nat.le_refl _) (.cells #[.int .i64 0, .int .i64 0, .string ⟨#[]⟩, .slice none 0 0] 64))
  clear hsl hu0 hu1 hcell hkl2 n0 n1 n2 c1 c2 c3
  go_upto_region 13 with fail
  go_cut [6] (fun v U => v = .pointer (some ⟨V.heap.size, 0, none⟩) ∧ Below V.heap.size V U ∧ U.ownsRow V.heap.size 64 4 (.slice (some ⟨V.heap.size, 0, none⟩) 1 1) 1 [.int .i64 y.o, .int .i64 y.n, .string y.s, .slice A2 y.l.length k2])
  case first =>
    go_region_held3 (fun U => U.cell? ⟨sp, 0, none⟩ = some (.slice (some ⟨bn, on, none⟩) xs.length cn) ∧ U.cell? ⟨W.heap.size, 3, none⟩ = some (.slice (some ⟨ba, oa, none⟩) 2 c') ∧ U.cell? ⟨ba, oa + 1, none⟩ = some (.int .i64 kb) ∧ U.cell? ⟨bn, on + kb * 4, none⟩ = some (.int .i64 y.o) ∧ U.cell? ⟨bn, on + kb * 4 + 1, none⟩ = some (.int .i64 y.n) ∧ U.cell? ⟨bn, on + kb * 4 + 2, none⟩ = some (.string y.s) ∧ U.cell? ⟨bn, on + kb * 4 + 3, none⟩ = some (.slice A2 y.l.length k2)) (first | exact HPK.out _ DZ.out | exact HPK.out _ (below_drew DZ.out) | exact HPK.out _ DA.out | exact HPK.out _ (below_drew DA.out) | exact HPK.out _ (below_drew (DZ.out.alloc (Nat.le_refl _) _)) | go_keep) (first | fail)
    all_goals
      go_wp2_with fail
      go_meet
      first
        | exact ⟨rfl, below_drew ((Below.refl _ _).alloc (Nat.le_refl _) _), own_block boxN fun _ _ => rfl⟩
        | exact ⟨rfl, below_drewN ((Below.refl _ _).alloc (Nat.le_refl _) _) _, own_block boxN fun _ _ => rfl⟩
        | exact ⟨rfl, (Below.refl _ _).alloc (Nat.le_refl _) _, boxN⟩
  case rest =>
    obtain ⟨rfl, hb2, hp4⟩ := hcut
    clear n3 c0 z0 z1 z2 z3 e0 e1 DZ DA HPK
    have HB2 := hid hb2; have HP := hid hp4; have HXW := hid (own_ext HX.out hb2)
    obtain ⟨⟨p0, p1, p2, p3⟩, -⟩ := box4 hp4
    have HSW := hid (HS.out.ext hb2)
    have HK3 := hid (HK2.out.up hb2)
    have HLW := hid (HLV.out.ext hb2)
    have HEND := hid (fun (s2 : SD) (w9 : World) (h9 : SpS wc G1 R sp (.slice (some ⟨bn, on, none⟩) xs.length cn) uv xs s2 w9) =>
      (show SpS W G R sp (.slice (some ⟨bn, on, none⟩) xs.length cn) uv xs s2 w9 from
        SpS.first HU.out (SpS.chain HT.out (fun b hb => HG.out b hb) (SpS.first hb2 h9))))
    clear hb2 hp4 HX HS HK2 HLV
    by_cases hyo : y.o = 12
    · obtain ⟨m0, k0, hyl⟩ := two_of_len (HYL.out hyo)
      obtain ⟨yo, yn, yt, yl⟩ := y
      simp only at hyo hyl
      subst hyo; subst hyl
      have hk0 := HYH.out k0 (by simp)
      have hm0 := hid (HYH.out m0 (by simp))
      have hk2 := has_iff.1 hk0
      obtain ⟨q, rfl⟩ := Int.eq_ofNat_of_zero_le hk2.1
      obtain ⟨iv3, ov3, ⟨c0, c1, c2, c3⟩, -, own1, -⟩ := HSW.out.cells
      have hlen := HSW.out.len
      obtain ⟨ib, cap, rfl, hcb, hfb⟩ := in_cell own1 (t := q) (by omega)
      have hqi : (q : Int) < ((Go.KK.addL s [(kb : Int)]).i.length : Int) := by omega
      obtain ⟨by', oy, rfl, hey⟩ := cell_of_keep HK3.out (by simp)
      have f0 := hey 0 m0 rfl
      have f1 := hey 1 (q : Int) rfl
      rw [Nat.add_zero] at f0
      have p3' : wc.cell? ⟨V.heap.size, 3, none⟩ = some (.slice (some ⟨by', oy, none⟩) 2 k2) := p3
      have HSE3 := hid (show s' = if inB (Go.KK.addL s [(kb : Int)]).i (q : Int) = true then unbF xs (Go.KK.addL s [(kb : Int)]) a m0 else Go.KK.addL s [(kb : Int)] by
        rw [HSE2.out]
        show (if (12 : Int) = 12 ∧ inB (Go.KK.addL s [(kb : Int)]).i (q : Int) = true then _ else _) = _
        simp)
      generalize Go.KK.addL s [(kb : Int)] = s1 at *
      clear own1 hey p3 hk0 hk2 HSE2
      rcases hin : inB s1.i (q : Int) with _ | _
      · rw [hin] at hcb
        have HF := hid (show s' = s1 by rw [HSE3.out, hin]; rfl)
        clear hin HSE3
        go_upto_region 14 with fail
        go_quiet (fail)
        go_wp2_with fail
        go_end0
        exact ⟨rfl, by rw [HF.out]; exact HEND.out _ _ (HSW.out.stay (by first | exact below_drewN (Below.refl _ _) _ | exact below_drew (Below.refl _ _)))⟩
      · rw [hin] at hcb
        have HF := hid (show s' = unbF xs s1 a m0 by rw [HSE3.out, hin]; rfl)
        clear hin HSE3
        go_upto_region 14 with fail
        go_quiet (fail)
        go_upto_region 15 with fail
        have HUB := hid (fun (U : World) (hb : Below wc.heap.size wc U) => (unblind_any U G1 R sp _ uv xs s1 a m0 (HSW.out.ext hb) hm0.out (HUL.out _)).mono fun e w' (h9 : _ ∧ _) => (show e = .returned (.tuple #[]) ∧ SpS W G R sp (.slice (some ⟨bn, on, none⟩) xs.length cn) uv xs s' w' from ⟨h9.1, by rw [HF.out]; exact HEND.out _ _ (h9.2.first hb)⟩))
        obtain ⟨ba4, oa4, u0, eA, hu0, g0⟩ := HLW.out.elemI (k := 0) (by simp)
        injection eA with eA
        injection eA with eA eA2
        subst eA; subst eA2
        have hu0' : a = u0 := by simpa using hu0
        subst hu0'
        rw [Nat.add_zero] at g0
        obtain ⟨⟨n0, n1, n2, n3⟩, -⟩ := box4 HXW.out
        refine forget (R := fun U => Below wc.heap.size wc U ∧ U.cell? ⟨V.heap.size, 3, none⟩ = some (.slice (some ⟨by', oy, none⟩) 2 k2) ∧ U.cell? ⟨W.heap.size, 3, none⟩ = some (.slice (some ⟨ba, oa, none⟩) 2 c') ∧ U.cell? ⟨by', oy, none⟩ = some (.int .i64 m0) ∧ U.cell? ⟨ba, oa, none⟩ = some (.int .i64 a)) ?_ ⟨by first | exact below_drewN (Below.refl _ _) _ | exact below_drew (Below.refl _ _), p3', n3, f0, g0⟩
        clear p0 p1 p2 p3' n0 n1 n2 n3 c0 c1 c2 c3 hcb hfb f0 f1 g0 hu0 HSW HP HK3 HXW HLW
        rintro U ⟨hb, hp3, hn3, hf0, hg0⟩
        have HBU := hid hb
        have HQ := hid (And.intro hp3 (And.intro hn3 (And.intro hf0 hg0)))
        clear hb
        obtain ⟨hp3, hn3, hf0, hg0⟩ := HQ.out
        go_region_with (first
          | (go_at_call 149; refine (HUB.out _ (by first | exact HBU.out | exact below_drew HBU.out | exact below_drewN HBU.out _)).mono ?_; rintro e9 w9 ⟨rfl, h9⟩; have H9 := hid h9; clear h9))
        all_goals
          go_wp2_with fail
          go_end0
          exact ⟨rfl, H9.out⟩
    · have hyo' : (y.o == 12) = false := beq_eq_false_iff_ne.2 hyo
      have HF := hid (show s' = Go.KK.addL s [(kb : Int)] by rw [HSE2.out, if_neg fun h => hyo h.1])
      clear hyo HSE2
      go_upto_region 14 with fail
      go_quiet (fail)
      go_wp2_with fail
      go_end0
      exact ⟨rfl, by rw [HF.out]; exact HEND.out _ _ (HSW.out.stay (by first | exact below_drewN (Below.refl _ _) _ | exact below_drew (Below.refl _ _)))⟩
end
end Go.Proofs.YtfmkniakfgpgjaaGreatDoor

/- deduce: apart, whole. -/
namespace Go.Proofs.YtfmkniakfgpgjaaGreatDoor
open Go.RowKit Go.KK Go.Shelf Go.Maps
set_option linter.unusedVariables false
set_option linter.unusedSimpArgs false

theorem apart_any (W : World) (G R : Nat → Prop) (sp : Nat) (lv uv : Value) (xs : List ND) (s : SD) (t : Int) (h : SpA W G R sp lv uv xs s) (ht : hasB xs t = true) (hul : ∀ m, (uses xs m).length ≤ 100000000) :
    Calls Tryz.prog 140 #[.pointer (some ⟨sp, 0, none⟩), .int .i64 t] W fun e w' => e = .returned (.tuple #[]) ∧ SpS W G R sp lv uv xs (apF xs s t) w' := by
  have h2 := has_iff.1 ht
  obtain ⟨k, rfl⟩ := Int.eq_ofNat_of_zero_le h2.1
  have hx := nodeF_get ht
  rw [Int.toNat_natCast] at hx
  have HA : apF xs s (k : Int) = apF xs s (k : Int) := rfl
  conv at HA => rhs; unfold apF
  by_cases h3 : (nodeF xs (k : Int)).o = 3
  · rw [HA, if_pos h3]; exact ap3 W G R sp lv uv xs s k _ h hx h3
  rw [if_neg h3] at HA
  by_cases h8 : (nodeF xs (k : Int)).o = 8
  · rw [if_pos h8] at HA; exact ap8 W G R sp lv uv xs s k _ h hx _ HA h8
  rw [if_neg h8] at HA
  by_cases h9 : (nodeF xs (k : Int)).o = 9
  · rw [if_pos h9] at HA; exact ap9 W G R sp lv uv xs s k _ h hx _ HA h9
  rw [if_neg h9] at HA
  by_cases h10 : (nodeF xs (k : Int)).o = 10
  · rw [if_pos h10] at HA; exact ap10 W G R sp lv uv xs s k _ h hx hul _ HA h10
  rw [if_neg h10] at HA
  by_cases h12 : (nodeF xs (k : Int)).o = 12
  · rw [if_pos h12] at HA; exact ap12 W G R sp lv uv xs s k _ h hx _ HA h12
  rw [if_neg h12] at HA
  rw [HA]
  exact ap0 W G R sp lv uv xs s k _ h hx h3 h8 h9 h10 h12
end Go.Proofs.YtfmkniakfgpgjaaGreatDoor

