import Derived.Test.YtadbgmfdbahcbaaDoorZE2
import Derived.Deep.DeepCutAuto
/- deduce: apart (lists, what is locked, what is blinded, and all else). -/
namespace Go.Proofs.YtadbgmfdbahcbaaDoor
open Go.RowKit Go.KK Go.Shelf Go.Maps
set_option linter.unusedVariables false
set_option linter.unusedSimpArgs false

theorem boxN {w : World} {v0 v1 v2 v3 : Value} {T : TypeId} : (w.alloc (.cells #[v0, v1, v2, v3] T)).ownsRow w.heap.size T 4 (.slice (some ⟨w.heap.size, 0, none⟩) 1 1) 1 [v0, v1, v2, v3] :=
  ⟨by simp, .inr ⟨w.heap.size, 1, _, rfl, Nat.le_refl _, heap_alloc_new w _, Nat.le_refl _, by decide, rfl, by simp⟩⟩
theorem sizeI (W : World) : (sizeOf 3).run Tryd.prog W = .ok 1 W := by kernel_rfl
theorem run_cut13 {b o n c : Nat} (hc : 3 ≤ c) : ∀ W : World, (Instr.slice 23 (.slice (some ⟨b, o, none⟩) n c) (some (.int .i64 1)) (some (.int .i64 3)) none).run Tryd.prog W = .ok (.slice (some ⟨b, o + 1, none⟩) 2 (c - 1)) W := by
  intro W
  have he : Tryd.prog.elem 23 = 3 := by simp [Program.elem, Tryd.underlying23]
  rw [run_slice_lh W 23 (some ⟨b, o, none⟩) n c (by rw [he]; exact Tryd.underlying23) .i64 .i64 1 3 (by decide) (by decide) (by omega), he, sizeI W]
  have : c ≠ 1 := by omega
  simp [Result.andThen, sliced, this, add_lit]
theorem run_cut1 {b o n c : Nat} (hc : 2 ≤ c) (hn : 1 ≤ n) : ∀ W : World, (Instr.slice 23 (.slice (some ⟨b, o, none⟩) n c) (some (.int .i64 1)) none none).run Tryd.prog W = .ok (.slice (some ⟨b, o + 1, none⟩) (n - 1) (c - 1)) W := by
  intro W
  have he : Tryd.prog.elem 23 = 3 := by simp [Program.elem, Tryd.underlying23]
  rw [run_slice_l W 23 (some ⟨b, o, none⟩) n c (by rw [he]; exact Tryd.underlying23) .i64 1 (by decide) (by omega), he, sizeI W]
  have : c ≠ 1 := by omega
  simp [Result.andThen, sliced, this, add_lit]
section
variable {W W' : World} {G R : Nat → Prop} {A : Option Addr} {n c : Nat} {l : List Int}
theorem KeepL.up (h : KeepL W G A n c l) (hb : Below W.heap.size W W') : KeepL W' G A n c l := fun W2 hs hk => h W2 (Nat.le_trans hb.size hs) fun b hbl hg => (hk b (Nat.lt_of_lt_of_le hbl hb.size) hg).trans (hb.block b hbl)
theorem KeepL.sub {b o i j : Nat} (h : KeepL W G (some ⟨b, o, none⟩) n c l) (hij : i ≤ j) (hj : j ≤ n) : KeepL W G (some ⟨b, o + i, none⟩) (j - i) (c - i) ((l.drop i).take (j - i)) := fun W2 hs hk => by
  have h1 := h W2 hs hk
  have hl := h1.lenI
  have hnc := h1.nc
  have hcm := h1.cm
  refine ⟨by omega, by omega, by simp; omega, fun k u hu => ?_⟩
  rw [List.getElem?_map, List.getElem?_take, List.getElem?_drop] at hu
  split at hu
  · obtain ⟨b', off, e, hc⟩ := h1.cells (i + k) u (by rw [List.getElem?_map]; exact hu)
    injection e with e
    injection e with e1 e2
    subst e1; subst e2
    exact ⟨b, o + i, rfl, by rw [Nat.add_assoc]; exact hc⟩
  · cases hu
end
section
variable (W : World) (G R : Nat → Prop) (sp : Nat) (lv uv : Value) (xs : List ND) (s : SD) (t : Nat) (x : ND) (h : SpA W G R sp lv uv xs s) (hx : xs[t]? = some x)
include h hx
theorem ap_bound : x.l.length ≤ 64 := by
  have := h.ok.may t x hx
  unfold mayB shB at this
  simp only [Bool.and_eq_true, decide_eq_true_eq] at this
  exact this.1.1.1.1.1.1.2
theorem ap_has : ∀ y ∈ x.l, hasB xs y = true := fun y hy => by
  have := h.ok.may t x hx
  unfold mayB at this
  simp only [Bool.and_eq_true, List.all_eq_true] at this
  have h3 := has_iff.1 (this.1.2 y hy)
  rw [List.length_take] at h3
  exact has_iff.2 ⟨h3.1, by omega⟩
set_option maxHeartbeats 2000000 in
set_option maxRecDepth 100000 in
/-- A list. -/
theorem ap3 (ho : x.o = 3) : Calls Tryd.prog 66 #[.pointer (some ⟨sp, 0, none⟩), .int .i64 t] W fun e w' => e = .returned (.tuple #[]) ∧ SpS W G R sp lv uv xs (addL s x.l) w' := by
  have H := hid h
  have hxb := ap_bound W G R sp lv uv xs s t x h hx
  have HXH := hid (ap_has W G R sp lv uv xs s t x h hx)
  have htx : (t : Int) < (xs.length : Int) := by have := (List.getElem?_eq_some_iff.1 hx).1; omega
  obtain ⟨bn, on, cn, A', c', rfl, hcell, hkl⟩ := h.keep hx
  obtain ⟨y0, y1, y2, y3⟩ := hcell W (Nat.le_refl _) fun _ _ _ => rfl
  rw [ho] at y0
  obtain ⟨iv, ov, ⟨c0, c1, c2, c3⟩, -⟩ := h.cells
  have HKL := hid hkl
  clear h hx hcell hkl ho
  go_enter Tryd.func66, Tryd.ntmps66
  go_upto_region 3 with fail
  refine forget (R := fun V => Below W.heap.size W V ∧ V.ownsRow W.heap.size 32 4 (.slice (some ⟨W.heap.size, 0, none⟩) 1 1) 1 [.int .i64 3, .int .i64 x.n, .string x.s, .slice A' x.l.length c']) ?_ ⟨(Below.refl _ _).alloc (Nat.le_refl _) _, boxN⟩
  clear y0 y1 y2 y3 c0 c1 c2 c3
  rintro V ⟨hb, hx4⟩
  have HV := hid hb
  obtain ⟨⟨n0, n1, n2, n3⟩, -⟩ := box4 hx4
  have HAD := hid (add_any V G R sp _ _ xs s A' _ c' x.l (H.out.ext hb) (HKL.out.up hb) HXH.out (by omega))
  clear hb hx4
  go_wp2_with fail
  refine HAD.out.mono ?_
  rintro e w5 ⟨rfl, hs5⟩
  have HS5 := hid (hs5.first HV.out)
  clear hs5
  go_wp2_with fail
  go_end0
  exact ⟨rfl, HS5.out⟩
set_option maxHeartbeats 2000000 in
set_option maxRecDepth 100000 in
/-- What does not come apart. -/
theorem ap0 (ho3 : x.o ≠ 3) (ho8 : x.o ≠ 8) (ho9 : x.o ≠ 9) (ho10 : x.o ≠ 10) (ho12 : x.o ≠ 12) : Calls Tryd.prog 66 #[.pointer (some ⟨sp, 0, none⟩), .int .i64 t] W fun e w' => e = .returned (.tuple #[]) ∧ SpS W G R sp lv uv xs s w' := by
  have H := hid h
  have htx : (t : Int) < (xs.length : Int) := by have := (List.getElem?_eq_some_iff.1 hx).1; omega
  obtain ⟨bn, on, cn, A', c', rfl, hcell, hkl⟩ := h.keep hx
  obtain ⟨y0, y1, y2, y3⟩ := hcell W (Nat.le_refl _) fun _ _ _ => rfl
  obtain ⟨iv, ov, ⟨c0, c1, c2, c3⟩, -⟩ := h.cells
  have e3 : (x.o == 3) = false := beq_eq_false_iff_ne.2 ho3
  have e8 : (x.o == 8) = false := beq_eq_false_iff_ne.2 ho8
  have e9 : (x.o == 9) = false := beq_eq_false_iff_ne.2 ho9
  have e10 : (x.o == 10) = false := beq_eq_false_iff_ne.2 ho10
  have e12 : (x.o == 12) = false := beq_eq_false_iff_ne.2 ho12
  clear h hx hcell hkl ho3 ho8 ho9 ho10 ho12
  go_enter Tryd.func66, Tryd.ntmps66
  go_wp2_with fail
  go_end0
  exact ⟨rfl, H.out.stay ((Below.refl _ _).alloc (Nat.le_refl _) _)⟩
end
end Go.Proofs.YtadbgmfdbahcbaaDoor

