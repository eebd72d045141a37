/- slices.Clone of counts, slices.Insert at the end. -/
import Derived.Test.YtanakgbhmmemoaaDoorT3
namespace Go.Proofs.YtanakgbhmmemoaaDoor
open Go.RowKit Go.KK Go.Shelf Go.Maps
set_option linter.unusedVariables false
set_option linter.unusedSimpArgs false

theorem infoC : (Tryd.prog.info? 65).map (fun i => (i.zero, i.size, i.bytes)) = some (some (.agg #[.int .i64 0, .int .i64 0]), 2, 16) := by kernel_rfl
theorem cts_one (g : List (Int × Int)) : ∀ u ∈ cts g, u.oneCell' = true := by
  intro u hu
  unfold cts at hu
  obtain ⟨c, _, hc⟩ := List.mem_flatMap.1 hu
  simp only [List.mem_cons, List.mem_nil_iff, or_false] at hc
  rcases hc with rfl | rfl <;> rfl
set_option maxHeartbeats 1000000 in
theorem cloneC_any (A : Option Addr) (c : Nat) (g : List (Int × Int)) (w : World) (h : CtA w A c g) (hn : g.length ≤ 1000000) :
    Calls Tryd.prog 43 #[.slice A g.length c] w fun e w' => ∃ v, e = .returned v ∧ w'.ownsRow w.heap.size 65 2 v g.length (cts g) ∧ Below w.heap.size w w' := by
  obtain ⟨i0, hi, hz0, hz1, hz2⟩ := info_parts infoC
  rcases A with _ | ad
  · have hg : g = [] := by
      rcases g with _ | ⟨x, g⟩
      · rfl
      · obtain ⟨b, o, e, _⟩ := h.cells 0 (.int .i64 x.1) rfl
        cases e
    subst hg
    have he := fun (W : World) => Lib.run_eql_slice_nil (P := Tryd.prog) W 28 65 none 0 c 0 0 Tryd.underlying28
    go_enter Tryd.func43, Tryd.ntmps43
    go_wp2
    go_ret
    exact ⟨_, rfl, World.ownsRow_nil _ _ _ _, Below.refl _ _⟩
  · have h' := SlA.alloc h (.cells #[] 65)
    have he := fun (W : World) => Lib.run_eql_slice_nil (P := Tryd.prog) W 28 65 (some ad) g.length c 0 0 Tryd.underlying28
    go_enter Tryd.func43, Tryd.ntmps43
    go_wp2_with (at_builtin; refine wpList_append_sl _ rfl _ _ 28 rfl w.heap.size 65 i0 (.agg #[.int .i64 0, .int .i64 0]) 2 16 Tryd.underlying28 hi hz0 hz1 hz2 rfl (by decide) _ 0 [] rfl (World.ownsRow_lit w #[] 0 (Nat.le_refl _) (by unfold maxLen; omega) rfl) _ g.length c _ rfl h' (cts_one _) (by unfold maxLen; omega) (by omega) (by simp) ?_; intro v1 w1 hown1 hg1 _)
    go_ret
    refine ⟨_, rfl, by simpa using hown1, ?_⟩
    exact below_append (base := w.heap.size) (size := 2) (xs := []) (n := 0) ((Below.refl _ _).alloc (Nat.le_refl _) _) hg1 (World.ownsRow_lit w #[] 0 (Nat.le_refl _) (by unfold maxLen; omega) rfl) (Nat.le_refl _) (by simp)
theorem sizeC (W : World) : (sizeOf 65).run Tryd.prog W = .ok 2 W := by kernel_rfl
/-- s[n:] of a row of n. -/
theorem run_slice_from {W : World} {A : Option Addr} {n c : Nat} (h : n ≤ c) (hn : n ≤ 1000000) : (Instr.slice 28 (.slice A n c) (some (.int .i64 n)) none none).run Tryd.prog W = .ok (sliced A n n c 2) W := by
  have he : Tryd.prog.elem 28 = 65 := by simp [Program.elem, Tryd.underlying28]
  rw [run_slice_l W 28 A n c (by rw [he]; exact Tryd.underlying28) .i64 (n : Int) (by omega) (by omega), he, sizeC W]
  simp [Result.andThen]
set_option maxHeartbeats 1000000 in
theorem insC_end (base : Nat) (v : Value) (n : Nat) (cs : List Value) (A' : Option Addr) (c' : Nat) (news : List Value) (w : World) (h : w.ownsRow base 65 2 v n cs) (hs : SlA w 2 A' 1 c' news) (h1 : ∀ u ∈ news, u.oneCell' = true) (hn : n ≤ 1000000) (hb : base ≤ w.heap.size) :
    Calls Tryd.prog 46 #[v, .int .i64 n, .slice A' 1 c'] w fun e w' => ∃ v', e = .returned v' ∧ w'.ownsRow base 65 2 v' (n + 1) (cs ++ news) ∧ w.grownBy w' v.ownBlock := by
  obtain ⟨i0, hi, hz0, hz1, hz2⟩ := info_parts infoC
  obtain ⟨A, c, rfl, hsl⟩ := SlA.owned h
  have hnc := hsl.nc; have HCM := hid hsl.cm
  obtain ⟨V, hsl0⟩ : ∃ V, ∀ W : World, (Instr.slice 28 (.slice A n c) (some (.int .i64 n)) none none).run Tryd.prog W = .ok V W := ⟨_, fun W => run_slice_from (W := W) (A := A) hnc hn⟩
  have H := hid h; have HS := hid hs; have H1 := hid h1
  have HN := hid hn; have HB := hid hb
  clear h hs h1 hsl hn hb
  go_enter Tryd.func46, Tryd.ntmps46
  go_wp2_with (at_builtin; refine wpList_append_sl _ rfl _ _ 28 rfl base 65 i0 (.agg #[.int .i64 0, .int .i64 0]) 2 16 Tryd.underlying28 hi hz0 hz1 hz2 rfl (by decide) _ n cs rfl H.out _ 1 c' _ rfl HS.out H1.out (by have := HN.out; unfold maxLen; omega) (by have := HN.out; omega) HB.out ?_; intro v1 w1 hown1 hg1 _; have HO1 := hid hown1; have HG1 := hid hg1; clear hown1 hg1)
  go_ret
  exact ⟨_, rfl, HO1.out, HG1.out⟩
end Go.Proofs.YtanakgbhmmemoaaDoor
