import Derived.Test.YtfmkniakfgpgjaaDoorY05
import Derived.Deep.RegionLaw
import Derived.Lib.Overlaps
import Derived.Lib.AppendZerosOnto
/- slices.Insert of one count, wherever. -/
namespace Go.Proofs.YtfmkniakfgpgjaaDoor
open Go.RowKit Go.KK Go.Shelf Go.Maps
set_option linter.unusedVariables false
set_option linter.unusedSimpArgs false

/-- A count put in at its place. -/
def insG (g : List (Int × Int)) (i : Nat) (x : Int × Int) : List (Int × Int) := g.take i ++ x :: g.drop i
theorem cts_take (g : List (Int × Int)) (i : Nat) : (cts g).take (i * 2) = cts (g.take i) := by
  induction g generalizing i with
  | nil => simp [cts]
  | cons c g ih =>
    rcases i with _ | i
    · simp [cts]
    · have e : cts (c :: g) = .int .i64 c.1 :: .int .i64 c.2 :: cts g := rfl
      have e2 : cts (c :: g.take i) = .int .i64 c.1 :: .int .i64 c.2 :: cts (g.take i) := rfl
      rw [e, List.take_succ_cons, e2, ← ih i, show (i + 1) * 2 = i * 2 + 1 + 1 by omega]; rfl
theorem cts_drop (g : List (Int × Int)) (i : Nat) : (cts g).drop (i * 2) = cts (g.drop i) := by
  induction g generalizing i with
  | nil => simp [cts]
  | cons c g ih =>
    rcases i with _ | i
    · simp [cts]
    · have e : cts (c :: g) = .int .i64 c.1 :: .int .i64 c.2 :: cts g := rfl
      rw [e, List.drop_succ_cons, ← ih i, show (i + 1) * 2 = i * 2 + 1 + 1 by omega]; rfl
theorem cts_ins (g : List (Int × Int)) (i : Nat) (x : Int × Int) : (cts g).take (i * 2) ++ [.int .i64 x.1, .int .i64 x.2] ++ (cts g).drop (i * 2) = cts (insG g i x) := by
  rw [cts_take, cts_drop]
  unfold insG
  simp [cts]
theorem elemC : Tryd.prog.elem 28 = 66 := by simp [Program.elem, Tryd.underlying28]
theorem slC_from {W : World} {b o n c k : Nat} (hk : k ≤ n) (hn : n ≤ 1000001) (hc : c ≠ k) : (Instr.slice 28 (.slice (some ⟨b, o, none⟩) n c) (some (.int .i64 k)) none none).run Tryd.prog W = .ok (.slice (some ⟨b, o + k * 2, none⟩) (n - k) (c - k)) W := by
  rw [run_slice_l W 28 _ n c (by rw [elemC]; exact Tryd.underlying28) .i64 (k : Int) (by omega) (by omega), elemC, sizeC W]
  simp [Result.andThen, sliced, hc, add_lit]
theorem slC_to {W : World} {A : Option Addr} {n c k : Nat} (hk : k ≤ c) (hn : k ≤ 1000001) (hc : c ≠ 0) : (Instr.slice 28 (.slice A n c) none (some (.int .i64 k)) none).run Tryd.prog W = .ok (.slice A k c) W := by
  rw [run_slice_h W 28 _ n c (by rw [elemC]; exact Tryd.underlying28) .i64 (k : Int) (by omega) (by omega), elemC, sizeC W]
  rcases A with _ | ⟨b, o, x⟩
  · simp [Result.andThen, sliced, hc]
  · simp [Result.andThen, sliced, hc, Addr.add]
set_option maxHeartbeats 4000000 in
set_option maxRecDepth 20000 in
theorem insC_room (base gb cap : Nat) (g : List (Int × Int)) (i : Nat) (x : Int × Int) (vb : Nat) (T : TypeId) (w : World) (h : w.ownsRow base 66 2 (.slice (some ⟨gb, 0, none⟩) g.length cap) g.length (cts g)) (hi : i < g.length) (hbig : g.length ≤ 1000000) (hroom : g.length + 1 ≤ cap)
    (hv : w.heap[vb]? = some (.cells #[.int .i64 x.1, .int .i64 x.2] T (0, 0))) (hne : vb ≠ gb) :
    Calls Tryd.prog 39 #[.slice (some ⟨gb, 0, none⟩) g.length cap, .int .i64 i, .slice (some ⟨vb, 0, none⟩) 1 1] w fun e w' => e = .returned (.slice (some ⟨gb, 0, none⟩) (g.length + 1) cap) ∧ w' = (w.drew.setCells gb ((i + 1) * 2) ((cts g).drop (i * 2))).setCells gb (i * 2) [.int .i64 x.1, .int .i64 x.2] := by
  obtain ⟨i0, hi0, hz0, hz1, hz2⟩ := info_parts infoC
  have hsz : (Tryd.prog.info? 66).map (·.size) = some 2 := by rw [hi0]; simp [hz1]
  obtain ⟨L, hL1, hL2, hL3, hL4, hL5⟩ := own_fullS h
  have hcl := cts_len g
  have hsp : ∀ j, j < cap * 2 → (w.cell? ⟨gb, j, none⟩).isSome = true := fun j hj => by rw [hL1.cellAt j (by omega), List.getElem?_eq_getElem (by omega)]; rfl
  have hcs : ∀ (j : Nat) v, (cts g)[j]? = some v → w.cell? ⟨gb, j, none⟩ = some v := fun j v hj => by
    have hl : j < (cts g).length := (List.getElem?_eq_some_iff.1 hj).1
    rw [h.cellAt j (by omega)]; exact hj
  have hfz : ∀ j, w.frozen? ⟨gb, j, none⟩ = false := fun j => hL1.frozenAt j
  have hvs : ∀ (j : Nat) v, [Value.int .i64 x.1, Value.int .i64 x.2][j]? = some v → w.cell? ⟨vb, j, none⟩ = some v := fun j v hj => by
    rw [cell_of_row w vb j _ T (0, 0) hv]; simpa using hj
  have h1v : ∀ v ∈ [Value.int .i64 x.1, Value.int .i64 x.2], v.oneCell' = true := fun u hu => by
    simp only [List.mem_cons, List.mem_nil_iff, or_false] at hu
    rcases hu with rfl | rfl <;> rfl
  have h1c := cts_one g
  have hsa : w.shape? vb = some (T, 2) := by unfold World.shape?; rw [hv]; rfl
  obtain ⟨hgb, hsb⟩ : gb < w.heap.size ∧ w.shape? gb = some (66, cap * 2) := by
    rcases h.2 with ⟨h', _⟩ | ⟨g', cap', cur, h', hb, hg, hnc, hcm, hcz, htake⟩
    · simp at h'
    · simp only [Value.slice.injEq, Option.some.injEq, Addr.mk.injEq, and_true, true_and] at h'
      obtain ⟨rfl, rfl⟩ := h'
      exact ⟨(Array.getElem?_eq_some_iff.1 hg).1, by unfold World.shape?; rw [hg]; simp [hcz]⟩
  have hov : ∀ lb cb, (callFunc 58 #[.slice (some ⟨vb, 0, none⟩) 1 1, .slice (some ⟨gb, (i + 1) * 2, none⟩) lb cb]).run Tryd.prog w = .ok (.value (.bool false)) w := fun lb cb => by
    rw [run_callFunc_extern Tryd.func58 (by kernel_rfl) (by kernel_rfl) (by kernel_rfl) (e := Extern.SlicesOverlaps.overlaps #[28, 28] #[4]) (by kernel_rfl),
      Lib.run_overlaps_apart w 28 4 66 Tryd.underlying28 2 (fun W => sizeC W) ⟨vb, 0, none⟩ ⟨gb, (i + 1) * 2, none⟩ 1 1 lb cb hne T 66 2 (cap * 2) hsa hsb (by omega) (frozen_of_row w vb _ _ T hv) (frozen_of_row w vb _ _ T hv)]
    rfl
  have hdl : ((cts g).drop (i * 2)).length = (g.length - i) * 2 := by rw [List.length_drop, hcl]; omega
  have hcp1 : ∀ ty dc sc, (Builtin.copy_ #[28, 28] ty #[.slice (some ⟨gb, (i + 1) * 2, none⟩) (g.length - i) dc, .slice (some ⟨gb, i * 2, none⟩) (g.length + 1 - i) sc]).run Tryd.prog w.drew = .ok (goInt ((g.length - i : Nat) : Int)) (w.drew.setCells gb ((i + 1) * 2) ((cts g).drop (i * 2))) := fun ty dc sc => by
    have hmin : Nat.min (g.length + 1 - i) (g.length - i) = g.length - i := by simp only [Nat.min_def]; split <;> omega
    have := run_copy_sized (P := Tryd.prog) w.drew 28 28 ty 66 2 gb ((i + 1) * 2) (g.length - i) dc ⟨gb, i * 2, none⟩ (g.length + 1 - i) sc ((cts g).drop (i * 2)) Tryd.underlying28 hsz (by rw [hmin]; exact hdl)
      (fun j v hj => by rw [add_lit]; exact hcs (i * 2 + j) v (by rwa [List.getElem?_drop] at hj))
      (fun j hj => hsp _ (by rw [hdl] at hj; omega)) (fun j hj => hfz _) (fun v hv => h1c v (List.mem_of_mem_drop hv))
    rw [hmin] at this
    exact this
  obtain ⟨W1, hW1⟩ : ∃ W1, W1 = w.drew.setCells gb ((i + 1) * 2) ((cts g).drop (i * 2)) := ⟨_, rfl⟩
  have hsp1 : ∀ k, k < cap * 2 → (W1.cell? ⟨gb, k, none⟩).isSome = true := fun k hk => by
    rw [hW1]
    exact isSome_setCells gb ((cts g).drop (i * 2)) ((i + 1) * 2) w.drew (fun j hj => hsp _ (by rw [hdl] at hj; omega)) _ (hsp k hk)
  have hcp2 : ∀ (W : World), (∀ x, W.cell? x = W1.cell? x) → (∀ x, W.frozen? x = W1.frozen? x) → ∀ ty dc, (Builtin.copy_ #[28, 28] ty #[.slice (some ⟨gb, i * 2, none⟩) (g.length + 1 - i) dc, .slice (some ⟨vb, 0, none⟩) 1 1]).run Tryd.prog W = .ok (goInt 1) (W.setCells gb (i * 2) [.int .i64 x.1, .int .i64 x.2]) := fun W hWc hWf ty dc => by
    have hmin : Nat.min 1 (g.length + 1 - i) = 1 := by simp only [Nat.min_def]; split <;> omega
    have := run_copy_sized (P := Tryd.prog) W 28 28 ty 66 2 gb (i * 2) (g.length + 1 - i) dc ⟨vb, 0, none⟩ 1 1 [.int .i64 x.1, .int .i64 x.2] Tryd.underlying28 hsz (by rw [hmin]; rfl)
      (fun j v hj => by
        rw [add_lit, hWc, hW1, World.cell?_setCells_out gb _ _ _ _ (fun h _ => absurd h hne), Nat.zero_add]
        exact hvs j v hj)
      (fun j hj => by rw [hWc]; exact hsp1 _ (by simp at hj; omega)) (fun j hj => by rw [hWf, hW1, World.frozen?_setCells]; exact hfz _) h1v
    rw [hmin] at this
    exact this
  rw [← hW1] at hcp1 ⊢
  have hw1 : IntKind.i64.wrap ((i : Int) + 1) = (i : Int) + 1 := by rw [IntKind.wrap_i64]; omega
  have s1 : ∀ W : World, (Instr.slice 28 (.slice (some ⟨gb, 0, none⟩) g.length cap) (some (.int .i64 (i : Int))) none none).run Tryd.prog W = .ok (.slice (some ⟨gb, i * 2, none⟩) (g.length - i) (cap - i)) W := fun W => by
    have := slC_from (W := W) (b := gb) (o := 0) (n := g.length) (c := cap) (k := i) (by omega) (by omega) (by omega)
    rwa [Nat.zero_add] at this
  have s2 : ∀ W : World, (Instr.slice 28 (.slice (some ⟨gb, 0, none⟩) g.length cap) none (some (.int .i64 ((g.length : Int) + 1))) none).run Tryd.prog W = .ok (.slice (some ⟨gb, 0, none⟩) (g.length + 1) cap) W := fun W => by
    have := slC_to (W := W) (A := some ⟨gb, 0, none⟩) (n := g.length) (c := cap) (k := g.length + 1) (by omega) (by omega) (by omega)
    exact this
  have s3 : ∀ W : World, (Instr.slice 28 (.slice (some ⟨gb, 0, none⟩) (g.length + 1) cap) (some (.int .i64 ((i : Int) + 1))) none none).run Tryd.prog W = .ok (.slice (some ⟨gb, (i + 1) * 2, none⟩) (g.length - i) (cap - (i + 1))) W := fun W => by
    have := slC_from (W := W) (b := gb) (o := 0) (n := g.length + 1) (c := cap) (k := i + 1) (by omega) (by omega) (by omega)
    rw [Nat.zero_add, show g.length + 1 - (i + 1) = g.length - i by omega] at this
    exact this
  have s4 : ∀ W : World, (Instr.slice 28 (.slice (some ⟨gb, 0, none⟩) (g.length + 1) cap) (some (.int .i64 (i : Int))) none none).run Tryd.prog W = .ok (.slice (some ⟨gb, i * 2, none⟩) (g.length + 1 - i) (cap - i)) W := fun W => by
    have := slC_from (W := W) (b := gb) (o := 0) (n := g.length + 1) (c := cap) (k := i) (by omega) (by omega) (by omega)
    rwa [Nat.zero_add] at this
  have t1 : (((i : Int) == (g.length : Int))) = false := beq_eq_false_iff_ne.2 (by omega)
  have t2 : ¬ ((cap : Int) < (g.length : Int) + 1) := by omega
  have HV := hid hv; have HH := hid h; have HSP := hid hsp; have HCS := hid hcs; have HFZ := hid hfz; have HVS := hid hvs; have HSP1 := hid hsp1
  have HC2 := hid hcp2; have HC1 := hid hcp1
  have HW1 := hid hW1
  have HOV := hid hov
  clear hv h hsp hcs hfz hvs hsp1 hcp2 hcp1 hL1 hL2 hL3 hW1 hsa hsb hov hdl hcl h1c h1v hi0 hz0 hz1 hz2 hsz
  go_enter Tryd.func39, Tryd.ntmps39
  go_wp2_with (simp only [HOV.out])
  have hwt : (((i : Int) + 1)).toNat = i + 1 := by omega
  go_region_law (refine step_copy_runI rfl (.tmp 73) (.tmp 76) 28 28 rfl (.slice (some ⟨gb, (i + 1) * 2, none⟩) (g.length - i) (cap - (i + 1))) (.slice (some ⟨gb, i * 2, none⟩) (g.length + 1 - i) (cap - i)) (by simp [Act.eval, Act.put]) (by simp [Act.eval, Act.put]) (HC1.out _ _ _) ?_)
  all_goals
    go_wp2_with (with_reducible refine wpList_copy_runI _ rfl (.tmp 80) (.tmp 81) 28 28 rfl (.slice (some ⟨gb, i * 2, none⟩) (g.length + 1 - i) (cap - i)) (.slice (some ⟨vb, 0, none⟩) 1 1) rfl rfl (HC2.out _ (fun _ => rfl) (fun _ => rfl) _ _) ?_)
    go_ret
    exact ⟨rfl, rfl⟩
end Go.Proofs.YtfmkniakfgpgjaaDoor

/- slices.Insert of one count, in the middle of a full row; all ways together. -/
namespace Go.Proofs.YtfmkniakfgpgjaaDoor
open Go.RowKit Go.KK Go.Shelf Go.Maps
set_option linter.unusedVariables false
set_option linter.unusedSimpArgs false

def zC : Value := .agg #[.int .i64 0, .int .i64 0]
/-- The new row, as append makes it. -/
def rowC (g : List (Int × Int)) (i G : Nat) : Array Value := ((cts g).take (i * 2)).toArray ++ Builtin.zeroCells zC.cells (g.length + 1 - i) ++ Builtin.zeroCells zC.cells (G - (g.length + 1))
theorem rowC_size (g : List (Int × Int)) {i G : Nat} (hi : i < g.length) (hG : g.length + 1 ≤ G) : (rowC g i G).size = G * 2 := by
  unfold rowC
  have hz : zC.cells.size = 2 := rfl
  rw [Array.size_append, Array.size_append, size_zeroCells, size_zeroCells, hz]
  simp only [List.size_toArray, List.length_take, cts_len]
  omega
theorem rowC_take (g : List (Int × Int)) {i G : Nat} (hi : i < g.length) : (rowC g i G).toList.take (i * 2) = (cts g).take (i * 2) := by
  unfold rowC
  have hc := cts_len g
  have hl : ((cts g).take (i * 2)).length = i * 2 := by rw [List.length_take, cts_len]; omega
  rw [Array.toList_append, Array.toList_append, List.append_assoc, List.take_append_of_le_length (by simpa using by omega), List.take_of_length_le (by simpa using by omega)]
set_option maxHeartbeats 4000000 in
set_option maxRecDepth 20000 in
theorem insC_grow (base gb cap : Nat) (g : List (Int × Int)) (i : Nat) (x : Int × Int) (vb : Nat) (T : TypeId) (w : World) (h : w.ownsRow base 66 2 (.slice (some ⟨gb, 0, none⟩) g.length cap) g.length (cts g)) (hi : i < g.length) (hbig : g.length ≤ 1000000) (hfull : ¬ g.length + 1 ≤ cap)
    (hv : w.heap[vb]? = some (.cells #[.int .i64 x.1, .int .i64 x.2] T (0, 0))) (hne : vb ≠ gb) (G : Nat) (hG : G = grownCap w (g.length + 1) cap 66) :
    Calls Tryd.prog 39 #[.slice (some ⟨gb, 0, none⟩) g.length cap, .int .i64 i, .slice (some ⟨vb, 0, none⟩) 1 1] w fun e w' => e = .returned (.slice (some ⟨w.heap.size, 0, none⟩) (g.length + 1) G) ∧ w' = (((w.alloc (.cells (rowC g i G) 66)).drew.setCells w.heap.size (i * 2) [.int .i64 x.1, .int .i64 x.2]).drew).setCells w.heap.size ((i + 1) * 2) ((cts g).drop (i * 2)) := by
  obtain ⟨i0, hi0, hz0, hz1, hz2⟩ := info_parts infoC
  have hsz : (Tryd.prog.info? 66).map (·.size) = some 2 := by rw [hi0]; simp [hz1]
  have hcl := cts_len g
  have hcap : g.length ≤ cap := by
    obtain ⟨L, hL1, hL2, hL3, hL4, hL5⟩ := own_fullS h
    exact hL4
  have hcs : ∀ (j : Nat) v, (cts g)[j]? = some v → w.cell? ⟨gb, j, none⟩ = some v := fun j v hj => by
    have hl : j < (cts g).length := (List.getElem?_eq_some_iff.1 hj).1
    rw [h.cellAt j (by omega)]; exact hj
  have hvs : ∀ (j : Nat) v, [Value.int .i64 x.1, Value.int .i64 x.2][j]? = some v → w.cell? ⟨vb, j, none⟩ = some v := fun j v hj => by
    rw [cell_of_row w vb j _ T (0, 0) hv]; simpa using hj
  have h1v : ∀ v ∈ [Value.int .i64 x.1, Value.int .i64 x.2], v.oneCell' = true := fun u hu => by
    simp only [List.mem_cons, List.mem_nil_iff, or_false] at hu
    rcases hu with rfl | rfl <;> rfl
  have h1c := cts_one g
  have hgb : gb < w.heap.size := (h.lt gb rfl).2
  have hvw : vb < w.heap.size := (Array.getElem?_eq_some_iff.1 hv).1
  have hdl : ((cts g).drop (i * 2)).length = (g.length - i) * 2 := by rw [List.length_drop, hcl]; omega
  have hold : (Builtin.firstCells i0.size i (.slice (some ⟨gb, 0, none⟩) i cap)).run Tryd.prog w.drew = .ok ((cts g).take (i * 2)).toArray w.drew := by
    rw [hz1]
    exact run_firstCells_some w.drew 2 i ⟨gb, 0, none⟩ i cap ((cts g).take (i * 2)) (by rw [List.length_take, hcl]; omega) (fun j v hj => by
      rw [add_lit, Nat.zero_add]
      rw [List.getElem?_take] at hj
      split at hj
      · exact hcs j v hj
      · cases hj)
  have hik : i + (g.length + 1 - i) = g.length + 1 := by omega
  have hrz : ∀ ty, (Builtin.append_ #[28, 3] ty #[.slice (some ⟨gb, 0, none⟩) i cap, .int .i64 ((g.length : Int) + 1 - (i : Int))]).run Tryd.prog w =
      .ok (.slice (some ⟨w.heap.size, 0, none⟩) (g.length + 1) G) (w.drew.alloc (.cells (rowC g i G) 66)) := fun ty => by
    have h := Lib.run_append_grow_zeros (P := Tryd.prog) w 28 3 ty 66 i0 zC .i64 .i64 Tryd.underlying28 Tryd.underlying3 hi0 hz0 (some ⟨gb, 0, none⟩) i cap ((cts g).take (i * 2)) hold (g.length + 1 - i) (by omega) (by omega) (by omega) (by omega) (by rw [hz2]; omega) (by rw [hz2, hik]; exact growslice_fits (by omega) (by omega))
    rw [hik, ← hG] at h
    rw [show ((g.length : Int) + 1 - (i : Int)) = ((g.length + 1 - i : Nat) : Int) by omega]
    exact h
  have hGn : g.length + 1 ≤ G := by rw [hG]; exact grownCap_ge w _ _ _
  have hG63 : G ≤ maxLen := by
    rw [hG]
    exact grownCap_le_maxLen w (g.length + 1) cap 66 (by unfold maxLen; omega)
  have hRs := rowC_size g (G := G) hi hGn
  generalize rowC g i G = ROW at *
  obtain ⟨W1, hW1⟩ : ∃ W1, W1 = w.drew.alloc (.cells ROW 66) := ⟨_, rfl⟩
  have hN : ∀ j, j < G * 2 → (W1.cell? ⟨w.heap.size, j, none⟩).isSome = true := fun j hj => by
    rw [hW1, World.cell?_alloc_at (w := w.drew) ROW _ w.heap.size j rfl, Array.getElem?_eq_getElem (by omega)]; rfl
  have hNf : ∀ j, W1.frozen? ⟨w.heap.size, j, none⟩ = false := fun j => by rw [hW1]; exact World.frozen?_alloc_at (w := w.drew) ROW _ w.heap.size j rfl
  have hOb : ∀ j v, w.cell? ⟨gb, j, none⟩ = some v → W1.cell? ⟨gb, j, none⟩ = some v := fun j v h => by rw [hW1, World.cell?_alloc_past (w := w.drew) _ gb j hgb]; exact h
  have hOv : ∀ j v, w.cell? ⟨vb, j, none⟩ = some v → W1.cell? ⟨vb, j, none⟩ = some v := fun j v h => by rw [hW1, World.cell?_alloc_past (w := w.drew) _ vb j hvw]; exact h
  have hcpA : ∀ (W : World), (∀ x, W.cell? x = W1.cell? x) → (∀ x, W.frozen? x = W1.frozen? x) → ∀ ty dc, (Builtin.copy_ #[28, 28] ty #[.slice (some ⟨w.heap.size, i * 2, none⟩) (g.length + 1 - i) dc, .slice (some ⟨vb, 0, none⟩) 1 1]).run Tryd.prog W = .ok (goInt 1) (W.setCells w.heap.size (i * 2) [.int .i64 x.1, .int .i64 x.2]) := fun W hWc hWf ty dc => by
    have hmin : Nat.min 1 (g.length + 1 - i) = 1 := by simp only [Nat.min_def]; split <;> omega
    have := run_copy_sized (P := Tryd.prog) W 28 28 ty 66 2 w.heap.size (i * 2) (g.length + 1 - i) dc ⟨vb, 0, none⟩ 1 1 [.int .i64 x.1, .int .i64 x.2] Tryd.underlying28 hsz (by rw [hmin]; rfl)
      (fun j v hj => by rw [add_lit, hWc, Nat.zero_add]; exact hOv _ v (hvs j v hj))
      (fun j hj => by rw [hWc]; exact hN _ (by simp at hj; omega)) (fun j hj => by rw [hWf]; exact hNf _) h1v
    rw [hmin] at this
    exact this
  have hbN : gb ≠ w.heap.size := by omega
  have hcpB : ∀ (W : World), (∀ y, W.cell? y = (W1.setCells w.heap.size (i * 2) [.int .i64 x.1, .int .i64 x.2]).cell? y) → (∀ y, W.frozen? y = (W1.setCells w.heap.size (i * 2) [.int .i64 x.1, .int .i64 x.2]).frozen? y) → ∀ ty dc sc, (Builtin.copy_ #[28, 28] ty #[.slice (some ⟨w.heap.size, (i + 1) * 2, none⟩) (g.length - i) dc, .slice (some ⟨gb, i * 2, none⟩) (g.length - i) sc]).run Tryd.prog W = .ok (goInt ((g.length - i : Nat) : Int)) (W.setCells w.heap.size ((i + 1) * 2) ((cts g).drop (i * 2))) := fun W hWc hWf ty dc sc => by
    have hmin : Nat.min (g.length - i) (g.length - i) = g.length - i := Nat.min_self _
    have := run_copy_sized (P := Tryd.prog) W 28 28 ty 66 2 w.heap.size ((i + 1) * 2) (g.length - i) dc ⟨gb, i * 2, none⟩ (g.length - i) sc ((cts g).drop (i * 2)) Tryd.underlying28 hsz (by rw [hmin]; exact hdl)
      (fun j v hj => by
        rw [add_lit, hWc, World.cell?_setCells_out _ _ _ _ _ (fun h _ => absurd h hbN)]
        exact hOb _ v (hcs (i * 2 + j) v (by rwa [List.getElem?_drop] at hj)))
      (fun j hj => by rw [hWc]; exact isSome_setCells w.heap.size [.int .i64 x.1, .int .i64 x.2] (i * 2) W1 (fun t ht => hN _ (by simp at ht; omega)) _ (hN _ (by rw [hdl] at hj; omega)))
      (fun j hj => by rw [hWf, World.frozen?_setCells]; exact hNf _) (fun v hv => h1c v (List.mem_of_mem_drop hv))
    rw [hmin] at this
    exact this
  subst hW1
  have hE1 : ∀ x, ((w.alloc (.cells ROW 66)).drew).cell? x = (w.drew.alloc (.cells ROW 66)).cell? x := fun x => rfl
  have hE2 : ∀ x, ((w.alloc (.cells ROW 66)).drew).frozen? x = (w.drew.alloc (.cells ROW 66)).frozen? x := fun x => rfl
  have hF1 : ∀ y, (((w.alloc (.cells ROW 66)).drew.setCells w.heap.size (i * 2) [.int .i64 x.1, .int .i64 x.2]).drew).cell? y = ((w.drew.alloc (.cells ROW 66)).setCells w.heap.size (i * 2) [.int .i64 x.1, .int .i64 x.2]).cell? y := fun x => rfl
  have hF2 : ∀ y, (((w.alloc (.cells ROW 66)).drew.setCells w.heap.size (i * 2) [.int .i64 x.1, .int .i64 x.2]).drew).frozen? y = ((w.drew.alloc (.cells ROW 66)).setCells w.heap.size (i * 2) [.int .i64 x.1, .int .i64 x.2]).frozen? y := fun x => rfl
  have hw1 : IntKind.i64.wrap ((i : Int) + 1) = (i : Int) + 1 := by rw [IntKind.wrap_i64]; omega
  have s1 : ∀ W : World, (Instr.slice 28 (.slice (some ⟨gb, 0, none⟩) g.length cap) (some (.int .i64 (i : Int))) none none).run Tryd.prog W = .ok (.slice (some ⟨gb, i * 2, none⟩) (g.length - i) (cap - i)) W := fun W => by
    have := slC_from (W := W) (b := gb) (o := 0) (n := g.length) (c := cap) (k := i) (by omega) (by omega) (by omega)
    rwa [Nat.zero_add] at this
  have s2 : ∀ W : World, (Instr.slice 28 (.slice (some ⟨gb, 0, none⟩) g.length cap) none (some (.int .i64 (i : Int))) none).run Tryd.prog W = .ok (.slice (some ⟨gb, 0, none⟩) i cap) W := fun W => slC_to (W := W) (A := some ⟨gb, 0, none⟩) (n := g.length) (c := cap) (k := i) (by omega) (by omega) (by omega)
  have s3 : ∀ W : World, (Instr.slice 28 (.slice (some ⟨w.heap.size, 0, none⟩) (g.length + 1) G) (some (.int .i64 (i : Int))) none none).run Tryd.prog W = .ok (.slice (some ⟨w.heap.size, i * 2, none⟩) (g.length + 1 - i) (G - i)) W := fun W => by
    have := slC_from (W := W) (b := w.heap.size) (o := 0) (n := g.length + 1) (c := G) (k := i) (by omega) (by omega) (by omega)
    rwa [Nat.zero_add] at this
  have s4 : ∀ W : World, (Instr.slice 28 (.slice (some ⟨w.heap.size, 0, none⟩) (g.length + 1) G) (some (.int .i64 ((i : Int) + 1))) none none).run Tryd.prog W = .ok (.slice (some ⟨w.heap.size, (i + 1) * 2, none⟩) (g.length - i) (G - (i + 1))) W := fun W => by
    have := slC_from (W := W) (b := w.heap.size) (o := 0) (n := g.length + 1) (c := G) (k := i + 1) (by omega) (by omega) (by omega)
    rw [Nat.zero_add, show g.length + 1 - (i + 1) = g.length - i by omega] at this
    exact this
  have t1 : (((i : Int) == (g.length : Int))) = false := beq_eq_false_iff_ne.2 (by omega)
  have t2 : (cap : Int) < (g.length : Int) + 1 := by omega
  have HA := hid hcpA; have HB := hid hcpB; have HZ := hid hrz
  have HE1 := hid hE1; have HE2 := hid hE2; have HF1 := hid hF1; have HF2 := hid hF2
  clear hcpA hcpB hrz hE1 hE2 hF1 hF2 hv h hcs hvs hN hNf hOb hOv h1v h1c hold hik hRs hdl hcl hi0 hz0 hz1 hz2 hsz hG hbN
  go_enter Tryd.func39, Tryd.ntmps39
  go_wp2_with (first
    | (at_builtin; refine Lib.wpList_append_run _ rfl (.tmp 34) (.tmp 39) 28 3 rfl _ _ rfl rfl _ _ (HZ.out _) ?_)
    | (with_reducible refine wpList_copy_runI _ rfl (.tmp 43) (.tmp 44) 28 28 rfl (.slice (some ⟨w.heap.size, i * 2, none⟩) (g.length + 1 - i) (G - i)) (.slice (some ⟨vb, 0, none⟩) 1 1) rfl rfl (HA.out _ HE1.out HE2.out _ _) ?_))
  go_region_law (refine step_copy_runI rfl (.tmp 50) (.tmp 53) 28 28 rfl (.slice (some ⟨w.heap.size, (i + 1) * 2, none⟩) (g.length - i) (G - (i + 1))) (.slice (some ⟨gb, i * 2, none⟩) (g.length - i) (cap - i)) (by simp [Act.eval, Act.put]) (by simp [Act.eval, Act.put]) (HB.out _ HF1.out HF2.out _ _ _) ?_)
  all_goals
    go_wp2
    go_ret
    exact ⟨rfl, rfl⟩
theorem insC_any (base : Nat) (q : Value) (g : List (Int × Int)) (i : Nat) (x : Int × Int) (vb : Nat) (T : TypeId) (w : World) (h : w.ownsRow base 66 2 q g.length (cts g)) (hi : i ≤ g.length) (hbig : g.length ≤ 1000000)
    (hv : w.heap[vb]? = some (.cells #[.int .i64 x.1, .int .i64 x.2] T (0, 0))) (hne : q.ownBlock ≠ some vb) (hbase : base ≤ w.heap.size) :
    Calls Tryd.prog 39 #[q, .int .i64 i, .slice (some ⟨vb, 0, none⟩) 1 1] w fun e w' => ∃ q', e = .returned q' ∧ w'.ownsRow base 66 2 q' (g.length + 1) (cts (insG g i x)) ∧ w.grownBy w' q.ownBlock := by
  have hcl := cts_len g
  have h1v : ∀ v ∈ [Value.int .i64 x.1, Value.int .i64 x.2], v.oneCell' = true := fun u hu => by
    simp only [List.mem_cons, List.mem_nil_iff, or_false] at hu
    rcases hu with rfl | rfl <;> rfl
  by_cases hin : i < g.length
  · rcases h.2 with ⟨rfl, hn0⟩ | ⟨gb, cap, cur, rfl, hb, hg, hnc, hcm, hcz, htake⟩
    · omega
    · have hvg : vb ≠ gb := fun e => hne (by rw [e]; rfl)
      have hgl : gb < w.heap.size := (Array.getElem?_eq_some_iff.1 hg).1
      have hins := cts_ins g i x
      by_cases hroom : g.length + 1 ≤ cap
      · refine (insC_room base gb cap g i x vb T w h hin hbig hroom hv hvg).mono ?_
        rintro e w' ⟨rfl, rfl⟩
        obtain ⟨L, hL1, hL2, hL3, hL4, hL5⟩ := own_fullS h
        refine ⟨_, rfl, ?_, grown_setCells _ _ _ (grown_setCells _ _ _ (grown_drew (World.grownBy.refl _ _)))⟩
        have ho := own_setCellsS [.int .i64 x.1, .int .i64 x.2] (i * 2) _ _ (own_setCellsS ((cts g).drop (i * 2)) ((i + 1) * 2) _ _ (show w.drew.ownsRow base 66 2 _ cap L from hL1))
        have hp := own_partS ho hroom
        have he := setL_ins (L := L) (cs := cts g) (vs := [.int .i64 x.1, .int .i64 x.2]) (k := i * 2) (by omega) (by rw [hL2, hcl]; simp; omega) (by rw [← hL3, List.take_take]; congr 1; omega)
        rw [hcl, show g.length * 2 + [Value.int .i64 x.1, Value.int .i64 x.2].length = (g.length + 1) * 2 by simp; omega, show i * 2 + [Value.int .i64 x.1, Value.int .i64 x.2].length = (i + 1) * 2 by simp; omega] at he
        rw [he, hins] at hp
        exact hp
      · obtain ⟨G, hG⟩ : ∃ G, G = grownCap w (g.length + 1) cap 66 := ⟨_, rfl⟩
        refine (insC_grow base gb cap g i x vb T w h hin hbig hroom hv hvg G hG).mono ?_
        rintro e w' ⟨rfl, rfl⟩
        have hGn : g.length + 1 ≤ G := by rw [hG]; exact grownCap_ge w _ _ _
        have hG63 : G ≤ maxLen := by
          rw [hG]
          exact grownCap_le_maxLen w (g.length + 1) cap 66 (by unfold maxLen; omega)
        have hRs := rowC_size g (G := G) hin hGn
        have hRt := rowC_take g (G := G) hin
        refine ⟨_, rfl, ?_, grown_some (grown_far _ _ _ (Nat.le_refl _) (grown_drew (grown_far _ _ _ (Nat.le_refl _) (grown_drew (World.grownBy_alloc w _ none)))))⟩
        have hm := own_madeS (w := w) (base := base) (e := 66) (size := 2) (cap := G) (cur := rowC g i G) hbase hG63 hRs
        have ho := own_setCellsS ((cts g).drop (i * 2)) ((i + 1) * 2) _ _ (show (((w.alloc (.cells (rowC g i G) 66)).drew.setCells w.heap.size (i * 2) [.int .i64 x.1, .int .i64 x.2]).drew).ownsRow base 66 2 _ _ _ from own_setCellsS [.int .i64 x.1, .int .i64 x.2] (i * 2) _ _ (show (w.alloc (.cells (rowC g i G) 66)).drew.ownsRow base 66 2 _ _ _ from hm))
        have hp := own_partS ho hGn
        have he := setL_ins2 (L := (rowC g i G).toList) (cs := cts g) (vs := [.int .i64 x.1, .int .i64 x.2]) (k := i * 2) (by omega) (by rw [show (rowC g i G).toList.length = G * 2 by rw [Array.length_toList]; exact hRs, hcl]; simp; omega) hRt
        rw [hcl, show g.length * 2 + [Value.int .i64 x.1, Value.int .i64 x.2].length = (g.length + 1) * 2 by simp; omega, show i * 2 + [Value.int .i64 x.1, Value.int .i64 x.2].length = (i + 1) * 2 by simp; omega] at he
        rw [he, hins] at hp
        exact hp
  · have hie : i = g.length := by omega
    subst hie
    have hs : SlA w 2 (some ⟨vb, 0, none⟩) 1 1 [.int .i64 x.1, .int .i64 x.2] := ⟨Nat.le_refl _, by decide, rfl, fun j u hj => ⟨vb, 0, rfl, by
      rw [Nat.zero_add, cell_of_row w vb j _ T (0, 0) hv]; simpa using hj⟩⟩
    refine (insC_end base q g.length (cts g) _ 1 _ w h hs h1v hbig hbase).mono ?_
    rintro e w' ⟨v', rfl, ho, hb⟩
    refine ⟨v', rfl, ?_, hb⟩
    have hins := cts_ins g g.length x
    rw [List.take_of_length_le (by omega), List.drop_of_length_le (by omega), List.append_nil] at hins
    rw [← hins]
    exact ho
end Go.Proofs.YtfmkniakfgpgjaaDoor

