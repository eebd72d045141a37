/- of lists of bools in memory (after dd). -/
import Derived.Test.YtadbgmfdbahcbaaGreatDoorL3
import Derived.Test.YtadbgmfdbahcbaaGreatDoorD2
import Derived.Laws.MakeOwn
import Derived.Laws.Entries
namespace Go.KK
open Go.RowKit
set_option linter.unusedVariables false
set_option linter.unusedSimpArgs false

theorem nd_le {xs : List ND} (ok : Okay xs) {t : Int} (h : hasB xs t = true) : (nodeF xs t).l.length ≤ 64 := by
  have := ok.may _ _ (nodeF_get h)
  unfold mayB shB at this
  simp only [Bool.and_eq_true, decide_eq_true_eq] at this
  exact this.1.1.1.1.1.1.2
end Go.KK
namespace Go.Proofs.YtadbgmfdbahcbaaGreatDoor
open Go.RowKit Go.KK Go.Shelf Go.Maps

section
variable {W : World}
theorem in_cell {iv : Value} {I : List Bool} (h : W.ownsRow 0 4 1 iv I.length (I.map .bool)) {t : Nat} (ht : t < I.length) : ∃ ib cap, iv = .slice (some ⟨ib, 0, none⟩) I.length cap ∧ W.cell? ⟨ib, t, none⟩ = some (.bool (inB I t)) ∧ W.frozen? ⟨ib, t, none⟩ = false := by
  rcases h.2 with ⟨_, h0⟩ | ⟨g, cap, cur, rfl, _⟩
  · omega
  · refine ⟨g, cap, rfl, ?_, h.frozenAt t⟩
    have := h.cells rfl t (.bool I[t]) (by rw [List.getElem?_map, List.getElem?_eq_getElem ht]; rfl)
    rw [add_lit, Nat.zero_add] at this
    rw [this]
    unfold inB
    rw [Int.toNat_natCast, List.getD, List.getElem?_eq_getElem ht]
    rfl
end
theorem made1 (v : Value) (n : Nat) : (madeCells #[v] n).toList = List.replicate n v := by
  apply List.ext_getElem
  · simp [madeCells]
  · intro i h1 h2
    simp [madeCells, Nat.mod_one]
section
variable {w : World} {bc : Array Value}
theorem own_new {T : TypeId} {n : Nat} {v : Value} (hb : bc.toList = List.replicate n v) (hn : n ≤ 100000) : (w.alloc (.cells bc T)).ownsRow w.heap.size T 1 (.slice (some ⟨w.heap.size, 0, none⟩) n n) n (List.replicate n v) :=
  ⟨by simp, .inr ⟨w.heap.size, n, bc, rfl, Nat.le_refl _, heap_alloc_new w _, Nat.le_refl _, by unfold maxLen; omega, by rw [← Array.length_toList, hb]; simp, by rw [hb]; simp⟩⟩
end
theorem infoBool : (Tryz.prog.info? 4).map (fun i => (i.zero, i.size, i.bytes)) = some (some (.bool false), 1, 1) := by kernel_rfl
theorem make1 {P : Program} {t e : TypeId} {i : TypeInfo} {z : Value} {bytes : Nat} (ht : P.underlying t = some (.slice e)) (hi : P.info? e = some i) (hz : i.zero = some z) (hs : i.size = 1) (hb : i.bytes = bytes) (hbb : bytes ≤ 24) (hzc : z.cells = #[z]) {n : Nat} (hn : n ≤ 100000) (U : World) :
    (Instr.makeSlice t (.int .i64 (n : Int)) (.int .i64 (n : Int))).run P U = .ok (.slice (some ⟨U.heap.size, 0, none⟩) n n) (U.alloc (.cells (madeCells #[z] n) e)) := by
  have hbn : bytes * n ≤ 24 * n := Nat.mul_le_mul_right _ hbb
  have hb' : (i.bytes : Int) * (n : Int) ≤ 281474976710656 := by
    have h : ((i.bytes * n : Nat) : Int) ≤ 281474976710656 := by rw [hb]; omega
    rwa [Int.natCast_mul] at h
  have hr := run_make (P := P) U t e i z ht hi hz .i64 .i64 n n (by omega) (by omega) hb' (by omega)
  simp only [Int.toNat_natCast, hs, Nat.mul_one, hzc] at hr
  exact hr
theorem bool_cell {w : World} {mb N : Nat} {I : List Bool} (h : w.ownsRow 0 4 1 (.slice (some ⟨mb, 0, none⟩) N N) N (I.map .bool)) (hI : I.length = N) {t : Nat} (ht : t < N) : w.cell? ⟨mb, t, none⟩ = some (.bool (inB I t)) ∧ w.frozen? ⟨mb, t, none⟩ = false ∧ (w.setCell ⟨mb, t, none⟩ (.bool true)).ownsRow 0 4 1 (.slice (some ⟨mb, 0, none⟩) N N) N ((I.set t true).map .bool) := by
  subst hI
  obtain ⟨ib, cap, e, hc, hf⟩ := in_cell h ht
  injection e with e
  injection e with e
  injection e with e
  subst e
  have := (h.stored t (.bool true)).1
  rw [← List.map_set] at this
  exact ⟨hc, hf, this⟩
def BlR (w : World) (mb N : Nat) (I : List Bool) : Prop := w.ownsRow 0 4 1 (.slice (some ⟨mb, 0, none⟩) N N) N (I.map .bool) ∧ I.length = N
theorem BlR.ext {w w' : World} {mb N : Nat} {I : List Bool} (h : BlR w mb N I) (hb : Below w.heap.size w w') : BlR w' mb N I := ⟨own_ext h.1 hb, h.2⟩
theorem BlR.at {w : World} {mb N : Nat} {I : List Bool} (h : BlR w mb N I) {t : Nat} (ht : t < N) : w.cell? ⟨mb, t, none⟩ = some (.bool (inB I (t : Int))) := (bool_cell h.1 h.2 ht).1
theorem BlR.put {w : World} {mb N : Nat} {I : List Bool} (h : BlR w mb N I) {t : Nat} (ht : t < N) : BlR (w.setCell ⟨mb, t, none⟩ (.bool true)) mb N (I.set t true) := ⟨(bool_cell h.1 h.2 ht).2.2, by rw [List.length_set]; exact h.2⟩
section
variable (xs : List ND)
theorem rnode_cells {w0 : World} {A : Option Addr} {c : Nat} (h : NdA w0 A xs.length c xs) {t : Nat} (ht : t < xs.length) : ∃ b o A' c', A = some ⟨b, o, none⟩ ∧ ∀ U, Below w0.heap.size w0 U → U.cell? ⟨b, o + t * 4, none⟩ = some (.int .i64 (nodeF xs (t : Int)).o) ∧ U.cell? ⟨b, o + t * 4 + 1, none⟩ = some (.int .i64 (nodeF xs (t : Int)).n) ∧ U.cell? ⟨b, o + t * 4 + 2, none⟩ = some (.string (nodeF xs (t : Int)).s) ∧ U.cell? ⟨b, o + t * 4 + 3, none⟩ = some (.slice A' (nodeF xs (t : Int)).l.length c') ∧ SlA U 1 A' (nodeF xs (t : Int)).l.length c' ((nodeF xs (t : Int)).l.map (.int .i64)) := by
  obtain ⟨b, o, x, A', c', rfl, hx, y0, y1, y2, y3, ys⟩ := h.at ht
  have hxe : nodeF xs (t : Int) = x := by
    have := nodeF_get (xs := xs) (t := (t : Int)) (has_iff.2 ⟨by omega, by omega⟩)
    rw [Int.toNat_natCast, hx] at this
    injection this with this
    exact this.symm
  rw [hxe]
  refine ⟨b, o, A', c', rfl, fun U hb => ?_⟩
  have up : ∀ {p : Addr} {u : Value}, w0.cell? p = some u → U.cell? p = some u := fun h => (hb.cell (p := _) (block_lt_of_cell h)).trans h
  exact ⟨up y0, up y1, up y2, up y3, ys.ext hb⟩
end
end Go.Proofs.YtadbgmfdbahcbaaGreatDoor
