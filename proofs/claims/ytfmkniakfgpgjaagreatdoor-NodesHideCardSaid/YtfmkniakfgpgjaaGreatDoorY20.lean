import Derived.Test.YtfmkniakfgpgjaaGreatDoorY19
import Derived.Lib.Builder
import Derived.Lib.AppendStr
import Derived.Lib.UnsafeStr
import Derived.Laws.Externs
import Derived.Test.YtfmkniakfgpgjaaGreatDoorY16
import Derived.Test.YtfmkniakfgpgjaaGreatDoorY17
import Derived.Maps.Own
import Derived.Maps.Views
/- deduce: a strings.Builder at the head of a writer (XW1's, for deduce's writer of four cells): copyCheck, Len, WriteString, WriteByte, String. -/
namespace Go.Proofs.YtfmkniakfgpgjaaGreatDoor
open Go.RowKit Go.KK Go.Shelf Go.Maps
set_option linter.unusedVariables false
set_option linter.unusedSimpArgs false

/-- A writer: what its builder holds as its own address, its bytes, the arena that it writes of. -/
def WrP (B b : Nat) (p a m : Value) (bs : List Value) (w : World) : Prop :=
  B ≤ b ∧ ∃ v, w.heap[b]? = some (.cells #[p, v, a, m] 166 (0, 0)) ∧ w.ownsRow B 5 1 v bs.length bs ∧ v.ownBlock ≠ some b
def Wr (B b : Nat) (a m : Value) (bs : List Value) (w : World) : Prop := ∃ p, (p = .pointer none ∨ p = .pointer (some ⟨b, 0, none⟩)) ∧ WrP B b p a m bs w
theorem wr_sizeG : (Tryz.prog.info? 164).map (·.size) = some 2 := by kernel_rfl
theorem wr_lies : liesAt Tryz.prog Tryz.prog.depth 166 (4 / Tryz.prog.cellsOf 166) 0 164 1 = true := by kernel_rfl
theorem wr_ne : (166 : Nat) ≠ 5 := by decide
/-- All blocks but b and rows of bytes are as they were. -/
def OthG (b : Nat) (w w' : World) : Prop := ∀ k cs T fz, w.heap[k]? = some (.cells cs T fz) → T ≠ 5 → k ≠ b → w'.heap[k]? = w.heap[k]?
theorem OthG.refl (b : Nat) (w : World) : OthG b w w := fun _ _ _ _ _ _ _ => rfl
theorem OthG.trans {b : Nat} {w w' w'' : World} (h : OthG b w w') (k : OthG b w' w'') : OthG b w w'' := fun i cs T fz e hT hb => (k i cs T fz ((h i cs T fz e hT hb).trans e) hT hb).trans (h i cs T fz e hT hb)
theorem OthG.below {b : Nat} {w w' : World} (h : Below w.heap.size w w') : OthG b w w' := fun i cs T fz e _ _ => h.block i (by
  rcases Nat.lt_or_ge i w.heap.size with h' | h'
  · exact h'
  · simp [Array.getElem?_eq_none h'] at e)
theorem OthG.set (b o : Nat) (w : World) (v : Value) : OthG b w (w.setCell ⟨b, o, none⟩ v) := fun i _ _ _ _ _ hb => Below.heap_setCell w ⟨b, o, none⟩ v i hb
theorem OthG.grown {b base n : Nat} {v : Value} {bs : List Value} {w w' : World} (h : w.ownsRow base 5 1 v n bs) (hg : w.grownBy w' v.ownBlock) : OthG b w w' := fun i cs T fz e hT _ => hg.block i (by
  rcases Nat.lt_or_ge i w.heap.size with h' | h'
  · exact h'
  · simp [Array.getElem?_eq_none h'] at e) (fun e2 => by
    rcases h.2 with ⟨rfl, _⟩ | ⟨g, cap, cur, rfl, _, hg', _⟩
    · cases e2
    · injection e2 with e2
      simp only at e2
      subst e2
      rw [hg'] at e
      injection e with e
      injection e with _ e _
      exact hT e.symm)
theorem OthG.cell {b : Nat} {w w' : World} {k o : Nat} {cs : Array Value} {T : TypeId} {fz : Nat × Nat} {v : Value} (h : OthG b w w') (e : w.heap[k]? = some (.cells cs T fz)) (hT : T ≠ 5) (hb : k ≠ b) (hc : w.cell? ⟨k, o, none⟩ = some v) : w'.cell? ⟨k, o, none⟩ = some v :=
  (World.cell?_of_block (a := ⟨k, o, none⟩) (h k cs T fz e hT hb)).trans hc
section
variable {B b : Nat} {p a m : Value} {bs : List Value} {w w' : World}
theorem WrP.lt (h : WrP B b p a m bs w) : b < w.heap.size := by
  obtain ⟨_, v, hb, _⟩ := h
  rcases Nat.lt_or_ge b w.heap.size with h' | h'
  · exact h'
  · simp [Array.getElem?_eq_none h'] at hb
theorem WrP.wr (h : WrP B b (.pointer (some ⟨b, 0, none⟩)) a m bs w) : Wr B b a m bs w := ⟨_, .inr rfl, h⟩
theorem WrP.used (h : WrP B b p a m bs w) (q : Value) : WrP B b q a m bs (w.setCell ⟨b, 0, none⟩ q) := by
  have hlt := h.lt
  obtain ⟨hB, v, hb, hown, hne⟩ := h
  refine ⟨hB, v, ?_, ?_, hne⟩
  · simp [World.setCell, Array.getElem?_modify, hb]
  · exact own_block hown fun k hk => Below.heap_setCell _ _ _ _ (fun e => hne (by rw [hk, e]))
theorem WrP.put {v v' : Value} {bs' : List Value} (hB : B ≤ b) (hb : w.heap[b]? = some (.cells #[p, v, a, m] 166 (0, 0))) (hown : w.ownsRow B 5 1 v' bs'.length bs') : WrP B b p a m bs' (w.setCell ⟨b, 1, none⟩ v') := by
  have hne := Lib.ownBlock_ne hown hb wr_ne
  refine ⟨hB, v', ?_, ?_, hne⟩
  · simp [World.setCell, Array.getElem?_modify, hb]
  · exact own_block hown fun k hk => Below.heap_setCell _ _ _ _ (fun e => hne (by rw [hk, e]))
theorem WrP.ext (h : WrP B b p a m bs w) (hb : Below w.heap.size w w') : WrP B b p a m bs w' := by
  have hlt := h.lt
  obtain ⟨hB, v, hbk, hown, hne⟩ := h
  exact ⟨hB, v, (hb.block b hlt).trans hbk, own_ext hown hb, hne⟩
theorem Wr.ext (h : Wr B b a m bs w) (hb : Below w.heap.size w w') : Wr B b a m bs w' := by
  obtain ⟨p, hp, h⟩ := h
  exact ⟨p, hp, h.ext hb⟩
theorem Wr.lt (h : Wr B b a m bs w) : b < w.heap.size := by obtain ⟨p, hp, h⟩ := h; exact h.lt
theorem Wr.cell3 (h : Wr B b a m bs w) : w.cell? ⟨b, 3, none⟩ = some m := by
  obtain ⟨p, hp, hB, v, hbk, hown, hne⟩ := h
  rw [Lib.cell_of_heap hbk]; rfl
theorem Wr.cell2 (h : Wr B b a m bs w) : w.cell? ⟨b, 2, none⟩ = some a := by
  obtain ⟨p, hp, hB, v, hbk, hown, hne⟩ := h
  rw [Lib.cell_of_heap hbk]; rfl
end
theorem wr_new (w : World) (a m : Value) : Wr w.heap.size w.heap.size a m [] (w.alloc (.cells #[.pointer none, .slice none 0 0, a, m] 166)) :=
  ⟨_, .inl rfl, Nat.le_refl _, .slice none 0 0, heap_alloc_new w _, World.ownsRow_nil _ _ _ _, by simp [Value.ownBlock]⟩
section
variable (B b : Nat) (a m : Value) (bs : List Value) (w : World)
set_option maxHeartbeats 1000000 in
set_option maxRecDepth 100000 in
theorem cc_any (h : Wr B b a m bs w) : Calls Tryz.prog 146 #[.pointer (some ⟨b, 0, none⟩)] w fun e w' => e = .returned (.tuple #[]) ∧ WrP B b (.pointer (some ⟨b, 0, none⟩)) a m bs w' ∧ Below B w w' ∧ OthG b w w' := by
  obtain ⟨j, hj, hjs⟩ := Option.map_eq_some_iff.1 wr_sizeG
  obtain ⟨p, hp, hw⟩ := h
  have HW := hid hw
  obtain ⟨hB, v, hbk, hown, hne⟩ := hw
  have hsh : w.shape? b = some (166, 4) := by simp [World.shape?, hbk]
  have hfz : w.frozen? ⟨b, 0, none⟩ = false := Lib.frozen_of_heap hbk 0
  have c0 : w.cell? ⟨b, 0, none⟩ = some p := by rw [Lib.cell_of_heap hbk]; rfl
  have HB := hid hB
  clear hbk hown hne hB
  rcases hp with rfl | rfl
  · go_enter Tryz.func146, Tryz.ntmps146
    go_wp2
    rw [Lib.run_to_unsafe w ⟨b, 0, none⟩ Tryz.underlying161 Tryz.underlying200 hj (by rw [hjs]; decide) hsh (show (0 : Nat) < 4 by decide)]
    simp only [Result.andThen]
    rw [Oper.upon_value]
    go_wp2
    rw [run_callFunc_extern Tryz.func160 (by kernel_rfl) (by kernel_rfl) (by kernel_rfl) (e := Extern.AbiNoEscape.same) (by kernel_rfl)]
    rw [Lib.run_noEscape]
    simp only [Result.andThen]
    rw [Oper.upon_value]
    go_wp2
    rw [Lib.run_from_unsafe w ⟨b, 0, none⟩ Tryz.underlying200 Tryz.underlying161 hj hsh wr_lies]
    simp only [Result.andThen]
    rw [Oper.upon_value]
    go_wp2
    go_end0
    exact ⟨rfl, HW.out.used _, (Below.refl B w).setCell (p := ⟨b, 0, none⟩) HB.out _, OthG.set _ _ _ _⟩
  · go_enter Tryz.func146, Tryz.ntmps146
    go_wp2
    rw [Lib.run_neq_ptr_same w _ Tryz.underlying161 hj]
    go_wp2
    go_end0
    exact ⟨rfl, HW.out, Below.refl _ _, OthG.refl _ _⟩
set_option maxHeartbeats 2000000 in
set_option maxRecDepth 100000 in
theorem wbyte_any (c : Int) (h : Wr B b a m bs w) (hlen : bs.length + 1 ≤ 140737488355328) (hBw : B ≤ w.heap.size) :
    Calls Tryz.prog 148 #[.pointer (some ⟨b, 0, none⟩), .int .u8 c] w fun e w' => e = .returned .nilIface ∧ Wr B b a m (bs ++ [.int .u8 c]) w' ∧ Below B w w' ∧ OthG b w w' := by
  obtain ⟨i0, hi, hz0, hz1, hz2⟩ := info_parts Tryz.infoU8
  have HW := hid h
  clear h
  go_enter Tryz.func148, Tryz.ntmps148
  go_wp2_with fail
  refine (cc_any B b a m bs _ HW.out).mono ?_
  rintro e w1 ⟨rfl, h1, hb1, ho1⟩
  have HO1 := hid ho1
  clear ho1
  clear HW
  obtain ⟨hB, v, hbk, hown, hne⟩ := h1
  have c0 : w1.cell? ⟨b, 0, none⟩ = some (.pointer (some ⟨b, 0, none⟩)) := by rw [Lib.cell_of_heap hbk]; rfl
  have c1 : w1.cell? ⟨b, 1, none⟩ = some v := by rw [Lib.cell_of_heap hbk]; rfl
  go_wp2_with (at_builtin; refine wpList_append_own _ rfl _ _ 162 rfl B 5 i0 (.int .u8 0) 1 1 Tryz.underlying162 hi hz0 hz1 hz2 rfl (by decide) _ _ _ rfl (hown.alloc _) ⟨w1.heap.size, 0, none⟩ 1 1 [.int .u8 c] rfl rfl ?c1 ?c2 ?c3 ?c4 ?c5 ?_)
  case c1 =>
    intro j u hj
    match j, hj with
    | 0, hj => simp at hj; subst hj; simp [Addr.add]
  case c2 => intro u hu; simp at hu; subst hu; rfl
  case c3 => unfold maxLen; omega
  case c4 => omega
  case c5 => have := hb1.size; simp; omega
  intro v' w2 hown' hgrow _
  have hlt : b < w1.heap.size := by
    rcases Nat.lt_or_ge b w1.heap.size with h' | h'
    · exact h'
    · simp [Array.getElem?_eq_none h'] at hbk
  have hb2 : w2.heap[b]? = some (.cells #[.pointer (some ⟨b, 0, none⟩), v, a, m] 166 (0, 0)) := by
    rw [hgrow.block b (by simp; omega) (fun e => hne e.symm), Lib.alloc_old w1 _ b hlt]
    exact hbk
  have d0 : w2.cell? ⟨b, 0, none⟩ = some (.pointer (some ⟨b, 0, none⟩)) := by rw [Lib.cell_of_heap hb2]; rfl
  have d1 : w2.cell? ⟨b, 1, none⟩ = some v := by rw [Lib.cell_of_heap hb2]; rfl
  have f1 : w2.frozen? ⟨b, 1, none⟩ = false := Lib.frozen_of_heap hb2 1
  obtain ⟨g, cap, rfl⟩ : ∃ g cap, v' = .slice (some ⟨g, 0, none⟩) (bs.length + 1) cap := by
    rcases hown'.2 with ⟨_, h0⟩ | ⟨g, cap, cur, hv, _⟩
    · omega
    · exact ⟨g, cap, hv⟩
  go_wp2
  go_ret
  refine ⟨rfl, (WrP.put (bs' := bs ++ [.int .u8 c]) hB hb2 (by simpa using hown')).wr, ?_, ?_⟩
  · exact ((hb1.alloc (by have := hb1.size; omega) _).grown hgrow (by have := hb1.size; simp; omega) (fun k hk => (hown.lt k hk).1)).setCell (p := ⟨b, 1, none⟩) hB _
  · exact HO1.out.trans ((OthG.below ((Below.refl _ _).alloc (Nat.le_refl _) _)).trans ((OthG.grown (hown.alloc _) hgrow).trans (OthG.set _ _ _ _)))
set_option maxHeartbeats 2000000 in
set_option maxRecDepth 100000 in
theorem wstr_any (s : ByteArray) (h : Wr B b a m bs w) (hlen : bs.length + s.size ≤ 140737488355328) (hBw : B ≤ w.heap.size) :
    Calls Tryz.prog 135 #[.pointer (some ⟨b, 0, none⟩), .string s] w fun e w' => e = .returned (.tuple #[.int .i64 s.size, .nilIface]) ∧ Wr B b a m (bs ++ Lib.strCells s) w' ∧ Below B w w' ∧ OthG b w w' := by
  obtain ⟨i0, hi, hz0, hz1, hz2⟩ := info_parts Tryz.infoU8
  have HW := hid h
  clear h
  go_enter Tryz.func135, Tryz.ntmps135
  go_wp2_with fail
  refine (cc_any B b a m bs _ HW.out).mono ?_
  rintro e w1 ⟨rfl, h1, hb1, ho1⟩
  have HO1 := hid ho1
  clear ho1
  clear HW
  obtain ⟨hB, v, hbk, hown, hne⟩ := h1
  have c0 : w1.cell? ⟨b, 0, none⟩ = some (.pointer (some ⟨b, 0, none⟩)) := by rw [Lib.cell_of_heap hbk]; rfl
  have c1 : w1.cell? ⟨b, 1, none⟩ = some v := by rw [Lib.cell_of_heap hbk]; rfl
  go_wp2_with (at_builtin; refine Lib.wpList_append_own_string _ rfl _ _ 162 9 rfl B 5 i0 Tryz.underlying162 Tryz.underlying9 hi hz0 hz1 hz2 _ _ _ rfl hown s rfl ?c3 ?c4 ?c5 ?_)
  case c3 => unfold maxLen; omega
  case c4 => omega
  case c5 => have := hb1.size; omega
  intro v' w2 hown' hgrow _
  have hlt : b < w1.heap.size := by
    rcases Nat.lt_or_ge b w1.heap.size with h' | h'
    · exact h'
    · simp [Array.getElem?_eq_none h'] at hbk
  have hb2 : w2.heap[b]? = some (.cells #[.pointer (some ⟨b, 0, none⟩), v, a, m] 166 (0, 0)) := by
    rw [hgrow.block b hlt (fun e => hne e.symm)]
    exact hbk
  have d0 : w2.cell? ⟨b, 0, none⟩ = some (.pointer (some ⟨b, 0, none⟩)) := by rw [Lib.cell_of_heap hb2]; rfl
  have d1 : w2.cell? ⟨b, 1, none⟩ = some v := by rw [Lib.cell_of_heap hb2]; rfl
  have f1 : w2.frozen? ⟨b, 1, none⟩ = false := Lib.frozen_of_heap hb2 1
  obtain ⟨ao, n', cap, rfl⟩ : ∃ ao n' cap, v' = .slice ao n' cap := by
    rcases hown'.2 with ⟨hv, _⟩ | ⟨g, cap, cur, hv, _⟩
    · exact ⟨_, _, _, hv⟩
    · exact ⟨_, _, _, hv⟩
  go_wp2
  go_ret2
  refine ⟨rfl, (WrP.put (bs' := bs ++ Lib.strCells s) hB hb2 (by simpa [Lib.strCells_length] using hown')).wr, ?_, ?_⟩
  · exact (hb1.grown hgrow (by have := hb1.size; omega) (fun k hk => (hown.lt k hk).1)).setCell (p := ⟨b, 1, none⟩) hB _
  · exact HO1.out.trans ((OthG.grown hown hgrow).trans (OthG.set _ _ _ _))
set_option maxHeartbeats 2000000 in
set_option maxRecDepth 100000 in
theorem wout_any (l : List UInt8) (h : Wr B b a m (Lib.byteCells l) w) (h0 : l ≠ []) :
    Calls Tryz.prog 117 #[.pointer (some ⟨b, 0, none⟩)] w fun e w' => e = .returned (.string ⟨l.toArray⟩) ∧ Below B w w' := by
  obtain ⟨p, hp, hB, v, hbk, hown, hne⟩ := h
  have hl0 : l.length ≠ 0 := by simpa using h0
  rw [Lib.byteCells_length] at hown
  obtain ⟨g, cap, cur, rfl, hbg, hg, hnc, hcm, hcs, htake⟩ : ∃ g cap cur, v = .slice (some ⟨g, 0, none⟩) l.length cap ∧ B ≤ g ∧ w.heap[g]? = some (.cells cur 5 (0, 0)) ∧ l.length ≤ cap ∧ cap ≤ maxLen ∧ cur.size = cap * 1 ∧ cur.toList.take (l.length * 1) = Lib.byteCells l := by
    rcases hown.2 with ⟨_, hz⟩ | ⟨g, cap, cur, hv, r⟩
    · exact absurd hz hl0
    · exact ⟨g, cap, cur, hv, r⟩
  have c1 : w.drew.cell? ⟨b, 1, none⟩ = some (.slice (some ⟨g, 0, none⟩) l.length cap) := by
    have : w.drew.heap[b]? = some (.cells #[p, .slice (some ⟨g, 0, none⟩) l.length cap, a, m] 166 (0, 0)) := hbk
    rw [Lib.cell_of_heap this]; rfl
  have hSD : (Builtin.unsafeSliceData_ #[162] 181 #[.slice (some ⟨g, 0, none⟩) l.length cap]).run Tryz.prog w.drew = .ok (.pointer (some ⟨g, 0, none⟩)) w.drew :=
    Lib.run_unsafeSliceData_row _ _ _ _ _ _ (by omega)
  have hUS : (Builtin.unsafeString_ #[181, 3] 9 #[.pointer (some ⟨g, 0, none⟩), .int .i64 l.length]).run Tryz.prog w.drew = .ok (.string ⟨l.toArray⟩) (w.drew.freeze ⟨g, 0, none⟩ l.length) := by
    refine Lib.run_unsafeString_row w.drew 181 3 9 5 Tryz.underlying181 (by kernel_rfl) g cur.size (by have hg' : w.drew.heap[g]? = some (.cells cur 5 (0, 0)) := hg; simp [World.shape?, hg']) l h0 (by omega) (by unfold maxLen at hcm; omega) ?_
    intro j x hx
    have := hown.cells (g := g) rfl j (.int .u8 x.toNat) (by simp [Lib.byteCells, hx])
    exact this
  go_enter Tryz.func117, Tryz.ntmps117
  go_wp2
  go_region
  all_goals (go_wp2; go_ret; exact ⟨rfl, Lib.below_freeze (Below.drew (Below.refl B w)) (p := ⟨g, 0, none⟩) hbg _⟩)
end
end Go.Proofs.YtfmkniakfgpgjaaGreatDoor

/- plain: uses are not many. -/
namespace Go.KK
set_option linter.unusedVariables false
set_option linter.unusedSimpArgs false
theorem links_len {xs : List ND} (ok : Okay xs) {t : Nat} (ht : t < xs.length) : (links xs (nodeF xs (t : Int))).length ≤ 65 := by
  have hth : hasB xs (t : Int) = true := has_iff.2 ⟨by omega, by omega⟩
  have hx := nodeF_get hth
  have := ok.may _ _ hx
  unfold mayB shB at this
  simp only [Bool.and_eq_true, decide_eq_true_eq] at this
  have h64 := this.1.1.1.1.1.1.2
  unfold links
  rw [List.length_append]
  split
  · simp; omega
  · split
    · simp; omega
    · simp; omega
theorem pairs_len {xs : List ND} (ok : Okay xs) : ∀ k, k ≤ xs.length → (pairs xs k).length ≤ 65 * k
  | 0, _ => by simp [pairs]
  | k + 1, h => by
    have h1 := pairs_len ok k (by omega)
    have h2 := links_len ok (t := k) (by omega)
    rw [pairs_succ, List.length_append]
    unfold pairsT
    rw [List.length_map]
    omega
theorem uses_small {xs : List ND} (ok : Okay xs) (m : Int) : (uses xs m).length ≤ 100000000 := by
  have h1 := pairs_len ok xs.length (Nat.le_refl _)
  have h2 := ok.len
  unfold uses useOf
  rw [List.length_map]
  exact Nat.le_trans (List.length_filter_le _ _) (by omega)
end Go.KK

/- deduce: parts, given what term writes. -/
namespace Go.KK
open Go.RowKit
set_option linter.unusedVariables false
set_option linter.unusedSimpArgs false
/-- The parts that are told so far. -/
def jnS (g : List Int → Int → List UInt8 × List Int) (a : List Int) (l : List Int) (j : Nat) : List UInt8 × List Int × Bool := (l.take j).foldl (jn g) ([], a, false)
theorem jnS_zero (g : List Int → Int → List UInt8 × List Int) (a l : List Int) : jnS g a l 0 = ([], a, false) := by unfold jnS; rw [List.take_zero]; rfl
theorem jnS_succ (g : List Int → Int → List UInt8 × List Int) (a : List Int) {l : List Int} {j : Nat} {x : Int} (h : l[j]? = some x) : jnS g a l (j + 1) = jn g (jnS g a l j) x := by
  unfold jnS
  rw [take_one h, List.foldl_append]
  rfl
theorem jnS_flag (g : List Int → Int → List UInt8 × List Int) (a l : List Int) : ∀ j, j ≤ l.length → (jnS g a l j).2.2 = decide (0 < j)
  | 0, _ => by rw [jnS_zero]; rfl
  | j + 1, h => by
    rw [jnS_succ g a (List.getElem?_eq_getElem (show j < l.length by omega))]
    simp [jn]
theorem jnS_mono (g : List Int → Int → List UInt8 × List Int) (a l : List Int) : ∀ k j, j + k ≤ l.length → (jnS g a l j).1.length ≤ (jnS g a l (j + k)).1.length
  | 0, j, _ => Nat.le_refl _
  | k + 1, j, h => by
    refine Nat.le_trans (jnS_mono g a l k j (by omega)) ?_
    rw [show j + (k + 1) = (j + k) + 1 by omega, jnS_succ g a (List.getElem?_eq_getElem (show j + k < l.length by omega))]
    simp [jn]
theorem parF_jnS (g : List Int → Int → List UInt8 × List Int) (a l : List Int) : parF g a l = (40 :: ((jnS g a l l.length).1 ++ [41]), (jnS g a l l.length).2.1) := by
  unfold parF jnS
  rw [List.take_length]
end Go.KK
namespace Go.Proofs.YtfmkniakfgpgjaaGreatDoor
open Go.RowKit Go.KK Go.Shelf Go.Maps

/-- The map holds the numbers of these. -/
structure NB (D : MD) (num : List Int) : Prop where
  t : Tidy D
  a : ∀ v, v ∈ num → D.atKey (.int .i64 v) (.lit (.int .i64 0)) = .lit (.int .i64 (num.idxOf v : Nat))
  h : ∀ v, Maps.has D (.int .i64 v) = decide (v ∈ num)
  z : Maps.size D = num.length
  nd : num.Nodup
  rg : ∀ v ∈ num, 0 ≤ v ∧ v < 100000
/-- A writer at work. -/
structure PwS (W1 w : World) (B b sp mb : Nat) (bs : List UInt8) (num : List Int) : Prop where
  low : Below W1.heap.size W1 w
  wr : Wr B b (.pointer (some ⟨sp, 0, none⟩)) (.map (some mb)) (Lib.byteCells bs) w
  map : ∃ D, w.ownsMap Tryz.prog 3 (plainElem Tryz.prog 3) mb num.length D ∧ NB D num
  lo : W1.heap.size ≤ mb ∧ mb < B ∧ B ≤ w.heap.size
/-- What term writes. -/
def WtD (W1 : World) (B b sp mb : Nat) (xs : List ND) (I : Int → Bool) (t : Int) : Prop := ∀ (bs : List UInt8) (num : List Int) (w : World), PwS W1 w B b sp mb bs num → bs.length + (patT xs I num t).1.length ≤ 100000000000000 →
  Calls Tryz.prog 116 #[.pointer (some ⟨b, 0, none⟩), .int .i64 t] w fun e w' => e = .returned (.tuple #[]) ∧ PwS W1 w' B b sp mb (bs ++ (patT xs I num t).1) (patT xs I num t).2 ∧ OthG b w w'
theorem NB.le {D : MD} {num : List Int} (h : NB D num) : num.length ≤ 100000 := nodup_le 100000 num h.nd fun x hx => by have := h.rg x hx; omega
theorem byteCells_app (l m : List UInt8) : Lib.byteCells l ++ Lib.byteCells m = Lib.byteCells (l ++ m) := by unfold Lib.byteCells; rw [List.map_append]
section
variable {W1 w w' : World} {B b sp mb : Nat} {bs : List UInt8} {num : List Int}
theorem PwS.put {bs' : List UInt8} (h : PwS W1 w B b sp mb bs num) (hw : Wr B b (.pointer (some ⟨sp, 0, none⟩)) (.map (some mb)) (Lib.byteCells bs') w') (hb : Below B w w') : PwS W1 w' B b sp mb bs' num := by
  obtain ⟨D, h1, h2⟩ := h.map
  obtain ⟨l1, l2, l3⟩ := h.lo
  exact ⟨h.low.trans (hb.mono (by omega)), hw, ⟨D, map_block h1 (hb.block mb l2), h2⟩, l1, l2, Nat.le_trans l3 hb.size⟩
theorem wbyte_pw (c : UInt8) (h : PwS W1 w B b sp mb bs num) (hlen : bs.length + 1 ≤ 100000000000000) :
    Calls Tryz.prog 148 #[.pointer (some ⟨b, 0, none⟩), .int .u8 (c.toNat : Nat)] w fun e w' => e = .returned .nilIface ∧ PwS W1 w' B b sp mb (bs ++ [c]) num ∧ OthG b w w' := by
  refine (wbyte_any B b _ _ (Lib.byteCells bs) w (c.toNat : Nat) h.wr (by rw [Lib.byteCells_length]; omega) h.lo.2.2).mono ?_
  rintro e w' ⟨rfl, h1, h2, h3⟩
  exact ⟨rfl, h.put (by rw [← byteCells_app]; exact h1) h2, h3⟩
theorem wstr_pw (s : ByteArray) (h : PwS W1 w B b sp mb bs num) (hlen : bs.length + s.data.toList.length ≤ 100000000000000) :
    Calls Tryz.prog 135 #[.pointer (some ⟨b, 0, none⟩), .string s] w fun e w' => e = .returned (.tuple #[.int .i64 s.size, .nilIface]) ∧ PwS W1 w' B b sp mb (bs ++ s.data.toList) num ∧ OthG b w w' := by
  have hs : s.size = s.data.toList.length := by rw [Array.length_toList]; rfl
  refine (wstr_any B b _ _ (Lib.byteCells bs) w s h.wr (by rw [Lib.byteCells_length]; omega) h.lo.2.2).mono ?_
  rintro e w' ⟨rfl, h1, h2, h3⟩
  exact ⟨rfl, h.put (by rw [← byteCells_app]; exact h1) h2, h3⟩
end
set_option maxHeartbeats 4000000 in
set_option maxRecDepth 100000 in
/-- The parts, one after the other. -/
theorem parts_pw (W1 w : World) (B b sp mb : Nat) (xs : List ND) (I : Int → Bool) (bs : List UInt8) (num : List Int) (A : Option Addr) (n c : Nat) (l : List Int) (h : PwS W1 w B b sp mb bs num) (hl : ∀ w', Below W1.heap.size W1 w' → OthG b w w' → SlA w' 1 A n c (l.map (.int .i64))) (ht : ∀ x ∈ l, WtD W1 B b sp mb xs I x)
    (hlen : bs.length + (parF (patT xs I) num l).1.length ≤ 100000000000000) (hn : n ≤ 1000000) :
    Calls Tryz.prog 137 #[.pointer (some ⟨b, 0, none⟩), .slice A n c] w fun e w' => e = .returned (.tuple #[]) ∧ PwS W1 w' B b sp mb (bs ++ (parF (patT xs I) num l).1) (parF (patT xs I) num l).2 ∧ OthG b w w' := by
  have H := hid h; have HL := hid hl; have HT := hid ht
  have hln : l.length = n := (hl w h.low (OthG.refl _ _)).lenI
  have HLN := hid hln
  rw [parF_jnS] at hlen ⊢
  have HLE := hid (show bs.length + (2 + (jnS (patT xs I) num l n).1.length) ≤ 100000000000000 by rw [hln] at hlen; simp at hlen; omega)
  have HMO := hid (fun j (hj : j ≤ n) => (show (jnS (patT xs I) num l j).1.length ≤ (jnS (patT xs I) num l n).1.length by have := jnS_mono (patT xs I) num l (n - j) j (by omega); rwa [show j + (n - j) = n by omega] at this))
  have HB0 := hid (wbyte_pw (W1 := W1) (w := w) (num := num) 40 h (by have := HLE.out; omega))
  clear h hl ht hlen
  go_enter Tryz.func137, Tryz.ntmps137
  go_wp2_with fail
  refine HB0.out.mono ?_
  rintro e w1 ⟨rfl, h1, o1⟩
  have H1 := hid h1; have O1 := hid o1
  clear h1 o1 HB0
  go_wp2_with fail
  go_loopw [12] (fun v wr => ∃ j : Nat, v = .int .i64 j ∧ j ≤ n ∧ Hid (PwS W1 wr B b sp mb (bs ++ 40 :: (jnS (patT xs I) num l j).1) (jnS (patT xs I) num l j).2.1 ∧ OthG b w wr)) (fun v _ => n - (intOf v).toNat)
  case atStart => exact ⟨0, rfl, Nat.zero_le _, hid ⟨by rw [jnS_zero]; exact H1.out, O1.out⟩⟩
  case round =>
    clear H1 O1
    obtain ⟨j, hv, hj, HR⟩ := hrel
    subst hv
    by_cases hlt : j < n
    · have hlt' : (j : Int) < (n : Int) := by omega
      obtain ⟨b1, o1, x, rfl, hxj, hcx⟩ := (HL.out wr HR.out.1.low HR.out.2).elemI hlt
      have HX := hid (List.mem_of_getElem? hxj)
      have HSU := hid (jnS_succ (patT xs I) num hxj)
      have HFL := hid (jnS_flag (patT xs I) num l j (by omega))
      have HM1 := hid (HMO.out (j + 1) hlt)
      generalize hS : jnS (patT xs I) num l j = S at *
      obtain ⟨sb, sn, sf⟩ := S
      have HSE := hid (show jnS (patT xs I) num l (j + 1) = (sb ++ (if sf then [44] else []) ++ (patT xs I sn x).1, (patT xs I sn x).2, true) from HSU.out)
      have hsf : sf = decide (0 < j) := HFL.out
      have HLX := hid (show bs.length + (1 + (sb.length + ((if sf then [(44 : UInt8)] else []).length + (patT xs I sn x).1.length))) ≤ 100000000000000 by
        have h1 := HLE.out
        have h2 := HM1.out
        rw [HSE.out] at h2
        simp only [List.length_append] at h2
        omega)
      have HR1 := hid (show PwS W1 wr B b sp mb (bs ++ 40 :: sb) sn from HR.out.1)
      have HRO := hid HR.out.2
      clear hxj hS HSU HFL HR
      by_cases h0 : 0 < j
      · have hjd : (0 : Int) < (j : Int) := by omega
        have hjd2 : decide ((0 : Int) < (j : Int)) = true := decide_eq_true hjd
        have hsf' : sf = true := by rw [hsf]; exact decide_eq_true h0
        subst hsf'
        have HB1 := hid (wbyte_pw 44 HR1.out (by have := HLX.out; simp at this ⊢; omega))
        clear hsf
        go_wp2_with fail
        refine HB1.out.mono ?_
        rintro e w2 ⟨rfl, h2, o2⟩
        have HW := hid (HT.out x HX.out _ _ _ h2 (by have := HLX.out; simp at this ⊢; omega))
        have O2 := hid o2
        clear h2 o2
        go_wp2_with fail
        refine HW.out.mono ?_
        rintro e w3 ⟨rfl, h3, o3⟩
        have HN := hid (show PwS W1 w3 B b sp mb (bs ++ 40 :: (jnS (patT xs I) num l (j + 1)).1) (jnS (patT xs I) num l (j + 1)).2.1 ∧ OthG b w w3 by
          rw [HSE.out]
          exact ⟨by simpa using h3, HRO.out.trans (O2.out.trans o3)⟩)
        clear h3 o3
        go_wp2_with fail
        go_roundw
        case rel => exact ⟨j + 1, by go_num, by omega, HN⟩
        case measure => simp [intOf]; omega
      · have hj0 : j = 0 := by omega
        subst hj0
        rw [Nat.add_zero] at hcx
        have hsf' : sf = false := by rw [hsf]; rfl
        subst hsf'
        have HW := hid (HT.out x HX.out _ _ _ HR1.out (by have := HLX.out; simp at this ⊢; omega))
        clear hsf
        go_wp2_with fail
        refine HW.out.mono ?_
        rintro e w3 ⟨rfl, h3, o3⟩
        have HN := hid (show PwS W1 w3 B b sp mb (bs ++ 40 :: (jnS (patT xs I) num l (0 + 1)).1) (jnS (patT xs I) num l (0 + 1)).2.1 ∧ OthG b w w3 by
          rw [HSE.out]
          exact ⟨by simpa using h3, HRO.out.trans o3⟩)
        clear h3 o3
        go_wp2_with fail
        go_roundw
        case rel => exact ⟨0 + 1, by go_num, by omega, HN⟩
        case measure => simp [intOf]; omega
    · have hjn : j = n := by omega
      subst hjn
      have hlt' : ¬ ((j : Nat) : Int) < (j : Int) := by omega
      have HB1 := hid (wbyte_pw 41 HR.out.1 (by have := HLE.out; simp; omega))
      have HRO := hid HR.out.2
      clear hlt HR
      go_wp2_with fail
      refine HB1.out.mono ?_
      rintro e w2 ⟨rfl, h2, o2⟩
      have HN := hid (show PwS W1 w2 B b sp mb (bs ++ 40 :: ((jnS (patT xs I) num l l.length).1 ++ [41])) (jnS (patT xs I) num l l.length).2.1 ∧ OthG b w w2 by
        rw [HLN.out]
        exact ⟨by simpa using h2, HRO.out.trans o2⟩)
      clear h2 o2
      go_wp2_with fail
      go_end0
      exact ⟨rfl, HN.out.1, HN.out.2⟩
end Go.Proofs.YtfmkniakfgpgjaaGreatDoor

/- deduce: the numbers that a writer gives, in its map. -/
namespace Go.Proofs.YtfmkniakfgpgjaaGreatDoor
open Go.RowKit Go.KK Go.Shelf Go.Maps
set_option linter.unusedVariables false
set_option linter.unusedSimpArgs false

theorem nb_nil : NB (.map []) [] := ⟨tidy_empty, fun v hv => (by cases hv), fun v => rfl, rfl, .nil, fun v hv => (by cases hv)⟩
theorem NB.put {D : MD} {num : List Int} (h : NB D num) {t : Int} (ht : t ∉ num) (hr : 0 ≤ t ∧ t < 100000) : NB (D.put (.int .i64 t) (.lit (.int .i64 (num.length : Nat)))) (num ++ [t]) := by
  refine ⟨h.t.put (by trivial) _, fun v hv => ?_, fun v => ?_, ?_, ?_, fun v hv => ?_⟩
  · by_cases hvt : v = t
    · subst hvt
      rw [Maps.atKey_put_same h.t.isMap (by trivial), List.idxOf_append, if_neg ht]
      simp
    · have hv' : v ∈ num := by simpa [hvt] using hv
      rw [Maps.atKey_put_other (fun e => hvt (by injection e)), h.a v hv', List.idxOf_append, if_pos hv']
  · by_cases hvt : v = t
    · subst hvt
      rw [Maps.has_put_same h.t.isMap (by trivial)]; simp
    · rw [Maps.has_put_other (fun e => hvt (by injection e)), h.h]
      simp [hvt]
  · rw [size_put h.t, h.h, decide_eq_false ht, h.z, List.length_append]
    rfl
  · rw [List.nodup_append]
    refine ⟨h.nd, by simp, fun x hx y hy e => ?_⟩
    rw [List.mem_singleton] at hy
    exact ht (by rw [← hy, ← e]; exact hx)
  · rcases List.mem_append.1 hv with hv | hv
    · exact h.rg v hv
    · rw [List.mem_singleton] at hv; rw [hv]; exact hr
theorem lawIn : Keyed Tryz.prog 3 := int_keyed Tryz.underlying3
theorem wf_i64 {y : Int} (h : I64 y) : (Lit.int .i64 y).wf = true := by
  have h2 := wrap64_wf y
  rwa [show RowKit.wrap64 y = y by unfold RowKit.wrap64; unfold I64 at h; omega] at h2
theorem key_i64 {y : Int} (h : I64 y) : keyOf Tryz.prog 3 (.int .i64 y) = some (.int .i64 y) := keyOf_int_mk Tryz.underlying3 (wf_i64 h)
/-- A writer, its numbers one more. -/
theorem PwS.num {W1 w w' : World} {B b sp mb : Nat} {bs : List UInt8} {num : List Int} {D : MD} {t : Int} (h : PwS W1 w B b sp mb bs num) (hD : NB D num) (ht : t ∉ num) (hr : 0 ≤ t ∧ t < 100000) (hg : w.grownBy w' (some mb)) (ho : w'.ownsMap Tryz.prog 3 (plainElem Tryz.prog 3) mb (num.length + 1) (D.put (.int .i64 t) (.lit (.int .i64 (num.length : Nat))))) : PwS W1 w' B b sp mb bs (num ++ [t]) ∧ OthG b w w' := by
  obtain ⟨l1, l2, l3⟩ := h.lo
  have hs := hg.size
  have hne : ∀ k, k < w.heap.size → k ≠ mb → w'.heap[k]? = w.heap[k]? := fun k hk hn => hg.block k hk fun e => by injection e with e; exact hn e
  refine ⟨⟨?_, ?_, ⟨_, by rw [List.length_append]; exact ho, hD.put ht hr⟩, l1, l2, Nat.le_trans l3 hs⟩, ?_⟩
  · exact h.low.grown hg h.low.size (fun k hk => by injection hk with hk; omega)
  · obtain ⟨p, hp, hB, v, hbk, hown, hnb⟩ := h.wr
    have hlt : b < w.heap.size := h.wr.lt
    exact ⟨p, hp, hB, v, (hne b hlt (by omega)).trans hbk, own_block hown fun k hk => hne k (hown.lt k hk).2 (by have := (hown.lt k hk).1; omega), hnb⟩
  · intro k cs T fz e hT hk
    refine hne k ?_ ?_
    · rcases Nat.lt_or_ge k w.heap.size with h' | h'
      · exact h'
      · simp [Array.getElem?_eq_none h'] at e
    · intro e2
      subst e2
      obtain ⟨D', ⟨es, clock, h1, -⟩, -⟩ := h.map
      rw [h1] at e
      cases e
end Go.Proofs.YtfmkniakfgpgjaaGreatDoor

/- deduce: term (a text). -/
namespace Go.Proofs.YtfmkniakfgpgjaaGreatDoor
open Go.RowKit Go.KK Go.Shelf Go.Maps
set_option linter.unusedVariables false
set_option linter.unusedSimpArgs false

set_option maxHeartbeats 4000000 in
set_option maxRecDepth 100000 in
theorem wt2 (W1 : World) (G R : Nat → Prop) (B b sp mb : Nat) (lv uv : Value) (xs : List ND) (s : SD) (I : Int → Bool) (t : Nat) (x : ND) (h : SpA W1 G R sp lv uv xs s) (hx : xs[t]? = some x) (ho : x.o = 2) (hss : x.s.size ≤ 1000000) : WtD W1 B b sp mb xs I (t : Int) := by
  intro bs num w hw hlen
  have H := hid h; have HW := hid hw
  have htx : (t : Int) < (xs.length : Int) := by have := (List.getElem?_eq_some_iff.1 hx).1; omega
  have hxe : nodeF xs (t : Int) = x := by
    have := nodeF_get (xs := xs) (t := (t : Int)) (has_iff.2 ⟨by omega, htx⟩)
    rw [Int.toNat_natCast, hx] at this
    injection this with this
    exact this.symm
  have HP := hid (show patT xs I num (t : Int) = (34 :: (x.s.data.toList ++ [34]), num) by
    rw [pat_eq h.ok I (has_iff.2 ⟨by omega, htx⟩) num, hxe, if_pos ho])
  rw [HP.out] at hlen ⊢
  obtain ⟨bn, on, cn, A', c', rfl, hcell, -⟩ := h.keep hx
  obtain ⟨y0, y1, y2, y3⟩ := hcell w hw.low.size fun b hb _ => hw.low.block b hb
  rw [ho] at y0
  obtain ⟨iv, ov, ⟨c0, -⟩, -⟩ := (h.ext hw.low).cells
  have q2 := hw.wr.cell2
  have hsz : x.s.size = x.s.data.toList.length := by rw [Array.length_toList]; rfl
  have HLE := hid (show bs.length + (2 + x.s.data.toList.length) ≤ 100000000000000 by simp at hlen; omega)
  have hcat : ¬ 9223372036854775807 < 1 + x.s.size := by omega
  have hcat2 : ¬ 9223372036854775807 < ((⟨#[34]⟩ : ByteArray) ++ x.s).size + 1 := by rw [ByteArray.size_append]; have : (⟨#[34]⟩ : ByteArray).size = 1 := rfl; omega
  have HAL := hid (show Below w.heap.size w (w.alloc (.cells #[.int .i64 2, .int .i64 x.n, .string x.s, .slice A' x.l.length c'] 64)) from (Below.refl _ _).alloc (Nat.le_refl _) _)
  have hcat3 : ¬ 9223372036854775807 < 1 + x.s.size + 1 := by omega
  clear h hx hcell hw hlen ho hxe hsz
  generalize x.s = ss at *
  go_enter Tryz.func116, Tryz.ntmps116
  go_upto_region 2 with fail
  refine forget (R := fun V => PwS W1 V B b sp mb bs num ∧ OthG b w V ∧ V.ownsRow w.heap.size 64 4 (.slice (some ⟨w.heap.size, 0, none⟩) 1 1) 1 [.int .i64 2, .int .i64 x.n, .string ss, .slice A' x.l.length c']) ?_ ⟨HW.out.put (HW.out.wr.ext HAL.out) (HAL.out.mono HW.out.lo.2.2), OthG.below HAL.out, boxN⟩
  clear y0 y1 y2 y3 c0 q2
  rintro V ⟨hv, hov, hbx⟩
  have HV := hid hv; have HOV := hid hov
  obtain ⟨⟨n0, n1, n2, n3⟩, -⟩ := box4 hbx
  have HS := hid (fun (U : World) (hb : Below V.heap.size V U) => wstr_pw (((⟨#[34]⟩ : ByteArray) ++ ss) ++ (⟨#[34]⟩ : ByteArray)) (hv.put (hv.wr.ext hb) (hb.mono hv.lo.2.2)) (by
    have := HLE.out
    simp [ByteArray.data_append]
    simp at this
    omega))
  have hne : w.heap.size ≠ b := by have := HW.out.wr.lt; omega
  have HN1 : Hid (∃ cs, V.heap[w.heap.size]? = some (.cells cs 64 (0, 0))) := hid (by
    rcases hbx.2 with ⟨e, _⟩ | ⟨g, cap, cur, e, _, hh, _⟩
    · cases e
    · injection e with e
      injection e with e
      injection e with e
      subst e
      exact ⟨cur, hh⟩)
  have N2 := hid n2
  have q2 : V.drew.cell? ⟨w.heap.size, 2, none⟩ = some (.string ss) := n2
  clear hv hov hbx n0 n1 n3
  go_region_held3 (fun U => U.cell? ⟨w.heap.size, 2, none⟩ = some (.string ss)) (first | exact q9 | exact n2 | exact q2 | go_keep) (first
    | (go_at_call 135; refine (HS.out _ (by first | exact Below.refl _ _ | exact below_drew (Below.refl _ _) | exact below_drewN (Below.refl _ _) _)).mono ?_; rintro e9 w9 ⟨rfl, h9, o9⟩; have H9 := hid h9; have O9 := hid o9; have q9 : w9.cell? ⟨w.heap.size, 2, none⟩ = some (.string ss) := (by obtain ⟨cs, hcs⟩ := HN1.out; exact OthG.cell ((OthG.below (by first | exact Below.refl _ _ | exact below_drew (Below.refl _ _) | exact below_drewN (Below.refl _ _) _)).trans o9) hcs (by decide) hne N2.out); clear h9 o9))
  all_goals
    go_wp2_with fail
    first
      | refine bodyPost_ret (v := .tuple #[]) (results_none rfl _ _ _) rfl ?_
      | refine bodyPost_ret (results_none rfl _ _ _) rfl ?_
    refine ⟨rfl, ?_, HOV.out.trans ((OthG.below (by first | exact Below.refl _ _ | exact below_drew (Below.refl _ _) | exact below_drewN (Below.refl _ _) _)).trans O9.out)⟩
    have := H9.out
    simpa [ByteArray.data_append] using this
end Go.Proofs.YtfmkniakfgpgjaaGreatDoor

/- deduce: term (a list). -/
namespace Go.Proofs.YtfmkniakfgpgjaaGreatDoor
open Go.RowKit Go.KK Go.Shelf Go.Maps
set_option linter.unusedVariables false
set_option linter.unusedSimpArgs false

theorem name_cellP {w : World} {T : TypeId} {k : Nat} (h1 : 1 ≤ k) (h2 : k ≠ 2) (h12 : k ≤ 12) :
    (w.alloc (.cells #[.string ⟨#[]⟩, .string ⟨#[97, 116, 111, 109]⟩, .string ⟨#[]⟩, .string ⟨#[108, 105, 115, 116]⟩, .string ⟨#[104, 97, 115, 104]⟩, .string ⟨#[109, 105, 120]⟩, .string ⟨#[107, 101, 121]⟩, .string ⟨#[112, 117, 98]⟩, .string ⟨#[115, 101, 97, 108]⟩, .string ⟨#[101, 110, 99]⟩, .string ⟨#[115, 105, 103]⟩, .string ⟨#[109, 97, 99]⟩, .string ⟨#[98, 108, 105, 110, 100]⟩] T)).cell? ⟨w.heap.size, k, none⟩ = some (.string ⟨(nameP (k : Int)).toArray⟩) := by
  rw [World.cell?_alloc_at _ _ _ _ rfl]
  have : k = 1 ∨ k = 3 ∨ k = 4 ∨ k = 5 ∨ k = 6 ∨ k = 7 ∨ k = 8 ∨ k = 9 ∨ k = 10 ∨ k = 11 ∨ k = 12 := by omega
  rcases this with rfl | rfl | rfl | rfl | rfl | rfl | rfl | rfl | rfl | rfl | rfl <;> rfl
set_option maxHeartbeats 4000000 in
set_option maxRecDepth 100000 in
theorem wt3 (W1 : World) (G R : Nat → Prop) (B b sp mb : Nat) (lv uv : Value) (xs : List ND) (s : SD) (I : Int → Bool) (t : Nat) (x : ND) (h : SpA W1 G R sp lv uv xs s) (hx : xs[t]? = some x) (ho : x.o = 3) (hp : ∀ y ∈ x.l, WtD W1 B b sp mb xs I y) : WtD W1 B b sp mb xs I (t : Int) := by
  intro bs num w hw hlen
  have H := hid h; have HW := hid hw
  have htx : (t : Int) < (xs.length : Int) := by have := (List.getElem?_eq_some_iff.1 hx).1; omega
  have hxe : nodeF xs (t : Int) = x := by
    have := nodeF_get (xs := xs) (t := (t : Int)) (has_iff.2 ⟨by omega, htx⟩)
    rw [Int.toNat_natCast, hx] at this
    injection this with this
    exact this.symm
  have HP := hid (show patT xs I num (t : Int) = (nameP 3 ++ (parF (patT xs I) num x.l).1, (parF (patT xs I) num x.l).2) by
    rw [pat_eq h.ok I (has_iff.2 ⟨by omega, htx⟩) num, hxe, ho, if_neg (by decide), if_pos (.inl rfl)])
  rw [HP.out] at hlen ⊢
  have hxb := ap_bound W1 G R sp lv uv xs s t x h hx
  obtain ⟨bn, on, cn, A', c', rfl, hcell, hkl⟩ := h.keep hx
  obtain ⟨y0, y1, y2, y3⟩ := hcell w hw.low.size fun b hb _ => hw.low.block b hb
  rw [ho] at y0
  obtain ⟨iv, ov, ⟨c0, -⟩, -⟩ := (h.ext hw.low).cells
  have q2 := hw.wr.cell2
  have HKL := hid (fun (U : World) (hb : Below W1.heap.size W1 U) => hkl.here.ext hb)
  have HPP := hid hp
  have HLE := hid (show bs.length + (4 + (parF (patT xs I) num x.l).1.length) ≤ 100000000000000 by
    rw [List.length_append, show (nameP 3).length = 4 from rfl] at hlen; exact hlen)
  have hbw := hw.wr.lt
  clear h hx hcell hkl hw hlen ho hxe hp
  go_enter Tryz.func116, Tryz.ntmps116
  go_upto_region 4 with fail
  refine forget (R := fun V => PwS W1 V B b sp mb bs num ∧ OthG b w V ∧ (∃ C1 z1 C2 z2, V.heap[w.heap.size]? = some (.cells C1 64 z1) ∧ V.heap[w.heap.size + 1]? = some (.cells C2 178 z2)) ∧ V.cell? ⟨w.heap.size, 0, none⟩ = some (.int .i64 3) ∧ V.cell? ⟨w.heap.size, 3, none⟩ = some (.slice A' x.l.length c') ∧ V.cell? ⟨w.heap.size + 1, 3, none⟩ = some (.string ⟨#[108, 105, 115, 116]⟩)) ?_ ⟨?_, ?_, ?_, ?_, ?_, ?_⟩
  rotate_left
  · exact HW.out.put ((HW.out.wr.ext ((Below.refl _ _).alloc (Nat.le_refl _) _)).ext ((Below.refl _ _).alloc (Nat.le_refl _) _)) ((((Below.refl _ _).alloc (Nat.le_refl _) _).alloc (by simp) _).mono HW.out.lo.2.2)
  · exact OthG.below (((Below.refl _ _).alloc (Nat.le_refl _) _).alloc (by simp) _)
  · have h2 := heap_alloc_new (w.alloc (.cells #[.int .i64 3, .int .i64 x.n, .string x.s, .slice A' x.l.length c'] 64)) (.cells #[.string ⟨#[]⟩, .string ⟨#[97, 116, 111, 109]⟩, .string ⟨#[]⟩, .string ⟨#[108, 105, 115, 116]⟩, .string ⟨#[104, 97, 115, 104]⟩, .string ⟨#[109, 105, 120]⟩, .string ⟨#[107, 101, 121]⟩, .string ⟨#[112, 117, 98]⟩, .string ⟨#[115, 101, 97, 108]⟩, .string ⟨#[101, 110, 99]⟩, .string ⟨#[115, 105, 103]⟩, .string ⟨#[109, 97, 99]⟩, .string ⟨#[98, 108, 105, 110, 100]⟩] 178)
    rw [show (w.alloc (.cells #[.int .i64 3, .int .i64 x.n, .string x.s, .slice A' x.l.length c'] 64)).heap.size = w.heap.size + 1 by simp] at h2
    exact ⟨_, (0, 0), _, (0, 0), (heap_alloc_old _ _ (by simp)).trans (heap_alloc_new w _), h2⟩
  · rw [World.cell?_alloc_old _ _ _ (by simp), World.cell?_alloc_at _ _ _ _ rfl]; rfl
  · rw [World.cell?_alloc_old _ _ _ (by simp), World.cell?_alloc_at _ _ _ _ rfl]; rfl
  · have := name_cellP (w := w.alloc (.cells #[.int .i64 3, .int .i64 x.n, .string x.s, .slice A' x.l.length c'] 64)) (T := 178) (k := 3) (by decide) (by decide) (by decide)
    rw [show (w.alloc (.cells #[.int .i64 3, .int .i64 x.n, .string x.s, .slice A' x.l.length c'] 64)).heap.size = w.heap.size + 1 by simp] at this
    exact this
  clear y0 y1 y2 y3 c0 q2
  rintro V ⟨hv, hov, ⟨C1, z1, C2, z2, hb1, hb2⟩, q0, q3, q1⟩
  have HV := hid hv; have HOV := hid hov; have HN1 := hid hb1; have HN2 := hid hb2
  have Q3 := hid q3; have Q0 := hid q0; have Q1 := hid q1
  have hne : w.heap.size ≠ b := by omega
  have hne2 : w.heap.size + 1 ≠ b := by omega
  have D0 := hid (below_drew (Below.refl V.heap.size V))
  clear hv hov hb1 hb2
  go_region_held3 (fun U => U.cell? ⟨w.heap.size, 0, none⟩ = some (.int .i64 3) ∧ U.cell? ⟨w.heap.size + 1, 3, none⟩ = some (.string ⟨#[108, 105, 115, 116]⟩)) (first | exact ⟨q06, q16⟩ | exact ⟨q0, q1⟩ | go_keep) (first
    | (go_at_call 135; refine (wstr_pw ⟨#[108, 105, 115, 116]⟩ (HV.out.put (HV.out.wr.ext D0.out) (D0.out.mono HV.out.lo.2.2)) (by have := HLE.out; simp; omega)).mono ?_; rintro e6 w6 ⟨rfl, h6, o6⟩; have H6 := hid h6; have O6 := hid (HOV.out.trans ((OthG.below D0.out).trans o6)); have q6 := ((OthG.below D0.out).trans o6).cell HN1.out (by decide) hne Q3.out; have q06 := ((OthG.below D0.out).trans o6).cell HN1.out (by decide) hne Q0.out; have q16 := ((OthG.below D0.out).trans o6).cell HN2.out (by decide) hne2 Q1.out; clear h6 o6))
  all_goals
    have HPA := hid (fun (U : World) (hb : Below w6.heap.size w6 U) => parts_pw W1 U B b sp mb xs I (bs ++ [108, 105, 115, 116]) num A' x.l.length c' x.l (H6.out.put (H6.out.wr.ext hb) (hb.mono H6.out.lo.2.2)) (fun U hb _ => HKL.out U hb) HPP.out (by have := HLE.out; simp; omega) (by omega))
    clear HV HN1 HN2 q0 q1 q3 Q3 Q0 Q1 D0 q16
    go_upto_region 5 with fail
    go_quiet (fail)
    go_wp2_with fail
    refine (HPA.out _ (by first | exact below_drewN (Below.refl _ _) _ | exact below_drew (Below.refl _ _) | exact Below.refl _ _)).mono ?_
    rintro e9 w9 ⟨rfl, h9, o9⟩
    have H9 := hid h9
    have O9 := hid (O6.out.trans ((OthG.below (by first | exact below_drewN (Below.refl _ _) _ | exact below_drew (Below.refl _ _) | exact Below.refl _ _)).trans o9))
    clear h9 o9
    go_wp2_with fail
    first
      | refine bodyPost_ret (v := .tuple #[]) (results_none rfl _ _ _) rfl ?_
      | refine bodyPost_ret (results_none rfl _ _ _) rfl ?_
    refine ⟨rfl, ?_, O9.out⟩
    have := H9.out
    rw [List.append_assoc] at this
    exact this
end Go.Proofs.YtfmkniakfgpgjaaGreatDoor

/- deduce: term (what is told by its parts, all known). -/
namespace Go.Proofs.YtfmkniakfgpgjaaGreatDoor
open Go.RowKit Go.KK Go.Shelf Go.Maps
set_option linter.unusedVariables false
set_option linter.unusedSimpArgs false

set_option maxHeartbeats 4000000 in
set_option maxRecDepth 100000 in
theorem wtA (W1 : World) (G R : Nat → Prop) (B b sp mb : Nat) (lv uv : Value) (xs : List ND) (s : SD) (I : Int → Bool) (t : Nat) (x : ND) (h : SpA W1 G R sp lv uv xs s) (hx : xs[t]? = some x) (k : Nat) (ho : x.o = (k : Int)) (h4 : 4 ≤ k) (h12 : k ≤ 12) (hall : x.l.all (inB s.i) = true) (hI : ∀ y, I y = inB s.i y) (hp : ∀ y ∈ x.l, WtD W1 B b sp mb xs I y) : WtD W1 B b sp mb xs I (t : Int) := by
  intro bs num w hw hlen
  have H := hid h; have HW := hid hw
  have htx : (t : Int) < (xs.length : Int) := by have := (List.getElem?_eq_some_iff.1 hx).1; omega
  have hxe : nodeF xs (t : Int) = x := by
    have := nodeF_get (xs := xs) (t := (t : Int)) (has_iff.2 ⟨by omega, htx⟩)
    rw [Int.toNat_natCast, hx] at this
    injection this with this
    exact this.symm
  have HP := hid (show patT xs I num (t : Int) = (nameP (k : Int) ++ (parF (patT xs I) num x.l).1, (parF (patT xs I) num x.l).2) by
    rw [pat_eq h.ok I (has_iff.2 ⟨by omega, htx⟩) num, hxe, ho, if_neg (by omega), if_pos (.inr ⟨by omega, by rw [← hall]; congr 1; funext y; exact hI y⟩)])
  have HNS := hid (show (nameP (k : Int)).length ≤ 5 by
    have : k = 4 ∨ k = 5 ∨ k = 6 ∨ k = 7 ∨ k = 8 ∨ k = 9 ∨ k = 10 ∨ k = 11 ∨ k = 12 := by omega
    rcases this with rfl | rfl | rfl | rfl | rfl | rfl | rfl | rfl | rfl <;> decide)
  have HXH := hid (ap_has W1 G R sp lv uv xs s t x h hx)
  rw [HP.out] at hlen ⊢
  have hxb := ap_bound W1 G R sp lv uv xs s t x h hx
  obtain ⟨bn, on, cn, A', c', rfl, hcell, hkl⟩ := h.keep hx
  obtain ⟨y0, y1, y2, y3⟩ := hcell w hw.low.size fun b hb _ => hw.low.block b hb
  rw [ho] at y0
  obtain ⟨iv, ov, ⟨c0, -⟩, -⟩ := (h.ext hw.low).cells
  have q2 := hw.wr.cell2
  have HKL := hid (fun (U : World) (hb : Below W1.heap.size W1 U) => hkl.here.ext hb)
  have HPP := hid hp; have HALL := hid hall
  have HLE := hid (show bs.length + ((nameP (k : Int)).length + (parF (patT xs I) num x.l).1.length) ≤ 100000000000000 by
    rw [List.length_append] at hlen; exact hlen)
  have hbw := hw.wr.lt
  clear h hx hcell hkl hw hlen ho hxe hp hall hI
  go_enter Tryz.func116, Tryz.ntmps116
  go_upto_region 4 with fail
  refine forget (R := fun V => PwS W1 V B b sp mb bs num ∧ OthG b w V ∧ (∃ C1 z1 C2 z2, V.heap[w.heap.size]? = some (.cells C1 64 z1) ∧ V.heap[w.heap.size + 1]? = some (.cells C2 178 z2)) ∧ V.cell? ⟨w.heap.size, 0, none⟩ = some (.int .i64 k) ∧ V.cell? ⟨w.heap.size, 3, none⟩ = some (.slice A' x.l.length c') ∧ V.cell? ⟨w.heap.size + 1, k, none⟩ = some (.string ⟨(nameP (k : Int)).toArray⟩)) ?_ ⟨?_, ?_, ?_, ?_, ?_, ?_⟩
  rotate_left
  · exact HW.out.put ((HW.out.wr.ext ((Below.refl _ _).alloc (Nat.le_refl _) _)).ext ((Below.refl _ _).alloc (Nat.le_refl _) _)) ((((Below.refl _ _).alloc (Nat.le_refl _) _).alloc (by simp) _).mono HW.out.lo.2.2)
  · exact OthG.below (((Below.refl _ _).alloc (Nat.le_refl _) _).alloc (by simp) _)
  · have h2 := heap_alloc_new (w.alloc (.cells #[.int .i64 k, .int .i64 x.n, .string x.s, .slice A' x.l.length c'] 64)) (.cells #[.string ⟨#[]⟩, .string ⟨#[97, 116, 111, 109]⟩, .string ⟨#[]⟩, .string ⟨#[108, 105, 115, 116]⟩, .string ⟨#[104, 97, 115, 104]⟩, .string ⟨#[109, 105, 120]⟩, .string ⟨#[107, 101, 121]⟩, .string ⟨#[112, 117, 98]⟩, .string ⟨#[115, 101, 97, 108]⟩, .string ⟨#[101, 110, 99]⟩, .string ⟨#[115, 105, 103]⟩, .string ⟨#[109, 97, 99]⟩, .string ⟨#[98, 108, 105, 110, 100]⟩] 178)
    rw [show (w.alloc (.cells #[.int .i64 k, .int .i64 x.n, .string x.s, .slice A' x.l.length c'] 64)).heap.size = w.heap.size + 1 by simp] at h2
    exact ⟨_, (0, 0), _, (0, 0), (heap_alloc_old _ _ (by simp)).trans (heap_alloc_new w _), h2⟩
  · rw [World.cell?_alloc_old _ _ _ (by simp), World.cell?_alloc_at _ _ _ _ rfl]; rfl
  · rw [World.cell?_alloc_old _ _ _ (by simp), World.cell?_alloc_at _ _ _ _ rfl]; rfl
  · have := name_cellP (w := w.alloc (.cells #[.int .i64 k, .int .i64 x.n, .string x.s, .slice A' x.l.length c'] 64)) (T := 178) (k := k) (by omega) (by omega) h12
    rw [show (w.alloc (.cells #[.int .i64 k, .int .i64 x.n, .string x.s, .slice A' x.l.length c'] 64)).heap.size = w.heap.size + 1 by simp] at this
    exact this
  clear y0 y1 y2 y3 c0 q2
  rintro V ⟨hv, hov, ⟨C1, z1, C2, z2, hb1, hb2⟩, q0, q3, q1⟩
  have HV := hid hv; have HOV := hid hov; have HN1 := hid hb1; have HN2 := hid hb2
  have Q3 := hid q3; have Q0 := hid q0; have Q1 := hid q1
  have hne : w.heap.size ≠ b := by omega
  have hne2 : w.heap.size + 1 ≠ b := by omega
  have D0 := hid (below_drew (Below.refl V.heap.size V))
  have hk0 : (0 : Int) ≤ (k : Int) := by omega
  have hk13 : (k : Int) < 13 := by omega
  have hk3 : ((k : Int) == 3) = false := beq_eq_false_iff_ne.2 (by omega)
  have hk1 : ((k : Int) != 1) = true := by rw [bne_iff_ne]; omega
  clear hv hov hb1 hb2
  go_region_held3 (fun U => U.cell? ⟨w.heap.size, 0, none⟩ = some (.int .i64 k) ∧ U.cell? ⟨w.heap.size + 1, k, none⟩ = some (.string ⟨(nameP (k : Int)).toArray⟩)) (first | exact ⟨q06, q16⟩ | exact ⟨q0, q1⟩ | go_keep) (first
    | (go_at_call 135; refine (wstr_pw ⟨(nameP (k : Int)).toArray⟩ (HV.out.put (HV.out.wr.ext D0.out) (D0.out.mono HV.out.lo.2.2)) (by have := HLE.out; simp; omega)).mono ?_; rintro e6 w6 ⟨rfl, h6, o6⟩; have H6 := hid h6; have O6 := hid (HOV.out.trans ((OthG.below D0.out).trans o6)); have q6 := ((OthG.below D0.out).trans o6).cell HN1.out (by decide) hne Q3.out; have q06 := ((OthG.below D0.out).trans o6).cell HN1.out (by decide) hne Q0.out; have q16 := ((OthG.below D0.out).trans o6).cell HN2.out (by decide) hne2 Q1.out; clear h6 o6))
  all_goals
    have HPA := hid (fun (U : World) (hb : Below w6.heap.size w6 U) => parts_pw W1 U B b sp mb xs I (bs ++ nameP (k : Int)) num A' x.l.length c' x.l (H6.out.put (H6.out.wr.ext hb) (hb.mono H6.out.lo.2.2)) (fun U hb _ => HKL.out U hb) HPP.out (by have := HLE.out; simp; omega) (by omega))
    clear HV HN1 HN2 q0 q1 q3 Q3 Q0 Q1 D0 q16
    have HAL := hid (fun (U : World) (hb : Below w6.heap.size w6 U) => all_any U G R sp _ uv xs s A' x.l.length c' x.l ((H.out.ext H6.out.low).ext hb) ((HKL.out w6 H6.out.low).ext hb) HXH.out (by omega))
    have DZ := hid (Below.refl w6.heap.size w6)
    obtain ⟨p2, -⟩ := And.intro H6.out.wr.cell2 trivial
    have HLT := hid (block_lt_of_cell q6)
    have Q6 := hid q6
    go_upto_region 5 with fail
    go_region_with (first
      | (go_at_call 136; refine (HAL.out _ (by first | exact DZ.out | exact below_drew DZ.out | exact below_drewN DZ.out _)).mono ?_; rintro e7 w7 ⟨rfl, b7⟩; rw [HALL.out]; have D7 := hid ((show Below w6.heap.size w6 w7 from (by first | exact DZ.out.trans b7 | exact (below_drew DZ.out).trans b7 | exact (below_drewN DZ.out _).trans b7))); clear b7))
    all_goals
      have q7 := (D7.out.cell (p := ⟨w.heap.size, 3, none⟩) HLT.out).trans Q6.out
      go_wp2_with fail
      refine (HPA.out _ (by first | exact D7.out | exact below_drew D7.out | exact below_drewN D7.out _)).mono ?_
      rintro e9 w9 ⟨rfl, h9, o9⟩
      have H9 := hid h9
      have O9 := hid (O6.out.trans ((OthG.below (by first | exact D7.out | exact below_drew D7.out | exact below_drewN D7.out _)).trans o9))
      clear h9 o9
      go_wp2_with fail
      first
        | refine bodyPost_ret (v := .tuple #[]) (results_none rfl _ _ _) rfl ?_
        | refine bodyPost_ret (results_none rfl _ _ _) rfl ?_
      refine ⟨rfl, ?_, O9.out⟩
      have := H9.out
      rw [List.append_assoc] at this
      exact this
end Go.Proofs.YtfmkniakfgpgjaaGreatDoor

/- plain: how long a pattern is. -/
namespace Go.KK
open Go.RowKit
set_option linter.unusedVariables false
set_option linter.unusedSimpArgs false

/-- The numbers given are those of terms, each once. -/
def NumQ (xs : List ND) (a : List Int) : Prop := a.Nodup ∧ ∀ x ∈ a, hasB xs x = true
theorem NumQ.len {xs : List ND} {a : List Int} (h : NumQ xs a) : a.length ≤ xs.length := nodup_le _ _ h.1 fun x hx => by
  have := has_iff.1 (h.2 x hx)
  omega
theorem NumQ.num {xs : List ND} {a : List Int} (h : NumQ xs a) {t : Int} (ht : hasB xs t = true) : NumQ xs (numA a t) := by
  unfold numA
  by_cases hm : t ∈ a
  · rw [if_pos hm]; exact h
  · rw [if_neg hm]
    refine ⟨?_, fun x hx => ?_⟩
    · rw [List.nodup_append]
      refine ⟨h.1, by simp, fun x hx y hy e => ?_⟩
      rw [List.mem_singleton] at hy
      exact hm (by rw [← hy, ← e]; exact hx)
    · rcases List.mem_append.1 hx with hx | hx
      · exact h.2 x hx
      · rw [List.mem_singleton] at hx; rw [hx]; exact ht
theorem numN_le (a : List Int) (t : Int) : numN a t ≤ a.length := by
  unfold numN
  split
  · rename_i h
    exact Nat.le_of_lt (List.idxOf_lt_length_iff.2 h)
  · exact Nat.le_refl _
theorem nameP_le (o : Int) : (nameP o).length ≤ 5 := by
  unfold nameP nameB
  repeat' split
  all_goals decide
end Go.KK

