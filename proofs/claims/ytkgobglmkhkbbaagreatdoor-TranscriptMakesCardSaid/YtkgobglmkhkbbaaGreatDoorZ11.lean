import Derived.Test.YtkgobglmkhkbbaaGreatDoorZ09
import Derived.Test.YtkgobglmkhkbbaaGreatDoorZ10
import Derived.Shelf.Strconv.ErrVarAll
import Derived.WalkSmall
import Derived.BigRegion
/- transcript over an arena: Read. -/
namespace Go.Proofs.YtkgobglmkhkbbaaGreatDoor
open Go.RowKit Go.KK Go.Shelf Go.Maps
set_option linter.unusedVariables false
set_option linter.unusedSimpArgs false

/-- The library's two errors stand in their variables. -/
def EvS (B : Nat) (w : World) : Prop := (∃ tp p, w.var? Tryz.prog "strconv.ErrSyntax" = some #[.iface tp p]) ∧ (∃ tp p, w.var? Tryz.prog "strconv.ErrRange" = some #[.iface tp p]) ∧ 0 < B ∧ 1 < B
theorem EvS.on {B B' : Nat} {w w' : World} (h : EvS B w) (hb : Below B' w w') (hB : B ≤ B') : EvS B w' := by
  obtain ⟨⟨tp, p, h1⟩, ⟨tq, q, h2⟩, g1, g2⟩ := h
  exact ⟨⟨tp, p, var?_below hb (by kernel_rfl) (Nat.lt_of_lt_of_le g1 hB) h1⟩, ⟨tq, q, var?_below hb (by kernel_rfl) (Nat.lt_of_lt_of_le g2 hB) h2⟩, g1, g2⟩
theorem EvS.up {B B' : Nat} {w : World} (h : EvS B w) (hB : B ≤ B') : EvS B' w := ⟨h.1, h.2.1, Nat.lt_of_lt_of_le h.2.2.1 hB, Nat.lt_of_lt_of_le h.2.2.2 hB⟩
/-- strconv.Atoi at any text: the number and no error, or an error. -/
def AtS (s : ByteArray) (w : World) (e : Ending) (w' : World) : Prop := ((∃ v, Lib.atoiAll s.data.toList = .ok v ∧ e = .returned (.tuple #[.int .i64 v, .nilIface]) ∧ I64 v) ∨ ((∀ u, Lib.atoiAll s.data.toList ≠ .ok u) ∧ ∃ v T p, e = .returned (.tuple #[.int .i64 v, .iface T p]))) ∧ Below w.heap.size w w'
theorem atoi_at (s : ByteArray) (hs : s.size ≤ 4000) (w : World) (hE : EvS w.heap.size w) : Calls Tryz.prog 79 #[.string s] w (AtS s w) := by
  obtain ⟨⟨tp, p, h1⟩, ⟨tq, q, h2⟩, g1, g2⟩ := hE
  rcases h : Lib.atoiAll s.data.toList with v | _ | _
  · refine (show Calls Tryz.prog 79 #[.string s] w (fun e w' => e = .returned (.tuple #[.int .i64 v, .nilIface]) ∧ (w' = w ∨ ∃ t, w' = Lib.bytesWorld w 5 t)) from Any.strconv_Atoi_ok Tryz.laysC172 s (by omega) v h w).mono ?_
    rintro e w' ⟨rfl, hw⟩
    refine ⟨.inl ⟨v, h, rfl, Lib.atoiAll_bounds h⟩, ?_⟩
    rcases hw with rfl | ⟨t, rfl⟩
    · exact Below.refl _ _
    · exact Lib.bytesWorld_below _ _ _
  · refine (show Calls Tryz.prog 79 #[.string s] w _ from Any.strconv_Atoi_syntax_var Tryz.laysC172 s (by omega) h tp p w h1).mono ?_
    rintro e w' ⟨N, rfl, -, -, hb⟩
    exact ⟨.inr ⟨fun u e => (by rw [h] at e; cases e), _, _, _, rfl⟩, hb⟩
  · refine (show Calls Tryz.prog 79 #[.string s] w _ from Any.strconv_Atoi_range_var Tryz.laysC172 s (by omega) h tq q w h2).mono ?_
    rintro e w' ⟨N, rfl, -, -, hb⟩
    exact ⟨.inr ⟨fun u e => (by rw [h] at e; cases e), _, _, _, rfl⟩, hb⟩
/-- What Read tells. -/
def rd5 (o : Option (List Int)) : List Int := o.getD [0, 0, 0, 0, 0]
def rdE (o : Option (List Int)) : Int := if o.isSome then 0 else 1
def v5 (l : List Int) : Value := .agg (l.map (Value.int .i64)).toArray
def RdS (W : World) (o : Option (List Int)) (e : Ending) (w' : World) : Prop := e = .returned (.tuple #[v5 (rd5 o), .int .i64 (rdE o)]) ∧ Below W.heap.size W w'
theorem numO_none {s : ByteArray} (h : ∀ u, Lib.atoiAll s.data.toList ≠ .ok u) {f : Int → List Int} : (numO s).map f = none := by
  unfold numO
  split
  · rename_i v hv; exact absurd hv (h v)
  · rfl
theorem ba_ne {a b : ByteArray} (h : a ≠ b) : (a.toList == b.toList) = false := by
  rw [ByteArray.toList_eq, ByteArray.toList_eq]
  refine beq_eq_false_iff_ne.2 fun e => h ?_
  obtain ⟨⟨x⟩⟩ := a
  obtain ⟨⟨y⟩⟩ := b
  simp at e
  rw [e]
theorem text_len {xs : List ND} (ok : Okay xs) (i : Int) : (nodeF xs i).s.size ≤ 4000 := by
  unfold nodeF
  split
  · rename_i hh
    have hx := has_iff.1 hh
    have hj : xs[i.toNat]? = some (xs.getD i.toNat nd0) := by rw [List.getD, List.getElem?_eq_getElem (by omega)]; rfl
    have hm := ok.may _ _ hj
    unfold mayB shB at hm
    simp only [Bool.and_eq_true, decide_eq_true_eq] at hm
    omega
  · show (0 : Nat) ≤ 4000
    omega
set_option maxHeartbeats 2000000 in
set_option maxRecDepth 100000 in
theorem read_none (sa : Nat) (xs : List ND) (t : Int) (W : World) (h : ArV W 124 sa xs) (hh : hasB xs t = false) :
    Calls Tryz.prog 35 #[.pointer (some ⟨sa, 0, none⟩), .int .i64 t] W (RdS W (rdO xs t)) := by
  have HE0 := hid (heap_alloc_new W (.cells #[.int .i64 0, .int .i64 0, .int .i64 0, .int .i64 0, .int .i64 0] 58))
  have HB0 := hid (show Below W.heap.size W (W.alloc (.cells #[.int .i64 0, .int .i64 0, .int .i64 0, .int .i64 0, .int .i64 0] 58)) from (Below.refl _ _).alloc (Nat.le_refl _) _)
  have HN := hid (node_any sa xs t _ (h.ext HB0.out))
  have HQ := hid (show rdO xs t = none by unfold rdO; rw [if_neg (by rw [hh]; simp)])
  have hE4 : nodeE xs t = 4 := by unfold nodeE; rw [hh]; rfl
  rw [hE4] at HN
  clear hh hE4
  clear h
  generalize nodeF xs t = x at *
  go_enter Tryz.func35, Tryz.ntmps35
  go_wp2_with fail
  refine HN.out.mono ?_
  rintro e w2 ⟨A, c, rfl, -, hb⟩
  have HB3 := hid (HB0.out.trans ((hb.alloc hb.size (.cells #[.int .i64 x.o, .int .i64 x.n, .string x.s, .slice A x.l.length c] 88)).mono HB0.out.size))
  have HE3 := hid (((hb.alloc hb.size (.cells #[.int .i64 x.o, .int .i64 x.n, .string x.s, .slice A x.l.length c] 88)).block W.heap.size (by simp)).trans HE0.out)
  clear hb HN
  have r0 : (w2.alloc (.cells #[.int .i64 x.o, .int .i64 x.n, .string x.s, .slice A x.l.length c] 88)).cell? ⟨W.heap.size, 0, none⟩ = some (.int .i64 0) := by rw [cell_of_row (w2.alloc (.cells #[.int .i64 x.o, .int .i64 x.n, .string x.s, .slice A x.l.length c] 88)) (W.heap.size) 0 _ _ (0, 0) HE3.out]; rfl
  have f0 : (w2.alloc (.cells #[.int .i64 x.o, .int .i64 x.n, .string x.s, .slice A x.l.length c] 88)).frozen? ⟨W.heap.size, 0, none⟩ = false := frozen_of_row (w2.alloc (.cells #[.int .i64 x.o, .int .i64 x.n, .string x.s, .slice A x.l.length c] 88)) (W.heap.size) 0 _ _ HE3.out
  have r1 : (w2.alloc (.cells #[.int .i64 x.o, .int .i64 x.n, .string x.s, .slice A x.l.length c] 88)).cell? ⟨W.heap.size, 1, none⟩ = some (.int .i64 0) := by rw [cell_of_row (w2.alloc (.cells #[.int .i64 x.o, .int .i64 x.n, .string x.s, .slice A x.l.length c] 88)) (W.heap.size) 1 _ _ (0, 0) HE3.out]; rfl
  have f1 : (w2.alloc (.cells #[.int .i64 x.o, .int .i64 x.n, .string x.s, .slice A x.l.length c] 88)).frozen? ⟨W.heap.size, 1, none⟩ = false := frozen_of_row (w2.alloc (.cells #[.int .i64 x.o, .int .i64 x.n, .string x.s, .slice A x.l.length c] 88)) (W.heap.size) 1 _ _ HE3.out
  have r2 : (w2.alloc (.cells #[.int .i64 x.o, .int .i64 x.n, .string x.s, .slice A x.l.length c] 88)).cell? ⟨W.heap.size, 2, none⟩ = some (.int .i64 0) := by rw [cell_of_row (w2.alloc (.cells #[.int .i64 x.o, .int .i64 x.n, .string x.s, .slice A x.l.length c] 88)) (W.heap.size) 2 _ _ (0, 0) HE3.out]; rfl
  have f2 : (w2.alloc (.cells #[.int .i64 x.o, .int .i64 x.n, .string x.s, .slice A x.l.length c] 88)).frozen? ⟨W.heap.size, 2, none⟩ = false := frozen_of_row (w2.alloc (.cells #[.int .i64 x.o, .int .i64 x.n, .string x.s, .slice A x.l.length c] 88)) (W.heap.size) 2 _ _ HE3.out
  have r3 : (w2.alloc (.cells #[.int .i64 x.o, .int .i64 x.n, .string x.s, .slice A x.l.length c] 88)).cell? ⟨W.heap.size, 3, none⟩ = some (.int .i64 0) := by rw [cell_of_row (w2.alloc (.cells #[.int .i64 x.o, .int .i64 x.n, .string x.s, .slice A x.l.length c] 88)) (W.heap.size) 3 _ _ (0, 0) HE3.out]; rfl
  have f3 : (w2.alloc (.cells #[.int .i64 x.o, .int .i64 x.n, .string x.s, .slice A x.l.length c] 88)).frozen? ⟨W.heap.size, 3, none⟩ = false := frozen_of_row (w2.alloc (.cells #[.int .i64 x.o, .int .i64 x.n, .string x.s, .slice A x.l.length c] 88)) (W.heap.size) 3 _ _ HE3.out
  have r4 : (w2.alloc (.cells #[.int .i64 x.o, .int .i64 x.n, .string x.s, .slice A x.l.length c] 88)).cell? ⟨W.heap.size, 4, none⟩ = some (.int .i64 0) := by rw [cell_of_row (w2.alloc (.cells #[.int .i64 x.o, .int .i64 x.n, .string x.s, .slice A x.l.length c] 88)) (W.heap.size) 4 _ _ (0, 0) HE3.out]; rfl
  have f4 : (w2.alloc (.cells #[.int .i64 x.o, .int .i64 x.n, .string x.s, .slice A x.l.length c] 88)).frozen? ⟨W.heap.size, 4, none⟩ = false := frozen_of_row (w2.alloc (.cells #[.int .i64 x.o, .int .i64 x.n, .string x.s, .slice A x.l.length c] 88)) (W.heap.size) 4 _ _ HE3.out
  go_wp2_with fail
  refine bodyPost_ret (v := .tuple #[.agg #[.int .i64 0, .int .i64 0, .int .i64 0, .int .i64 0, .int .i64 0], .int .i64 1]) ?_ rfl (show RdS _ _ _ _ from ⟨by rw [HQ.out]; rfl, ?_⟩)
  · rw [results_cell_tmp rfl]
    go_simp
  · iterate 5 refine Below.setCell (B := W.heap.size) ?_ (p := ⟨W.heap.size, _, none⟩) (Nat.le_refl _) _
    exact HB3.out
set_option maxHeartbeats 2000000 in
set_option maxRecDepth 100000 in
theorem read_op (sa : Nat) (xs : List ND) (t : Int) (W : World) (h : ArV W 124 sa xs) (hh : hasB xs t = true) (ho : (nodeF xs t).o ≠ 3) :
    Calls Tryz.prog 35 #[.pointer (some ⟨sa, 0, none⟩), .int .i64 t] W (RdS W (rdO xs t)) := by
  have HE0 := hid (heap_alloc_new W (.cells #[.int .i64 0, .int .i64 0, .int .i64 0, .int .i64 0, .int .i64 0] 58))
  have HB0 := hid (show Below W.heap.size W (W.alloc (.cells #[.int .i64 0, .int .i64 0, .int .i64 0, .int .i64 0, .int .i64 0] 58)) from (Below.refl _ _).alloc (Nat.le_refl _) _)
  have HN := hid (node_any sa xs t _ (h.ext HB0.out))
  have HQ := hid (show rdO xs t = none by unfold rdO; rw [if_neg (fun e => ho e.2.1)])
  have hE4 : nodeE xs t = 0 := by unfold nodeE; rw [hh]; rfl
  rw [hE4] at HN
  have hne : ((nodeF xs t).o != 3) = true := bne_iff_ne.2 ho
  clear hh hE4 ho
  clear h
  generalize nodeF xs t = x at *
  go_enter Tryz.func35, Tryz.ntmps35
  go_wp2_with fail
  refine HN.out.mono ?_
  rintro e w2 ⟨A, c, rfl, -, hb⟩
  have HB3 := hid (HB0.out.trans ((hb.alloc hb.size (.cells #[.int .i64 x.o, .int .i64 x.n, .string x.s, .slice A x.l.length c] 88)).mono HB0.out.size))
  have HE3 := hid (((hb.alloc hb.size (.cells #[.int .i64 x.o, .int .i64 x.n, .string x.s, .slice A x.l.length c] 88)).block W.heap.size (by simp)).trans HE0.out)
  clear hb HN
  have r0 : (w2.alloc (.cells #[.int .i64 x.o, .int .i64 x.n, .string x.s, .slice A x.l.length c] 88)).cell? ⟨W.heap.size, 0, none⟩ = some (.int .i64 0) := by rw [cell_of_row (w2.alloc (.cells #[.int .i64 x.o, .int .i64 x.n, .string x.s, .slice A x.l.length c] 88)) (W.heap.size) 0 _ _ (0, 0) HE3.out]; rfl
  have f0 : (w2.alloc (.cells #[.int .i64 x.o, .int .i64 x.n, .string x.s, .slice A x.l.length c] 88)).frozen? ⟨W.heap.size, 0, none⟩ = false := frozen_of_row (w2.alloc (.cells #[.int .i64 x.o, .int .i64 x.n, .string x.s, .slice A x.l.length c] 88)) (W.heap.size) 0 _ _ HE3.out
  have r1 : (w2.alloc (.cells #[.int .i64 x.o, .int .i64 x.n, .string x.s, .slice A x.l.length c] 88)).cell? ⟨W.heap.size, 1, none⟩ = some (.int .i64 0) := by rw [cell_of_row (w2.alloc (.cells #[.int .i64 x.o, .int .i64 x.n, .string x.s, .slice A x.l.length c] 88)) (W.heap.size) 1 _ _ (0, 0) HE3.out]; rfl
  have f1 : (w2.alloc (.cells #[.int .i64 x.o, .int .i64 x.n, .string x.s, .slice A x.l.length c] 88)).frozen? ⟨W.heap.size, 1, none⟩ = false := frozen_of_row (w2.alloc (.cells #[.int .i64 x.o, .int .i64 x.n, .string x.s, .slice A x.l.length c] 88)) (W.heap.size) 1 _ _ HE3.out
  have r2 : (w2.alloc (.cells #[.int .i64 x.o, .int .i64 x.n, .string x.s, .slice A x.l.length c] 88)).cell? ⟨W.heap.size, 2, none⟩ = some (.int .i64 0) := by rw [cell_of_row (w2.alloc (.cells #[.int .i64 x.o, .int .i64 x.n, .string x.s, .slice A x.l.length c] 88)) (W.heap.size) 2 _ _ (0, 0) HE3.out]; rfl
  have f2 : (w2.alloc (.cells #[.int .i64 x.o, .int .i64 x.n, .string x.s, .slice A x.l.length c] 88)).frozen? ⟨W.heap.size, 2, none⟩ = false := frozen_of_row (w2.alloc (.cells #[.int .i64 x.o, .int .i64 x.n, .string x.s, .slice A x.l.length c] 88)) (W.heap.size) 2 _ _ HE3.out
  have r3 : (w2.alloc (.cells #[.int .i64 x.o, .int .i64 x.n, .string x.s, .slice A x.l.length c] 88)).cell? ⟨W.heap.size, 3, none⟩ = some (.int .i64 0) := by rw [cell_of_row (w2.alloc (.cells #[.int .i64 x.o, .int .i64 x.n, .string x.s, .slice A x.l.length c] 88)) (W.heap.size) 3 _ _ (0, 0) HE3.out]; rfl
  have f3 : (w2.alloc (.cells #[.int .i64 x.o, .int .i64 x.n, .string x.s, .slice A x.l.length c] 88)).frozen? ⟨W.heap.size, 3, none⟩ = false := frozen_of_row (w2.alloc (.cells #[.int .i64 x.o, .int .i64 x.n, .string x.s, .slice A x.l.length c] 88)) (W.heap.size) 3 _ _ HE3.out
  have r4 : (w2.alloc (.cells #[.int .i64 x.o, .int .i64 x.n, .string x.s, .slice A x.l.length c] 88)).cell? ⟨W.heap.size, 4, none⟩ = some (.int .i64 0) := by rw [cell_of_row (w2.alloc (.cells #[.int .i64 x.o, .int .i64 x.n, .string x.s, .slice A x.l.length c] 88)) (W.heap.size) 4 _ _ (0, 0) HE3.out]; rfl
  have f4 : (w2.alloc (.cells #[.int .i64 x.o, .int .i64 x.n, .string x.s, .slice A x.l.length c] 88)).frozen? ⟨W.heap.size, 4, none⟩ = false := frozen_of_row (w2.alloc (.cells #[.int .i64 x.o, .int .i64 x.n, .string x.s, .slice A x.l.length c] 88)) (W.heap.size) 4 _ _ HE3.out
  go_wp2_with fail
  refine bodyPost_ret (v := .tuple #[.agg #[.int .i64 0, .int .i64 0, .int .i64 0, .int .i64 0, .int .i64 0], .int .i64 1]) ?_ rfl (show RdS _ _ _ _ from ⟨by rw [HQ.out]; rfl, ?_⟩)
  · rw [results_cell_tmp rfl]
    go_simp
  · iterate 5 refine Below.setCell (B := W.heap.size) ?_ (p := ⟨W.heap.size, _, none⟩) (Nat.le_refl _) _
    exact HB3.out
set_option maxHeartbeats 2000000 in
set_option maxRecDepth 100000 in
theorem read_six (sa : Nat) (xs : List ND) (t : Int) (W : World) (h : ArV W 124 sa xs) (hh : hasB xs t = true) (ho : (nodeF xs t).o = 3) (hl : (nodeF xs t).l.length ≠ 6) :
    Calls Tryz.prog 35 #[.pointer (some ⟨sa, 0, none⟩), .int .i64 t] W (RdS W (rdO xs t)) := by
  have HE0 := hid (heap_alloc_new W (.cells #[.int .i64 0, .int .i64 0, .int .i64 0, .int .i64 0, .int .i64 0] 58))
  have HB0 := hid (show Below W.heap.size W (W.alloc (.cells #[.int .i64 0, .int .i64 0, .int .i64 0, .int .i64 0, .int .i64 0] 58)) from (Below.refl _ _).alloc (Nat.le_refl _) _)
  have HN := hid (node_any sa xs t _ (h.ext HB0.out))
  have HQ := hid (show rdO xs t = none by unfold rdO; rw [if_neg (fun e => hl e.2.2)])
  have hE4 : nodeE xs t = 0 := by unfold nodeE; rw [hh]; rfl
  rw [hE4] at HN
  have hne : (((nodeF xs t).l.length : Int) != 6) = true := bne_iff_ne.2 (by omega)
  have hoe : ((nodeF xs t).o != 3) = false := by rw [ho]; decide
  clear hh hE4 hl ho
  clear h
  generalize nodeF xs t = x at *
  go_enter Tryz.func35, Tryz.ntmps35
  go_wp2_with fail
  refine HN.out.mono ?_
  rintro e w2 ⟨A, c, rfl, -, hb⟩
  have HB3 := hid (HB0.out.trans ((hb.alloc hb.size (.cells #[.int .i64 x.o, .int .i64 x.n, .string x.s, .slice A x.l.length c] 88)).mono HB0.out.size))
  have HE3 := hid (((hb.alloc hb.size (.cells #[.int .i64 x.o, .int .i64 x.n, .string x.s, .slice A x.l.length c] 88)).block W.heap.size (by simp)).trans HE0.out)
  clear hb HN
  have r0 : (w2.alloc (.cells #[.int .i64 x.o, .int .i64 x.n, .string x.s, .slice A x.l.length c] 88)).cell? ⟨W.heap.size, 0, none⟩ = some (.int .i64 0) := by rw [cell_of_row (w2.alloc (.cells #[.int .i64 x.o, .int .i64 x.n, .string x.s, .slice A x.l.length c] 88)) (W.heap.size) 0 _ _ (0, 0) HE3.out]; rfl
  have f0 : (w2.alloc (.cells #[.int .i64 x.o, .int .i64 x.n, .string x.s, .slice A x.l.length c] 88)).frozen? ⟨W.heap.size, 0, none⟩ = false := frozen_of_row (w2.alloc (.cells #[.int .i64 x.o, .int .i64 x.n, .string x.s, .slice A x.l.length c] 88)) (W.heap.size) 0 _ _ HE3.out
  have r1 : (w2.alloc (.cells #[.int .i64 x.o, .int .i64 x.n, .string x.s, .slice A x.l.length c] 88)).cell? ⟨W.heap.size, 1, none⟩ = some (.int .i64 0) := by rw [cell_of_row (w2.alloc (.cells #[.int .i64 x.o, .int .i64 x.n, .string x.s, .slice A x.l.length c] 88)) (W.heap.size) 1 _ _ (0, 0) HE3.out]; rfl
  have f1 : (w2.alloc (.cells #[.int .i64 x.o, .int .i64 x.n, .string x.s, .slice A x.l.length c] 88)).frozen? ⟨W.heap.size, 1, none⟩ = false := frozen_of_row (w2.alloc (.cells #[.int .i64 x.o, .int .i64 x.n, .string x.s, .slice A x.l.length c] 88)) (W.heap.size) 1 _ _ HE3.out
  have r2 : (w2.alloc (.cells #[.int .i64 x.o, .int .i64 x.n, .string x.s, .slice A x.l.length c] 88)).cell? ⟨W.heap.size, 2, none⟩ = some (.int .i64 0) := by rw [cell_of_row (w2.alloc (.cells #[.int .i64 x.o, .int .i64 x.n, .string x.s, .slice A x.l.length c] 88)) (W.heap.size) 2 _ _ (0, 0) HE3.out]; rfl
  have f2 : (w2.alloc (.cells #[.int .i64 x.o, .int .i64 x.n, .string x.s, .slice A x.l.length c] 88)).frozen? ⟨W.heap.size, 2, none⟩ = false := frozen_of_row (w2.alloc (.cells #[.int .i64 x.o, .int .i64 x.n, .string x.s, .slice A x.l.length c] 88)) (W.heap.size) 2 _ _ HE3.out
  have r3 : (w2.alloc (.cells #[.int .i64 x.o, .int .i64 x.n, .string x.s, .slice A x.l.length c] 88)).cell? ⟨W.heap.size, 3, none⟩ = some (.int .i64 0) := by rw [cell_of_row (w2.alloc (.cells #[.int .i64 x.o, .int .i64 x.n, .string x.s, .slice A x.l.length c] 88)) (W.heap.size) 3 _ _ (0, 0) HE3.out]; rfl
  have f3 : (w2.alloc (.cells #[.int .i64 x.o, .int .i64 x.n, .string x.s, .slice A x.l.length c] 88)).frozen? ⟨W.heap.size, 3, none⟩ = false := frozen_of_row (w2.alloc (.cells #[.int .i64 x.o, .int .i64 x.n, .string x.s, .slice A x.l.length c] 88)) (W.heap.size) 3 _ _ HE3.out
  have r4 : (w2.alloc (.cells #[.int .i64 x.o, .int .i64 x.n, .string x.s, .slice A x.l.length c] 88)).cell? ⟨W.heap.size, 4, none⟩ = some (.int .i64 0) := by rw [cell_of_row (w2.alloc (.cells #[.int .i64 x.o, .int .i64 x.n, .string x.s, .slice A x.l.length c] 88)) (W.heap.size) 4 _ _ (0, 0) HE3.out]; rfl
  have f4 : (w2.alloc (.cells #[.int .i64 x.o, .int .i64 x.n, .string x.s, .slice A x.l.length c] 88)).frozen? ⟨W.heap.size, 4, none⟩ = false := frozen_of_row (w2.alloc (.cells #[.int .i64 x.o, .int .i64 x.n, .string x.s, .slice A x.l.length c] 88)) (W.heap.size) 4 _ _ HE3.out
  go_wp2_with fail
  refine bodyPost_ret (v := .tuple #[.agg #[.int .i64 0, .int .i64 0, .int .i64 0, .int .i64 0, .int .i64 0], .int .i64 1]) ?_ rfl (show RdS _ _ _ _ from ⟨by rw [HQ.out]; rfl, ?_⟩)
  · rw [results_cell_tmp rfl]
    go_simp
  · iterate 5 refine Below.setCell (B := W.heap.size) ?_ (p := ⟨W.heap.size, _, none⟩) (Nat.le_refl _) _
    exact HB3.out
theorem part_has {xs : List ND} (ok : Okay xs) {t : Int} (hh : hasB xs t = true) : ∀ p ∈ (nodeF xs t).l, hasB xs p = true := fun p hp => by
  have hx := has_iff.1 hh
  have hj : xs[t.toNat]? = some (nodeF xs t) := by unfold nodeF; rw [if_pos hh, List.getD, List.getElem?_eq_getElem (by omega)]; rfl
  have hm := ok.may _ _ hj
  unfold mayB at hm
  simp only [Bool.and_eq_true, List.all_eq_true] at hm
  have h1 := has_iff.1 (hm.1.2 p hp)
  rw [List.length_take] at h1
  exact has_iff.2 ⟨h1.1, by omega⟩
/-- Where Read stands behind its node: the node in its variable, the result's box still empty. -/
structure RdC (W U : World) (nb b o c : Nat) (sa : Nat) (xs : List ND) (x0 x1 x2 x3 x4 x5 : Int) : Prop where
  low : Below W.heap.size W U
  box : U.heap[W.heap.size]? = some (.cells #[.int .i64 0, .int .i64 0, .int .i64 0, .int .i64 0, .int .i64 0] 58 (0, 0))
  sl : U.cell? ⟨nb, 3, none⟩ = some (.slice (some ⟨b, o, none⟩) 6 c)
  c0 : U.cell? ⟨b, o, none⟩ = some (.int .i64 x0)
  c1 : U.cell? ⟨b, o + 1, none⟩ = some (.int .i64 x1)
  c2 : U.cell? ⟨b, o + 2, none⟩ = some (.int .i64 x2)
  c3 : U.cell? ⟨b, o + 3, none⟩ = some (.int .i64 x3)
  c4 : U.cell? ⟨b, o + 4, none⟩ = some (.int .i64 x4)
  c5 : U.cell? ⟨b, o + 5, none⟩ = some (.int .i64 x5)
  ar : ArV U 124 sa xs
  nw : W.heap.size < nb ∧ W.heap.size < b
theorem RdC.ext {W U U' : World} {nb b o c : Nat} {sa : Nat} {xs : List ND} {x0 x1 x2 x3 x4 x5 : Int} (h : RdC W U nb b o c sa xs x0 x1 x2 x3 x4 x5) (hb : Below U.heap.size U U') : RdC W U' nb b o c sa xs x0 x1 x2 x3 x4 x5 :=
  have k := fun {b o : Nat} {v : Value} (hc : U.cell? ⟨b, o, none⟩ = some v) => (hb.cell (p := ⟨b, o, none⟩) (block_lt_of_cell hc)).trans hc
  ⟨h.low.trans (hb.mono h.low.size), (hb.block _ (Array.getElem?_eq_some_iff.1 h.box).1).trans h.box, k h.sl, k h.c0, k h.c1, k h.c2, k h.c3, k h.c4, k h.c5, h.ar.ext hb, h.nw⟩
theorem rdc_start {W w2 : World} {A : Option Addr} {c sa : Nat} {xs : List ND} {x0 x1 x2 x3 x4 x5 : Int} (hrow : w2.ownsRow (W.alloc (.cells #[.int .i64 0, .int .i64 0, .int .i64 0, .int .i64 0, .int .i64 0] 58)).heap.size 3 1 (.slice A 6 c) 6 ([x0, x1, x2, x3, x4, x5].map (.int .i64))) (hb : Below (W.alloc (.cells #[.int .i64 0, .int .i64 0, .int .i64 0, .int .i64 0, .int .i64 0] 58)).heap.size (W.alloc (.cells #[.int .i64 0, .int .i64 0, .int .i64 0, .int .i64 0, .int .i64 0] 58)) w2)
    (hE : (W.alloc (.cells #[.int .i64 0, .int .i64 0, .int .i64 0, .int .i64 0, .int .i64 0] 58)).heap[W.heap.size]? = some (.cells #[.int .i64 0, .int .i64 0, .int .i64 0, .int .i64 0, .int .i64 0] 58 (0, 0))) (hA : ArV (W.alloc (.cells #[.int .i64 0, .int .i64 0, .int .i64 0, .int .i64 0, .int .i64 0] 58)) 124 sa xs) (n : Int) (s : ByteArray) :
    ∃ b o, A = some ⟨b, o, none⟩ ∧ RdC W (w2.alloc (.cells #[.int .i64 3, .int .i64 n, .string s, .slice A 6 c] 88)) w2.heap.size b o c sa xs x0 x1 x2 x3 x4 x5 := by
  obtain ⟨A', c', e, hs⟩ := SlA.owned hrow
  injection e with e1 e2 e3
  subst e1; subst e3
  have hg := fun b e => (hrow.lt b e)
  obtain ⟨b, o, z, rfl, hz0, h0⟩ := hs.elemI (show 0 < 6 by decide)
  obtain ⟨b1, o1, z1, f1, hz1, h1⟩ := hs.elemI (show 1 < 6 by decide)
  obtain ⟨b2, o2, z2, f2, hz2, h2⟩ := hs.elemI (show 2 < 6 by decide)
  obtain ⟨b3, o3, z3, f3, hz3, h3⟩ := hs.elemI (show 3 < 6 by decide)
  obtain ⟨b4, o4, z4, f4, hz4, h4⟩ := hs.elemI (show 4 < 6 by decide)
  obtain ⟨b5, o5, z5, f5, hz5, h5⟩ := hs.elemI (show 5 < 6 by decide)
  simp only [Option.some.injEq, Addr.mk.injEq, and_true] at f1 f2 f3 f4 f5
  obtain ⟨rfl, rfl⟩ := f1; obtain ⟨rfl, rfl⟩ := f2; obtain ⟨rfl, rfl⟩ := f3; obtain ⟨rfl, rfl⟩ := f4; obtain ⟨rfl, rfl⟩ := f5
  simp at hz0 hz1 hz2 hz3 hz4 hz5
  subst hz0; subst hz1; subst hz2; subst hz3; subst hz4; subst hz5
  have hB : Below W.heap.size W (W.alloc (.cells #[.int .i64 0, .int .i64 0, .int .i64 0, .int .i64 0, .int .i64 0] 58)) := (Below.refl _ _).alloc (Nat.le_refl _) _
  have hbA : Below (W.alloc (.cells #[.int .i64 0, .int .i64 0, .int .i64 0, .int .i64 0, .int .i64 0] 58)).heap.size (W.alloc (.cells #[.int .i64 0, .int .i64 0, .int .i64 0, .int .i64 0, .int .i64 0] 58)) (w2.alloc (.cells #[.int .i64 3, .int .i64 n, .string s, .slice (some ⟨b, o, none⟩) 6 c] 88)) := hb.alloc hb.size _
  have k := fun {b o : Nat} {v : Value} (hc : w2.cell? ⟨b, o, none⟩ = some v) => (((Below.refl w2.heap.size w2).alloc (Nat.le_refl _) (.cells #[.int .i64 3, .int .i64 n, .string s, .slice (some ⟨b, o, none⟩) 6 c] 88)).cell (p := ⟨b, o, none⟩) (block_lt_of_cell hc)).trans hc
  have hsz : (W.alloc (.cells #[.int .i64 0, .int .i64 0, .int .i64 0, .int .i64 0, .int .i64 0] 58)).heap.size = W.heap.size + 1 := by simp
  have hlt := hb.size
  have hbb := (hrow.lt b rfl).1
  refine ⟨b, o, rfl, hB.trans (hbA.mono hB.size), (hbA.block _ (by rw [hsz]; omega)).trans hE, ?_, kk h0, kk h1, kk h2, kk h3, kk h4, kk h5, hA.ext hbA, ⟨by omega, by omega⟩⟩
  rw [cell_of_row _ w2.heap.size 3 _ _ (0, 0) (heap_alloc_new w2 _)]; rfl
where kk {w2 : World} {o' : Obj} {b o : Nat} {v : Value} (hc : w2.cell? ⟨b, o, none⟩ = some v) : (w2.alloc o').cell? ⟨b, o, none⟩ = some v := (((Below.refl w2.heap.size w2).alloc (Nat.le_refl _) o').cell (p := ⟨b, o, none⟩) (block_lt_of_cell hc)).trans hc
set_option maxHeartbeats 4000000 in
set_option maxRecDepth 100000 in
theorem read_b1 (sa : Nat) (xs : List ND) (t : Int) (W : World) (h : ArV W 124 sa xs) (hT : Tb W.heap.size W) (hE : EvS W.heap.size W) (hh : hasB xs t = true) (ho : (nodeF xs t).o = 3) (hl : (nodeF xs t).l.length = 6) (h0 : (nodeF xs ((nodeF xs t).l.getD 0 0)).o ≠ 2) :
    Calls Tryz.prog 35 #[.pointer (some ⟨sa, 0, none⟩), .int .i64 t] W (RdS W (rdO xs t)) := by
  have HT := hid hT; have HEV := hid hE
  have HE0 := hid (heap_alloc_new W (.cells #[.int .i64 0, .int .i64 0, .int .i64 0, .int .i64 0, .int .i64 0] 58))
  have HB0 := hid (show Below W.heap.size W (W.alloc (.cells #[.int .i64 0, .int .i64 0, .int .i64 0, .int .i64 0, .int .i64 0] 58)) from (Below.refl _ _).alloc (Nat.le_refl _) _)
  have HA0 := hid (h.ext HB0.out)
  have HN := hid (node_any sa xs t _ HA0.out)
  have hE4 : nodeE xs t = 0 := by unfold nodeE; rw [hh]; rfl
  have HP := hid (part_has h.ok hh)
  have HTL := hid (fun i => text_len h.ok i)
  obtain ⟨o, ho'⟩ : ∃ o, o = rdO xs t := ⟨_, rfl⟩
  have HO := hid ho'
  rw [← ho']
  clear ho'
  unfold rdO at HO
  rw [if_pos ⟨hh, ho, hl⟩] at HO
  rw [hE4] at HN
  clear h hT hE hE4 hh
  generalize nodeF xs t = x at HN HO HP ho hl h0
  obtain ⟨xo, n, s, l⟩ := x
  try dsimp only at HN HO HP ho hl
  subst ho
  obtain ⟨x0, x1, x2, x3, x4, x5, rfl⟩ : ∃ x0 x1 x2 x3 x4 x5, l = [x0, x1, x2, x3, x4, x5] := by
    match l, hl with
    | [a, b, c, d, e, f], _ => exact ⟨a, b, c, d, e, f, rfl⟩
  clear hl
  have HN := hid (show Calls Tryz.prog 73 #[.pointer (some ⟨sa, 0, none⟩), .int .i64 t] (W.alloc (.cells #[.int .i64 0, .int .i64 0, .int .i64 0, .int .i64 0, .int .i64 0] 58)) fun e w' => ∃ A c, e = .returned (.tuple #[.agg #[.int .i64 3, .int .i64 n, .string s, .slice A 6 c], .int .i64 0]) ∧ w'.ownsRow (W.alloc (.cells #[.int .i64 0, .int .i64 0, .int .i64 0, .int .i64 0, .int .i64 0] 58)).heap.size 3 1 (.slice A 6 c) 6 ([x0, x1, x2, x3, x4, x5].map (.int .i64)) ∧ Below (W.alloc (.cells #[.int .i64 0, .int .i64 0, .int .i64 0, .int .i64 0, .int .i64 0] 58)).heap.size (W.alloc (.cells #[.int .i64 0, .int .i64 0, .int .i64 0, .int .i64 0, .int .i64 0] 58)) w' from HN.out)
  have HO := hid (show o = if (nodeF xs x0).o = 2 ∧ (nodeF xs x0).s = lbGroup ∧ (nodeF xs x2).o = 2 then (numO (nodeF xs x2).s).map fun k => [x1, k, x3, x4, x5] else none from HO.out)
  have HH0 := hid (HP.out x0 (by simp)); have HH2 := hid (HP.out x2 (by simp))
  have HS2 := hid (HTL.out x2)
  have HT0 := hid (fun U hu => ttext_any sa xs x0 U hu); have HT2 := hid (fun U hu => ttext_any sa xs x2 U hu)
  rw [HH0.out] at HT0; rw [HH2.out] at HT2
  simp only [Bool.true_and] at HT0 HT2
  clear HP HTL HH0 HH2
  replace h0 : (nodeF xs x0).o ≠ 2 := h0
  generalize HN0 : nodeF xs x0 = n0 at *
  generalize HN2 : nodeF xs x2 = n2 at *
  have HX0 := hid HN0; have HX2 := hid HN2
  clear HN0 HN2
  obtain ⟨q0, p0, n0s, l0⟩ := n0
  obtain ⟨q2, p2, n2s, l2⟩ := n2
  dsimp only at HO HT0 HT2 HS2 h0
  have e0 : (q0 == 2) = false := beq_eq_false_iff_ne.2 h0
  rw [e0] at HT0
  have HQ := hid (show o = none by rw [HO.out, if_neg (fun e => h0 e.1)])
  clear h0 e0 HO
  generalize (q2 == 2) = b2 at *
  go_enter Tryz.func35, Tryz.ntmps35
  go_wp2_with fail
  refine HN.out.mono ?_
  rintro e w2 ⟨A, c, rfl, hrow, hb⟩
  obtain ⟨b, o', rfl, hr3⟩ := rdc_start hrow hb HE0.out HA0.out n s
  have HR3 := hid hr3
  have c0 := hr3.c0
  clear hrow hb HN HE0 HA0 hr3
  go_wp2_with fail
  refine (HT0.out _ HR3.out.ar).mono ?_
  rintro e w4 ⟨rfl, hb4⟩
  have HR4 := hid (HR3.out.ext hb4)
  clear HR3 hb4 c0 HT0
  generalize w2.heap.size = nb at *
  have s4 := HR4.out.sl; have c2 := HR4.out.c2
  go_wp2_with fail
  refine (HT2.out _ HR4.out.ar).mono ?_
  rintro e w5 ⟨rfl, hb5⟩
  have HR5 := hid (HR4.out.ext hb5)
  clear HR4 hb5 s4 c2 HT2
  go_wp2_with fail
  refine (atoi_at n2s HS2.out w5 (EvS.up (EvS.on HEV.out HR5.out.low (Nat.le_refl _)) HR5.out.low.size)).mono ?_
  rintro e w6 ⟨hat, hb6⟩
  have HR6 := hid (HR5.out.ext hb6)
  clear HR5 hb6
  rcases hat with ⟨v, hv, rfl, hvi⟩ | ⟨hv, v, T, p, rfl⟩
  · clear hv hvi
    have r0 : w6.cell? ⟨W.heap.size, 0, none⟩ = some (.int .i64 0) := by rw [cell_of_row w6 (W.heap.size) 0 _ _ (0, 0) HR6.out.box]; rfl
    have f0 : w6.frozen? ⟨W.heap.size, 0, none⟩ = false := frozen_of_row w6 (W.heap.size) 0 _ _ HR6.out.box
    have r1 : w6.cell? ⟨W.heap.size, 1, none⟩ = some (.int .i64 0) := by rw [cell_of_row w6 (W.heap.size) 1 _ _ (0, 0) HR6.out.box]; rfl
    have f1 : w6.frozen? ⟨W.heap.size, 1, none⟩ = false := frozen_of_row w6 (W.heap.size) 1 _ _ HR6.out.box
    have r2 : w6.cell? ⟨W.heap.size, 2, none⟩ = some (.int .i64 0) := by rw [cell_of_row w6 (W.heap.size) 2 _ _ (0, 0) HR6.out.box]; rfl
    have f2 : w6.frozen? ⟨W.heap.size, 2, none⟩ = false := frozen_of_row w6 (W.heap.size) 2 _ _ HR6.out.box
    have r3 : w6.cell? ⟨W.heap.size, 3, none⟩ = some (.int .i64 0) := by rw [cell_of_row w6 (W.heap.size) 3 _ _ (0, 0) HR6.out.box]; rfl
    have f3 : w6.frozen? ⟨W.heap.size, 3, none⟩ = false := frozen_of_row w6 (W.heap.size) 3 _ _ HR6.out.box
    have r4 : w6.cell? ⟨W.heap.size, 4, none⟩ = some (.int .i64 0) := by rw [cell_of_row w6 (W.heap.size) 4 _ _ (0, 0) HR6.out.box]; rfl
    have f4 : w6.frozen? ⟨W.heap.size, 4, none⟩ = false := frozen_of_row w6 (W.heap.size) 4 _ _ HR6.out.box
    go_wp2_with fail
    refine bodyPost_ret (v := .tuple #[.agg #[.int .i64 0, .int .i64 0, .int .i64 0, .int .i64 0, .int .i64 0], .int .i64 1]) ?_ rfl (show RdS _ _ _ _ from ⟨by rw [HQ.out]; rfl, ?_⟩)
    · rw [results_cell_tmp rfl]
      go_simp
    · iterate 5 refine Below.setCell (B := W.heap.size) ?_ (p := ⟨W.heap.size, _, none⟩) (Nat.le_refl _) _
      exact HR6.out.low
  · clear hv
    have r0 : w6.cell? ⟨W.heap.size, 0, none⟩ = some (.int .i64 0) := by rw [cell_of_row w6 (W.heap.size) 0 _ _ (0, 0) HR6.out.box]; rfl
    have f0 : w6.frozen? ⟨W.heap.size, 0, none⟩ = false := frozen_of_row w6 (W.heap.size) 0 _ _ HR6.out.box
    have r1 : w6.cell? ⟨W.heap.size, 1, none⟩ = some (.int .i64 0) := by rw [cell_of_row w6 (W.heap.size) 1 _ _ (0, 0) HR6.out.box]; rfl
    have f1 : w6.frozen? ⟨W.heap.size, 1, none⟩ = false := frozen_of_row w6 (W.heap.size) 1 _ _ HR6.out.box
    have r2 : w6.cell? ⟨W.heap.size, 2, none⟩ = some (.int .i64 0) := by rw [cell_of_row w6 (W.heap.size) 2 _ _ (0, 0) HR6.out.box]; rfl
    have f2 : w6.frozen? ⟨W.heap.size, 2, none⟩ = false := frozen_of_row w6 (W.heap.size) 2 _ _ HR6.out.box
    have r3 : w6.cell? ⟨W.heap.size, 3, none⟩ = some (.int .i64 0) := by rw [cell_of_row w6 (W.heap.size) 3 _ _ (0, 0) HR6.out.box]; rfl
    have f3 : w6.frozen? ⟨W.heap.size, 3, none⟩ = false := frozen_of_row w6 (W.heap.size) 3 _ _ HR6.out.box
    have r4 : w6.cell? ⟨W.heap.size, 4, none⟩ = some (.int .i64 0) := by rw [cell_of_row w6 (W.heap.size) 4 _ _ (0, 0) HR6.out.box]; rfl
    have f4 : w6.frozen? ⟨W.heap.size, 4, none⟩ = false := frozen_of_row w6 (W.heap.size) 4 _ _ HR6.out.box
    go_wp2_with fail
    refine bodyPost_ret (v := .tuple #[.agg #[.int .i64 0, .int .i64 0, .int .i64 0, .int .i64 0, .int .i64 0], .int .i64 1]) ?_ rfl (show RdS _ _ _ _ from ⟨by rw [HQ.out]; rfl, ?_⟩)
    · rw [results_cell_tmp rfl]
      go_simp
    · iterate 5 refine Below.setCell (B := W.heap.size) ?_ (p := ⟨W.heap.size, _, none⟩) (Nat.le_refl _) _
      exact HR6.out.low
set_option maxHeartbeats 4000000 in
set_option maxRecDepth 100000 in
theorem read_b2 (sa : Nat) (xs : List ND) (t : Int) (W : World) (h : ArV W 124 sa xs) (hT : Tb W.heap.size W) (hE : EvS W.heap.size W) (hh : hasB xs t = true) (ho : (nodeF xs t).o = 3) (hl : (nodeF xs t).l.length = 6) (h0 : (nodeF xs ((nodeF xs t).l.getD 0 0)).o = 2) (h2 : (nodeF xs ((nodeF xs t).l.getD 2 0)).o ≠ 2) :
    Calls Tryz.prog 35 #[.pointer (some ⟨sa, 0, none⟩), .int .i64 t] W (RdS W (rdO xs t)) := by
  have HT := hid hT; have HEV := hid hE
  have HE0 := hid (heap_alloc_new W (.cells #[.int .i64 0, .int .i64 0, .int .i64 0, .int .i64 0, .int .i64 0] 58))
  have HB0 := hid (show Below W.heap.size W (W.alloc (.cells #[.int .i64 0, .int .i64 0, .int .i64 0, .int .i64 0, .int .i64 0] 58)) from (Below.refl _ _).alloc (Nat.le_refl _) _)
  have HA0 := hid (h.ext HB0.out)
  have HN := hid (node_any sa xs t _ HA0.out)
  have hE4 : nodeE xs t = 0 := by unfold nodeE; rw [hh]; rfl
  have HP := hid (part_has h.ok hh)
  have HTL := hid (fun i => text_len h.ok i)
  obtain ⟨o, ho'⟩ : ∃ o, o = rdO xs t := ⟨_, rfl⟩
  have HO := hid ho'
  rw [← ho']
  clear ho'
  unfold rdO at HO
  rw [if_pos ⟨hh, ho, hl⟩] at HO
  rw [hE4] at HN
  clear h hT hE hE4 hh
  generalize nodeF xs t = x at HN HO HP ho hl h0 h2
  obtain ⟨xo, n, s, l⟩ := x
  try dsimp only at HN HO HP ho hl
  subst ho
  obtain ⟨x0, x1, x2, x3, x4, x5, rfl⟩ : ∃ x0 x1 x2 x3 x4 x5, l = [x0, x1, x2, x3, x4, x5] := by
    match l, hl with
    | [a, b, c, d, e, f], _ => exact ⟨a, b, c, d, e, f, rfl⟩
  clear hl
  have HN := hid (show Calls Tryz.prog 73 #[.pointer (some ⟨sa, 0, none⟩), .int .i64 t] (W.alloc (.cells #[.int .i64 0, .int .i64 0, .int .i64 0, .int .i64 0, .int .i64 0] 58)) fun e w' => ∃ A c, e = .returned (.tuple #[.agg #[.int .i64 3, .int .i64 n, .string s, .slice A 6 c], .int .i64 0]) ∧ w'.ownsRow (W.alloc (.cells #[.int .i64 0, .int .i64 0, .int .i64 0, .int .i64 0, .int .i64 0] 58)).heap.size 3 1 (.slice A 6 c) 6 ([x0, x1, x2, x3, x4, x5].map (.int .i64)) ∧ Below (W.alloc (.cells #[.int .i64 0, .int .i64 0, .int .i64 0, .int .i64 0, .int .i64 0] 58)).heap.size (W.alloc (.cells #[.int .i64 0, .int .i64 0, .int .i64 0, .int .i64 0, .int .i64 0] 58)) w' from HN.out)
  have HO := hid (show o = if (nodeF xs x0).o = 2 ∧ (nodeF xs x0).s = lbGroup ∧ (nodeF xs x2).o = 2 then (numO (nodeF xs x2).s).map fun k => [x1, k, x3, x4, x5] else none from HO.out)
  have HH0 := hid (HP.out x0 (by simp)); have HH2 := hid (HP.out x2 (by simp))
  have HS2 := hid (HTL.out x2)
  have HT0 := hid (fun U hu => ttext_any sa xs x0 U hu); have HT2 := hid (fun U hu => ttext_any sa xs x2 U hu)
  rw [HH0.out] at HT0; rw [HH2.out] at HT2
  simp only [Bool.true_and] at HT0 HT2
  clear HP HTL HH0 HH2
  replace h0 : (nodeF xs x0).o = 2 := h0
  replace h2 : (nodeF xs x2).o ≠ 2 := h2
  generalize HN0 : nodeF xs x0 = n0 at *
  generalize HN2 : nodeF xs x2 = n2 at *
  have HX0 := hid HN0; have HX2 := hid HN2
  clear HN0 HN2
  obtain ⟨q0, p0, n0s, l0⟩ := n0
  obtain ⟨q2, p2, n2s, l2⟩ := n2
  dsimp only at HO HT0 HT2 HS2 h0 h2
  have e0 : (q0 == 2) = true := beq_iff_eq.2 h0
  have e2 : (q2 == 2) = false := beq_eq_false_iff_ne.2 h2
  rw [e0] at HT0
  rw [e2] at HT2
  have HQ := hid (show o = none by rw [HO.out, if_neg (fun e => h2 e.2.2)])
  clear h0 e0 h2 e2 HO
  go_enter Tryz.func35, Tryz.ntmps35
  go_wp2_with fail
  refine HN.out.mono ?_
  rintro e w2 ⟨A, c, rfl, hrow, hb⟩
  obtain ⟨b, o', rfl, hr3⟩ := rdc_start hrow hb HE0.out HA0.out n s
  have HR3 := hid hr3
  have c0 := hr3.c0
  clear hrow hb HN HE0 HA0 hr3
  go_wp2_with fail
  refine (HT0.out _ HR3.out.ar).mono ?_
  rintro e w4 ⟨rfl, hb4⟩
  have HR4 := hid (HR3.out.ext hb4)
  clear HR3 hb4 c0 HT0
  generalize w2.heap.size = nb at *
  have s4 := HR4.out.sl; have c2 := HR4.out.c2
  go_wp2_with fail
  refine (HT2.out _ HR4.out.ar).mono ?_
  rintro e w5 ⟨rfl, hb5⟩
  have HR5 := hid (HR4.out.ext hb5)
  clear HR4 hb5 s4 c2 HT2
  go_wp2_with fail
  refine (atoi_at n2s HS2.out w5 (EvS.up (EvS.on HEV.out HR5.out.low (Nat.le_refl _)) HR5.out.low.size)).mono ?_
  rintro e w6 ⟨hat, hb6⟩
  have HR6 := hid (HR5.out.ext hb6)
  clear HR5 hb6
  rcases hat with ⟨v, hv, rfl, hvi⟩ | ⟨hv, v, T, p, rfl⟩
  · clear hv hvi
    have r0 : w6.cell? ⟨W.heap.size, 0, none⟩ = some (.int .i64 0) := by rw [cell_of_row w6 (W.heap.size) 0 _ _ (0, 0) HR6.out.box]; rfl
    have f0 : w6.frozen? ⟨W.heap.size, 0, none⟩ = false := frozen_of_row w6 (W.heap.size) 0 _ _ HR6.out.box
    have r1 : w6.cell? ⟨W.heap.size, 1, none⟩ = some (.int .i64 0) := by rw [cell_of_row w6 (W.heap.size) 1 _ _ (0, 0) HR6.out.box]; rfl
    have f1 : w6.frozen? ⟨W.heap.size, 1, none⟩ = false := frozen_of_row w6 (W.heap.size) 1 _ _ HR6.out.box
    have r2 : w6.cell? ⟨W.heap.size, 2, none⟩ = some (.int .i64 0) := by rw [cell_of_row w6 (W.heap.size) 2 _ _ (0, 0) HR6.out.box]; rfl
    have f2 : w6.frozen? ⟨W.heap.size, 2, none⟩ = false := frozen_of_row w6 (W.heap.size) 2 _ _ HR6.out.box
    have r3 : w6.cell? ⟨W.heap.size, 3, none⟩ = some (.int .i64 0) := by rw [cell_of_row w6 (W.heap.size) 3 _ _ (0, 0) HR6.out.box]; rfl
    have f3 : w6.frozen? ⟨W.heap.size, 3, none⟩ = false := frozen_of_row w6 (W.heap.size) 3 _ _ HR6.out.box
    have r4 : w6.cell? ⟨W.heap.size, 4, none⟩ = some (.int .i64 0) := by rw [cell_of_row w6 (W.heap.size) 4 _ _ (0, 0) HR6.out.box]; rfl
    have f4 : w6.frozen? ⟨W.heap.size, 4, none⟩ = false := frozen_of_row w6 (W.heap.size) 4 _ _ HR6.out.box
    go_wp2_with fail
    refine bodyPost_ret (v := .tuple #[.agg #[.int .i64 0, .int .i64 0, .int .i64 0, .int .i64 0, .int .i64 0], .int .i64 1]) ?_ rfl (show RdS _ _ _ _ from ⟨by rw [HQ.out]; rfl, ?_⟩)
    · rw [results_cell_tmp rfl]
      go_simp
    · iterate 5 refine Below.setCell (B := W.heap.size) ?_ (p := ⟨W.heap.size, _, none⟩) (Nat.le_refl _) _
      exact HR6.out.low
  · clear hv
    have r0 : w6.cell? ⟨W.heap.size, 0, none⟩ = some (.int .i64 0) := by rw [cell_of_row w6 (W.heap.size) 0 _ _ (0, 0) HR6.out.box]; rfl
    have f0 : w6.frozen? ⟨W.heap.size, 0, none⟩ = false := frozen_of_row w6 (W.heap.size) 0 _ _ HR6.out.box
    have r1 : w6.cell? ⟨W.heap.size, 1, none⟩ = some (.int .i64 0) := by rw [cell_of_row w6 (W.heap.size) 1 _ _ (0, 0) HR6.out.box]; rfl
    have f1 : w6.frozen? ⟨W.heap.size, 1, none⟩ = false := frozen_of_row w6 (W.heap.size) 1 _ _ HR6.out.box
    have r2 : w6.cell? ⟨W.heap.size, 2, none⟩ = some (.int .i64 0) := by rw [cell_of_row w6 (W.heap.size) 2 _ _ (0, 0) HR6.out.box]; rfl
    have f2 : w6.frozen? ⟨W.heap.size, 2, none⟩ = false := frozen_of_row w6 (W.heap.size) 2 _ _ HR6.out.box
    have r3 : w6.cell? ⟨W.heap.size, 3, none⟩ = some (.int .i64 0) := by rw [cell_of_row w6 (W.heap.size) 3 _ _ (0, 0) HR6.out.box]; rfl
    have f3 : w6.frozen? ⟨W.heap.size, 3, none⟩ = false := frozen_of_row w6 (W.heap.size) 3 _ _ HR6.out.box
    have r4 : w6.cell? ⟨W.heap.size, 4, none⟩ = some (.int .i64 0) := by rw [cell_of_row w6 (W.heap.size) 4 _ _ (0, 0) HR6.out.box]; rfl
    have f4 : w6.frozen? ⟨W.heap.size, 4, none⟩ = false := frozen_of_row w6 (W.heap.size) 4 _ _ HR6.out.box
    go_wp2_with fail
    refine bodyPost_ret (v := .tuple #[.agg #[.int .i64 0, .int .i64 0, .int .i64 0, .int .i64 0, .int .i64 0], .int .i64 1]) ?_ rfl (show RdS _ _ _ _ from ⟨by rw [HQ.out]; rfl, ?_⟩)
    · rw [results_cell_tmp rfl]
      go_simp
    · iterate 5 refine Below.setCell (B := W.heap.size) ?_ (p := ⟨W.heap.size, _, none⟩) (Nat.le_refl _) _
      exact HR6.out.low
set_option maxHeartbeats 4000000 in
set_option maxRecDepth 100000 in
theorem read_b3 (sa : Nat) (xs : List ND) (t : Int) (W : World) (h : ArV W 124 sa xs) (hT : Tb W.heap.size W) (hE : EvS W.heap.size W) (hh : hasB xs t = true) (ho : (nodeF xs t).o = 3) (hl : (nodeF xs t).l.length = 6) (h0 : (nodeF xs ((nodeF xs t).l.getD 0 0)).o = 2) (h2 : (nodeF xs ((nodeF xs t).l.getD 2 0)).o = 2) (hg : (nodeF xs ((nodeF xs t).l.getD 0 0)).s ≠ lbGroup) :
    Calls Tryz.prog 35 #[.pointer (some ⟨sa, 0, none⟩), .int .i64 t] W (RdS W (rdO xs t)) := by
  have HT := hid hT; have HEV := hid hE
  have HE0 := hid (heap_alloc_new W (.cells #[.int .i64 0, .int .i64 0, .int .i64 0, .int .i64 0, .int .i64 0] 58))
  have HB0 := hid (show Below W.heap.size W (W.alloc (.cells #[.int .i64 0, .int .i64 0, .int .i64 0, .int .i64 0, .int .i64 0] 58)) from (Below.refl _ _).alloc (Nat.le_refl _) _)
  have HA0 := hid (h.ext HB0.out)
  have HN := hid (node_any sa xs t _ HA0.out)
  have hE4 : nodeE xs t = 0 := by unfold nodeE; rw [hh]; rfl
  have HP := hid (part_has h.ok hh)
  have HTL := hid (fun i => text_len h.ok i)
  obtain ⟨o, ho'⟩ : ∃ o, o = rdO xs t := ⟨_, rfl⟩
  have HO := hid ho'
  rw [← ho']
  clear ho'
  unfold rdO at HO
  rw [if_pos ⟨hh, ho, hl⟩] at HO
  rw [hE4] at HN
  clear h hT hE hE4 hh
  generalize nodeF xs t = x at HN HO HP ho hl h0 h2 hg
  obtain ⟨xo, n, s, l⟩ := x
  try dsimp only at HN HO HP ho hl
  subst ho
  obtain ⟨x0, x1, x2, x3, x4, x5, rfl⟩ : ∃ x0 x1 x2 x3 x4 x5, l = [x0, x1, x2, x3, x4, x5] := by
    match l, hl with
    | [a, b, c, d, e, f], _ => exact ⟨a, b, c, d, e, f, rfl⟩
  clear hl
  have HN := hid (show Calls Tryz.prog 73 #[.pointer (some ⟨sa, 0, none⟩), .int .i64 t] (W.alloc (.cells #[.int .i64 0, .int .i64 0, .int .i64 0, .int .i64 0, .int .i64 0] 58)) fun e w' => ∃ A c, e = .returned (.tuple #[.agg #[.int .i64 3, .int .i64 n, .string s, .slice A 6 c], .int .i64 0]) ∧ w'.ownsRow (W.alloc (.cells #[.int .i64 0, .int .i64 0, .int .i64 0, .int .i64 0, .int .i64 0] 58)).heap.size 3 1 (.slice A 6 c) 6 ([x0, x1, x2, x3, x4, x5].map (.int .i64)) ∧ Below (W.alloc (.cells #[.int .i64 0, .int .i64 0, .int .i64 0, .int .i64 0, .int .i64 0] 58)).heap.size (W.alloc (.cells #[.int .i64 0, .int .i64 0, .int .i64 0, .int .i64 0, .int .i64 0] 58)) w' from HN.out)
  have HO := hid (show o = if (nodeF xs x0).o = 2 ∧ (nodeF xs x0).s = lbGroup ∧ (nodeF xs x2).o = 2 then (numO (nodeF xs x2).s).map fun k => [x1, k, x3, x4, x5] else none from HO.out)
  have HH0 := hid (HP.out x0 (by simp)); have HH2 := hid (HP.out x2 (by simp))
  have HS2 := hid (HTL.out x2)
  have HT0 := hid (fun U hu => ttext_any sa xs x0 U hu); have HT2 := hid (fun U hu => ttext_any sa xs x2 U hu)
  rw [HH0.out] at HT0; rw [HH2.out] at HT2
  simp only [Bool.true_and] at HT0 HT2
  clear HP HTL HH0 HH2
  replace h0 : (nodeF xs x0).o = 2 := h0
  replace h2 : (nodeF xs x2).o = 2 := h2
  replace hg : (nodeF xs x0).s ≠ lbGroup := hg
  generalize HN0 : nodeF xs x0 = n0 at *
  generalize HN2 : nodeF xs x2 = n2 at *
  have HX0 := hid HN0; have HX2 := hid HN2
  clear HN0 HN2
  obtain ⟨q0, p0, n0s, l0⟩ := n0
  obtain ⟨q2, p2, n2s, l2⟩ := n2
  dsimp only at HO HT0 HT2 HS2 h0 h2 hg
  have e0 : (q0 == 2) = true := beq_iff_eq.2 h0
  have e2 : (q2 == 2) = true := beq_iff_eq.2 h2
  rw [e0] at HT0
  rw [e2] at HT2
  have HQ := hid (show o = none by rw [HO.out, if_neg (fun e => hg e.2.1)])
  have hg2 : ¬ n0s.toList = [103, 114, 111, 117, 112] := fun e => by
    have h1 := ba_ne hg
    have h2 : lbGroup.toList = [103, 114, 111, 117, 112] := by rw [ByteArray.toList_eq]; rfl
    rw [h2, e] at h1
    simp at h1
  clear h0 e0 h2 e2 HO hg
  go_enter Tryz.func35, Tryz.ntmps35
  go_wp2_with fail
  refine HN.out.mono ?_
  rintro e w2 ⟨A, c, rfl, hrow, hb⟩
  obtain ⟨b, o', rfl, hr3⟩ := rdc_start hrow hb HE0.out HA0.out n s
  have HR3 := hid hr3
  have c0 := hr3.c0
  clear hrow hb HN HE0 HA0 hr3
  go_wp2_with fail
  refine (HT0.out _ HR3.out.ar).mono ?_
  rintro e w4 ⟨rfl, hb4⟩
  have HR4 := hid (HR3.out.ext hb4)
  clear HR3 hb4 c0 HT0
  generalize w2.heap.size = nb at *
  have s4 := HR4.out.sl; have c2 := HR4.out.c2
  go_wp2_with fail
  refine (HT2.out _ HR4.out.ar).mono ?_
  rintro e w5 ⟨rfl, hb5⟩
  have HR5 := hid (HR4.out.ext hb5)
  clear HR4 hb5 s4 c2 HT2
  go_wp2_with fail
  refine (atoi_at n2s HS2.out w5 (EvS.up (EvS.on HEV.out HR5.out.low (Nat.le_refl _)) HR5.out.low.size)).mono ?_
  rintro e w6 ⟨hat, hb6⟩
  have HR6 := hid (HR5.out.ext hb6)
  clear HR5 hb6
  rcases hat with ⟨v, hv, rfl, hvi⟩ | ⟨hv, v, T, p, rfl⟩
  · clear hv hvi
    have r0 : w6.cell? ⟨W.heap.size, 0, none⟩ = some (.int .i64 0) := by rw [cell_of_row w6 (W.heap.size) 0 _ _ (0, 0) HR6.out.box]; rfl
    have f0 : w6.frozen? ⟨W.heap.size, 0, none⟩ = false := frozen_of_row w6 (W.heap.size) 0 _ _ HR6.out.box
    have r1 : w6.cell? ⟨W.heap.size, 1, none⟩ = some (.int .i64 0) := by rw [cell_of_row w6 (W.heap.size) 1 _ _ (0, 0) HR6.out.box]; rfl
    have f1 : w6.frozen? ⟨W.heap.size, 1, none⟩ = false := frozen_of_row w6 (W.heap.size) 1 _ _ HR6.out.box
    have r2 : w6.cell? ⟨W.heap.size, 2, none⟩ = some (.int .i64 0) := by rw [cell_of_row w6 (W.heap.size) 2 _ _ (0, 0) HR6.out.box]; rfl
    have f2 : w6.frozen? ⟨W.heap.size, 2, none⟩ = false := frozen_of_row w6 (W.heap.size) 2 _ _ HR6.out.box
    have r3 : w6.cell? ⟨W.heap.size, 3, none⟩ = some (.int .i64 0) := by rw [cell_of_row w6 (W.heap.size) 3 _ _ (0, 0) HR6.out.box]; rfl
    have f3 : w6.frozen? ⟨W.heap.size, 3, none⟩ = false := frozen_of_row w6 (W.heap.size) 3 _ _ HR6.out.box
    have r4 : w6.cell? ⟨W.heap.size, 4, none⟩ = some (.int .i64 0) := by rw [cell_of_row w6 (W.heap.size) 4 _ _ (0, 0) HR6.out.box]; rfl
    have f4 : w6.frozen? ⟨W.heap.size, 4, none⟩ = false := frozen_of_row w6 (W.heap.size) 4 _ _ HR6.out.box
    go_wp2_with fail
    refine bodyPost_ret (v := .tuple #[.agg #[.int .i64 0, .int .i64 0, .int .i64 0, .int .i64 0, .int .i64 0], .int .i64 1]) ?_ rfl (show RdS _ _ _ _ from ⟨by rw [HQ.out]; rfl, ?_⟩)
    · rw [results_cell_tmp rfl]
      go_simp
    · iterate 5 refine Below.setCell (B := W.heap.size) ?_ (p := ⟨W.heap.size, _, none⟩) (Nat.le_refl _) _
      exact HR6.out.low
  · clear hv
    have r0 : w6.cell? ⟨W.heap.size, 0, none⟩ = some (.int .i64 0) := by rw [cell_of_row w6 (W.heap.size) 0 _ _ (0, 0) HR6.out.box]; rfl
    have f0 : w6.frozen? ⟨W.heap.size, 0, none⟩ = false := frozen_of_row w6 (W.heap.size) 0 _ _ HR6.out.box
    have r1 : w6.cell? ⟨W.heap.size, 1, none⟩ = some (.int .i64 0) := by rw [cell_of_row w6 (W.heap.size) 1 _ _ (0, 0) HR6.out.box]; rfl
    have f1 : w6.frozen? ⟨W.heap.size, 1, none⟩ = false := frozen_of_row w6 (W.heap.size) 1 _ _ HR6.out.box
    have r2 : w6.cell? ⟨W.heap.size, 2, none⟩ = some (.int .i64 0) := by rw [cell_of_row w6 (W.heap.size) 2 _ _ (0, 0) HR6.out.box]; rfl
    have f2 : w6.frozen? ⟨W.heap.size, 2, none⟩ = false := frozen_of_row w6 (W.heap.size) 2 _ _ HR6.out.box
    have r3 : w6.cell? ⟨W.heap.size, 3, none⟩ = some (.int .i64 0) := by rw [cell_of_row w6 (W.heap.size) 3 _ _ (0, 0) HR6.out.box]; rfl
    have f3 : w6.frozen? ⟨W.heap.size, 3, none⟩ = false := frozen_of_row w6 (W.heap.size) 3 _ _ HR6.out.box
    have r4 : w6.cell? ⟨W.heap.size, 4, none⟩ = some (.int .i64 0) := by rw [cell_of_row w6 (W.heap.size) 4 _ _ (0, 0) HR6.out.box]; rfl
    have f4 : w6.frozen? ⟨W.heap.size, 4, none⟩ = false := frozen_of_row w6 (W.heap.size) 4 _ _ HR6.out.box
    go_wp2_with fail
    refine bodyPost_ret (v := .tuple #[.agg #[.int .i64 0, .int .i64 0, .int .i64 0, .int .i64 0, .int .i64 0], .int .i64 1]) ?_ rfl (show RdS _ _ _ _ from ⟨by rw [HQ.out]; rfl, ?_⟩)
    · rw [results_cell_tmp rfl]
      go_simp
    · iterate 5 refine Below.setCell (B := W.heap.size) ?_ (p := ⟨W.heap.size, _, none⟩) (Nat.le_refl _) _
      exact HR6.out.low
set_option maxHeartbeats 4000000 in
set_option maxRecDepth 100000 in
theorem read_b4 (sa : Nat) (xs : List ND) (t : Int) (W : World) (h : ArV W 124 sa xs) (hT : Tb W.heap.size W) (hE : EvS W.heap.size W) (hh : hasB xs t = true) (ho : (nodeF xs t).o = 3) (hl : (nodeF xs t).l.length = 6) (h0 : (nodeF xs ((nodeF xs t).l.getD 0 0)).o = 2) (h2 : (nodeF xs ((nodeF xs t).l.getD 2 0)).o = 2) (hg : (nodeF xs ((nodeF xs t).l.getD 0 0)).s = lbGroup) (ha : ∀ u, Lib.atoiAll (nodeF xs ((nodeF xs t).l.getD 2 0)).s.data.toList ≠ .ok u) :
    Calls Tryz.prog 35 #[.pointer (some ⟨sa, 0, none⟩), .int .i64 t] W (RdS W (rdO xs t)) := by
  have HT := hid hT; have HEV := hid hE
  have HE0 := hid (heap_alloc_new W (.cells #[.int .i64 0, .int .i64 0, .int .i64 0, .int .i64 0, .int .i64 0] 58))
  have HB0 := hid (show Below W.heap.size W (W.alloc (.cells #[.int .i64 0, .int .i64 0, .int .i64 0, .int .i64 0, .int .i64 0] 58)) from (Below.refl _ _).alloc (Nat.le_refl _) _)
  have HA0 := hid (h.ext HB0.out)
  have HN := hid (node_any sa xs t _ HA0.out)
  have hE4 : nodeE xs t = 0 := by unfold nodeE; rw [hh]; rfl
  have HP := hid (part_has h.ok hh)
  have HTL := hid (fun i => text_len h.ok i)
  obtain ⟨o, ho'⟩ : ∃ o, o = rdO xs t := ⟨_, rfl⟩
  have HO := hid ho'
  rw [← ho']
  clear ho'
  unfold rdO at HO
  rw [if_pos ⟨hh, ho, hl⟩] at HO
  rw [hE4] at HN
  clear h hT hE hE4 hh
  generalize nodeF xs t = x at HN HO HP ho hl h0 h2 hg ha
  obtain ⟨xo, n, s, l⟩ := x
  try dsimp only at HN HO HP ho hl
  subst ho
  obtain ⟨x0, x1, x2, x3, x4, x5, rfl⟩ : ∃ x0 x1 x2 x3 x4 x5, l = [x0, x1, x2, x3, x4, x5] := by
    match l, hl with
    | [a, b, c, d, e, f], _ => exact ⟨a, b, c, d, e, f, rfl⟩
  clear hl
  have HN := hid (show Calls Tryz.prog 73 #[.pointer (some ⟨sa, 0, none⟩), .int .i64 t] (W.alloc (.cells #[.int .i64 0, .int .i64 0, .int .i64 0, .int .i64 0, .int .i64 0] 58)) fun e w' => ∃ A c, e = .returned (.tuple #[.agg #[.int .i64 3, .int .i64 n, .string s, .slice A 6 c], .int .i64 0]) ∧ w'.ownsRow (W.alloc (.cells #[.int .i64 0, .int .i64 0, .int .i64 0, .int .i64 0, .int .i64 0] 58)).heap.size 3 1 (.slice A 6 c) 6 ([x0, x1, x2, x3, x4, x5].map (.int .i64)) ∧ Below (W.alloc (.cells #[.int .i64 0, .int .i64 0, .int .i64 0, .int .i64 0, .int .i64 0] 58)).heap.size (W.alloc (.cells #[.int .i64 0, .int .i64 0, .int .i64 0, .int .i64 0, .int .i64 0] 58)) w' from HN.out)
  have HO := hid (show o = if (nodeF xs x0).o = 2 ∧ (nodeF xs x0).s = lbGroup ∧ (nodeF xs x2).o = 2 then (numO (nodeF xs x2).s).map fun k => [x1, k, x3, x4, x5] else none from HO.out)
  have HH0 := hid (HP.out x0 (by simp)); have HH2 := hid (HP.out x2 (by simp))
  have HS2 := hid (HTL.out x2)
  have HT0 := hid (fun U hu => ttext_any sa xs x0 U hu); have HT2 := hid (fun U hu => ttext_any sa xs x2 U hu)
  rw [HH0.out] at HT0; rw [HH2.out] at HT2
  simp only [Bool.true_and] at HT0 HT2
  clear HP HTL HH0 HH2
  replace h0 : (nodeF xs x0).o = 2 := h0
  replace h2 : (nodeF xs x2).o = 2 := h2
  replace hg : (nodeF xs x0).s = lbGroup := hg
  replace ha : ∀ u, Lib.atoiAll (nodeF xs x2).s.data.toList ≠ .ok u := ha
  generalize HN0 : nodeF xs x0 = n0 at *
  generalize HN2 : nodeF xs x2 = n2 at *
  have HX0 := hid HN0; have HX2 := hid HN2
  clear HN0 HN2
  obtain ⟨q0, p0, n0s, l0⟩ := n0
  obtain ⟨q2, p2, n2s, l2⟩ := n2
  dsimp only at HO HT0 HT2 HS2 h0 h2 hg ha
  have e0 : (q0 == 2) = true := beq_iff_eq.2 h0
  have e2 : (q2 == 2) = true := beq_iff_eq.2 h2
  rw [e0] at HT0
  rw [e2] at HT2
  have hg2 : n0s.toList = [103, 114, 111, 117, 112] := by rw [hg, ByteArray.toList_eq]; rfl
  have HQ0 := hid (show o = (numO n2s).map fun k => [x1, k, x3, x4, x5] by rw [HO.out, if_pos ⟨h0, hg, h2⟩])
  have HQ := hid (show o = none by rw [HQ0.out]; exact numO_none ha)
  have HA := hid ha
  clear h0 e0 h2 e2 HO hg ha HQ0
  go_enter Tryz.func35, Tryz.ntmps35
  go_wp2_with fail
  refine HN.out.mono ?_
  rintro e w2 ⟨A, c, rfl, hrow, hb⟩
  obtain ⟨b, o', rfl, hr3⟩ := rdc_start hrow hb HE0.out HA0.out n s
  have HR3 := hid hr3
  have c0 := hr3.c0
  clear hrow hb HN HE0 HA0 hr3
  go_wp2_with fail
  refine (HT0.out _ HR3.out.ar).mono ?_
  rintro e w4 ⟨rfl, hb4⟩
  have HR4 := hid (HR3.out.ext hb4)
  clear HR3 hb4 c0 HT0
  generalize w2.heap.size = nb at *
  have s4 := HR4.out.sl; have c2 := HR4.out.c2
  go_wp2_with fail
  refine (HT2.out _ HR4.out.ar).mono ?_
  rintro e w5 ⟨rfl, hb5⟩
  have HR5 := hid (HR4.out.ext hb5)
  clear HR4 hb5 s4 c2 HT2
  go_wp2_with fail
  refine (atoi_at n2s HS2.out w5 (EvS.up (EvS.on HEV.out HR5.out.low (Nat.le_refl _)) HR5.out.low.size)).mono ?_
  rintro e w6 ⟨hat, hb6⟩
  have HR6 := hid (HR5.out.ext hb6)
  clear HR5 hb6
  rcases hat with ⟨v, hv, -, -⟩ | ⟨hv, v, T, p, rfl⟩
  · exact absurd hv (HA.out v)
  clear hv HA
  have r0 : w6.cell? ⟨W.heap.size, 0, none⟩ = some (.int .i64 0) := by rw [cell_of_row w6 (W.heap.size) 0 _ _ (0, 0) HR6.out.box]; rfl
  have f0 : w6.frozen? ⟨W.heap.size, 0, none⟩ = false := frozen_of_row w6 (W.heap.size) 0 _ _ HR6.out.box
  have r1 : w6.cell? ⟨W.heap.size, 1, none⟩ = some (.int .i64 0) := by rw [cell_of_row w6 (W.heap.size) 1 _ _ (0, 0) HR6.out.box]; rfl
  have f1 : w6.frozen? ⟨W.heap.size, 1, none⟩ = false := frozen_of_row w6 (W.heap.size) 1 _ _ HR6.out.box
  have r2 : w6.cell? ⟨W.heap.size, 2, none⟩ = some (.int .i64 0) := by rw [cell_of_row w6 (W.heap.size) 2 _ _ (0, 0) HR6.out.box]; rfl
  have f2 : w6.frozen? ⟨W.heap.size, 2, none⟩ = false := frozen_of_row w6 (W.heap.size) 2 _ _ HR6.out.box
  have r3 : w6.cell? ⟨W.heap.size, 3, none⟩ = some (.int .i64 0) := by rw [cell_of_row w6 (W.heap.size) 3 _ _ (0, 0) HR6.out.box]; rfl
  have f3 : w6.frozen? ⟨W.heap.size, 3, none⟩ = false := frozen_of_row w6 (W.heap.size) 3 _ _ HR6.out.box
  have r4 : w6.cell? ⟨W.heap.size, 4, none⟩ = some (.int .i64 0) := by rw [cell_of_row w6 (W.heap.size) 4 _ _ (0, 0) HR6.out.box]; rfl
  have f4 : w6.frozen? ⟨W.heap.size, 4, none⟩ = false := frozen_of_row w6 (W.heap.size) 4 _ _ HR6.out.box
  go_wp2_with fail
  refine bodyPost_ret (v := .tuple #[.agg #[.int .i64 0, .int .i64 0, .int .i64 0, .int .i64 0, .int .i64 0], .int .i64 1]) ?_ rfl (show RdS _ _ _ _ from ⟨by rw [HQ.out]; rfl, ?_⟩)
  · rw [results_cell_tmp rfl]
    go_simp
  · iterate 5 refine Below.setCell (B := W.heap.size) ?_ (p := ⟨W.heap.size, _, none⟩) (Nat.le_refl _) _
    exact HR6.out.low
set_option maxHeartbeats 4000000 in
set_option maxRecDepth 100000 in
theorem read_b5 (sa : Nat) (xs : List ND) (t : Int) (W : World) (h : ArV W 124 sa xs) (hT : Tb W.heap.size W) (hE : EvS W.heap.size W) (hh : hasB xs t = true) (ho : (nodeF xs t).o = 3) (hl : (nodeF xs t).l.length = 6) (h0 : (nodeF xs ((nodeF xs t).l.getD 0 0)).o = 2) (h2 : (nodeF xs ((nodeF xs t).l.getD 2 0)).o = 2) (hg : (nodeF xs ((nodeF xs t).l.getD 0 0)).s = lbGroup) (u : Int) (ha : Lib.atoiAll (nodeF xs ((nodeF xs t).l.getD 2 0)).s.data.toList = .ok u) (h9 : ¬ (nodeF xs ((nodeF xs t).l.getD 2 0)).s.size ≤ 9) :
    Calls Tryz.prog 35 #[.pointer (some ⟨sa, 0, none⟩), .int .i64 t] W (RdS W (rdO xs t)) := by
  have HT := hid hT; have HEV := hid hE
  have HE0 := hid (heap_alloc_new W (.cells #[.int .i64 0, .int .i64 0, .int .i64 0, .int .i64 0, .int .i64 0] 58))
  have HB0 := hid (show Below W.heap.size W (W.alloc (.cells #[.int .i64 0, .int .i64 0, .int .i64 0, .int .i64 0, .int .i64 0] 58)) from (Below.refl _ _).alloc (Nat.le_refl _) _)
  have HA0 := hid (h.ext HB0.out)
  have HN := hid (node_any sa xs t _ HA0.out)
  have hE4 : nodeE xs t = 0 := by unfold nodeE; rw [hh]; rfl
  have HP := hid (part_has h.ok hh)
  have HTL := hid (fun i => text_len h.ok i)
  obtain ⟨o, ho'⟩ : ∃ o, o = rdO xs t := ⟨_, rfl⟩
  have HO := hid ho'
  rw [← ho']
  clear ho'
  unfold rdO at HO
  rw [if_pos ⟨hh, ho, hl⟩] at HO
  rw [hE4] at HN
  clear h hT hE hE4 hh
  generalize nodeF xs t = x at HN HO HP ho hl h0 h2 hg ha h9
  obtain ⟨xo, n, s, l⟩ := x
  try dsimp only at HN HO HP ho hl
  subst ho
  obtain ⟨x0, x1, x2, x3, x4, x5, rfl⟩ : ∃ x0 x1 x2 x3 x4 x5, l = [x0, x1, x2, x3, x4, x5] := by
    match l, hl with
    | [a, b, c, d, e, f], _ => exact ⟨a, b, c, d, e, f, rfl⟩
  clear hl
  have HN := hid (show Calls Tryz.prog 73 #[.pointer (some ⟨sa, 0, none⟩), .int .i64 t] (W.alloc (.cells #[.int .i64 0, .int .i64 0, .int .i64 0, .int .i64 0, .int .i64 0] 58)) fun e w' => ∃ A c, e = .returned (.tuple #[.agg #[.int .i64 3, .int .i64 n, .string s, .slice A 6 c], .int .i64 0]) ∧ w'.ownsRow (W.alloc (.cells #[.int .i64 0, .int .i64 0, .int .i64 0, .int .i64 0, .int .i64 0] 58)).heap.size 3 1 (.slice A 6 c) 6 ([x0, x1, x2, x3, x4, x5].map (.int .i64)) ∧ Below (W.alloc (.cells #[.int .i64 0, .int .i64 0, .int .i64 0, .int .i64 0, .int .i64 0] 58)).heap.size (W.alloc (.cells #[.int .i64 0, .int .i64 0, .int .i64 0, .int .i64 0, .int .i64 0] 58)) w' from HN.out)
  have HO := hid (show o = if (nodeF xs x0).o = 2 ∧ (nodeF xs x0).s = lbGroup ∧ (nodeF xs x2).o = 2 then (numO (nodeF xs x2).s).map fun k => [x1, k, x3, x4, x5] else none from HO.out)
  have HH0 := hid (HP.out x0 (by simp)); have HH2 := hid (HP.out x2 (by simp))
  have HS2 := hid (HTL.out x2)
  have HT0 := hid (fun U hu => ttext_any sa xs x0 U hu); have HT2 := hid (fun U hu => ttext_any sa xs x2 U hu)
  rw [HH0.out] at HT0; rw [HH2.out] at HT2
  simp only [Bool.true_and] at HT0 HT2
  clear HP HTL HH0 HH2
  replace h0 : (nodeF xs x0).o = 2 := h0
  replace h2 : (nodeF xs x2).o = 2 := h2
  replace hg : (nodeF xs x0).s = lbGroup := hg
  replace ha : Lib.atoiAll (nodeF xs x2).s.data.toList = .ok u := ha
  replace h9 : ¬ (nodeF xs x2).s.size ≤ 9 := h9
  generalize HN0 : nodeF xs x0 = n0 at *
  generalize HN2 : nodeF xs x2 = n2 at *
  have HX0 := hid HN0; have HX2 := hid HN2
  clear HN0 HN2
  obtain ⟨q0, p0, n0s, l0⟩ := n0
  obtain ⟨q2, p2, n2s, l2⟩ := n2
  dsimp only at HO HT0 HT2 HS2 h0 h2 hg ha h9
  have e0 : (q0 == 2) = true := beq_iff_eq.2 h0
  have e2 : (q2 == 2) = true := beq_iff_eq.2 h2
  rw [e0] at HT0
  rw [e2] at HT2
  have hg2 : n0s.toList = [103, 114, 111, 117, 112] := by rw [hg, ByteArray.toList_eq]; rfl
  have HQ0 := hid (show o = (numO n2s).map fun k => [x1, k, x3, x4, x5] by rw [HO.out, if_pos ⟨h0, hg, h2⟩])
  have HQ := hid (show o = none by rw [HQ0.out]; unfold numO; rw [ha]; show Option.map _ (if _ then _ else none) = none; rw [if_neg (fun e => h9 e.1)]; rfl)
  have HA := hid ha
  have hs9 : (9 : Int) < (n2s.size : Int) := by omega
  clear h0 e0 h2 e2 HO hg ha HQ0 h9
  go_enter Tryz.func35, Tryz.ntmps35
  go_wp2_with fail
  refine HN.out.mono ?_
  rintro e w2 ⟨A, c, rfl, hrow, hb⟩
  obtain ⟨b, o', rfl, hr3⟩ := rdc_start hrow hb HE0.out HA0.out n s
  have HR3 := hid hr3
  have c0 := hr3.c0
  clear hrow hb HN HE0 HA0 hr3
  go_wp2_with fail
  refine (HT0.out _ HR3.out.ar).mono ?_
  rintro e w4 ⟨rfl, hb4⟩
  have HR4 := hid (HR3.out.ext hb4)
  clear HR3 hb4 c0 HT0
  generalize w2.heap.size = nb at *
  have s4 := HR4.out.sl; have c2 := HR4.out.c2
  go_wp2_with fail
  refine (HT2.out _ HR4.out.ar).mono ?_
  rintro e w5 ⟨rfl, hb5⟩
  have HR5 := hid (HR4.out.ext hb5)
  clear HR4 hb5 s4 c2 HT2
  go_wp2_with fail
  refine (atoi_at n2s HS2.out w5 (EvS.up (EvS.on HEV.out HR5.out.low (Nat.le_refl _)) HR5.out.low.size)).mono ?_
  rintro e w6 ⟨hat, hb6⟩
  have HR6 := hid (HR5.out.ext hb6)
  clear HR5 hb6
  obtain ⟨v, hv, rfl, hvi⟩ : ∃ v', Lib.atoiAll n2s.data.toList = .ok v' ∧ e = .returned (.tuple #[.int .i64 v', .nilIface]) ∧ I64 v' := hat.elim id fun h => absurd HA.out (h.1 _)
  obtain rfl : u = v := by have := HA.out.symm.trans hv; injection this
  clear hv hat HA
  have r0 : w6.cell? ⟨W.heap.size, 0, none⟩ = some (.int .i64 0) := by rw [cell_of_row w6 (W.heap.size) 0 _ _ (0, 0) HR6.out.box]; rfl
  have f0 : w6.frozen? ⟨W.heap.size, 0, none⟩ = false := frozen_of_row w6 (W.heap.size) 0 _ _ HR6.out.box
  have r1 : w6.cell? ⟨W.heap.size, 1, none⟩ = some (.int .i64 0) := by rw [cell_of_row w6 (W.heap.size) 1 _ _ (0, 0) HR6.out.box]; rfl
  have f1 : w6.frozen? ⟨W.heap.size, 1, none⟩ = false := frozen_of_row w6 (W.heap.size) 1 _ _ HR6.out.box
  have r2 : w6.cell? ⟨W.heap.size, 2, none⟩ = some (.int .i64 0) := by rw [cell_of_row w6 (W.heap.size) 2 _ _ (0, 0) HR6.out.box]; rfl
  have f2 : w6.frozen? ⟨W.heap.size, 2, none⟩ = false := frozen_of_row w6 (W.heap.size) 2 _ _ HR6.out.box
  have r3 : w6.cell? ⟨W.heap.size, 3, none⟩ = some (.int .i64 0) := by rw [cell_of_row w6 (W.heap.size) 3 _ _ (0, 0) HR6.out.box]; rfl
  have f3 : w6.frozen? ⟨W.heap.size, 3, none⟩ = false := frozen_of_row w6 (W.heap.size) 3 _ _ HR6.out.box
  have r4 : w6.cell? ⟨W.heap.size, 4, none⟩ = some (.int .i64 0) := by rw [cell_of_row w6 (W.heap.size) 4 _ _ (0, 0) HR6.out.box]; rfl
  have f4 : w6.frozen? ⟨W.heap.size, 4, none⟩ = false := frozen_of_row w6 (W.heap.size) 4 _ _ HR6.out.box
  go_wp2_with fail
  refine bodyPost_ret (v := .tuple #[.agg #[.int .i64 0, .int .i64 0, .int .i64 0, .int .i64 0, .int .i64 0], .int .i64 1]) ?_ rfl (show RdS _ _ _ _ from ⟨by rw [HQ.out]; rfl, ?_⟩)
  · rw [results_cell_tmp rfl]
    go_simp
  · iterate 5 refine Below.setCell (B := W.heap.size) ?_ (p := ⟨W.heap.size, _, none⟩) (Nat.le_refl _) _
    exact HR6.out.low
set_option maxHeartbeats 4000000 in
set_option maxRecDepth 100000 in
theorem read_b6 (sa : Nat) (xs : List ND) (t : Int) (W : World) (h : ArV W 124 sa xs) (hT : Tb W.heap.size W) (hE : EvS W.heap.size W) (hh : hasB xs t = true) (ho : (nodeF xs t).o = 3) (hl : (nodeF xs t).l.length = 6) (h0 : (nodeF xs ((nodeF xs t).l.getD 0 0)).o = 2) (h2 : (nodeF xs ((nodeF xs t).l.getD 2 0)).o = 2) (hg : (nodeF xs ((nodeF xs t).l.getD 0 0)).s = lbGroup) (u : Int) (ha : Lib.atoiAll (nodeF xs ((nodeF xs t).l.getD 2 0)).s.data.toList = .ok u) (h9 : (nodeF xs ((nodeF xs t).l.getD 2 0)).s.size ≤ 9) (hu : u < 0) :
    Calls Tryz.prog 35 #[.pointer (some ⟨sa, 0, none⟩), .int .i64 t] W (RdS W (rdO xs t)) := by
  have HT := hid hT; have HEV := hid hE
  have HE0 := hid (heap_alloc_new W (.cells #[.int .i64 0, .int .i64 0, .int .i64 0, .int .i64 0, .int .i64 0] 58))
  have HB0 := hid (show Below W.heap.size W (W.alloc (.cells #[.int .i64 0, .int .i64 0, .int .i64 0, .int .i64 0, .int .i64 0] 58)) from (Below.refl _ _).alloc (Nat.le_refl _) _)
  have HA0 := hid (h.ext HB0.out)
  have HN := hid (node_any sa xs t _ HA0.out)
  have hE4 : nodeE xs t = 0 := by unfold nodeE; rw [hh]; rfl
  have HP := hid (part_has h.ok hh)
  have HTL := hid (fun i => text_len h.ok i)
  obtain ⟨o, ho'⟩ : ∃ o, o = rdO xs t := ⟨_, rfl⟩
  have HO := hid ho'
  rw [← ho']
  clear ho'
  unfold rdO at HO
  rw [if_pos ⟨hh, ho, hl⟩] at HO
  rw [hE4] at HN
  clear h hT hE hE4 hh
  generalize nodeF xs t = x at HN HO HP ho hl h0 h2 hg ha h9
  obtain ⟨xo, n, s, l⟩ := x
  try dsimp only at HN HO HP ho hl
  subst ho
  obtain ⟨x0, x1, x2, x3, x4, x5, rfl⟩ : ∃ x0 x1 x2 x3 x4 x5, l = [x0, x1, x2, x3, x4, x5] := by
    match l, hl with
    | [a, b, c, d, e, f], _ => exact ⟨a, b, c, d, e, f, rfl⟩
  clear hl
  have HN := hid (show Calls Tryz.prog 73 #[.pointer (some ⟨sa, 0, none⟩), .int .i64 t] (W.alloc (.cells #[.int .i64 0, .int .i64 0, .int .i64 0, .int .i64 0, .int .i64 0] 58)) fun e w' => ∃ A c, e = .returned (.tuple #[.agg #[.int .i64 3, .int .i64 n, .string s, .slice A 6 c], .int .i64 0]) ∧ w'.ownsRow (W.alloc (.cells #[.int .i64 0, .int .i64 0, .int .i64 0, .int .i64 0, .int .i64 0] 58)).heap.size 3 1 (.slice A 6 c) 6 ([x0, x1, x2, x3, x4, x5].map (.int .i64)) ∧ Below (W.alloc (.cells #[.int .i64 0, .int .i64 0, .int .i64 0, .int .i64 0, .int .i64 0] 58)).heap.size (W.alloc (.cells #[.int .i64 0, .int .i64 0, .int .i64 0, .int .i64 0, .int .i64 0] 58)) w' from HN.out)
  have HO := hid (show o = if (nodeF xs x0).o = 2 ∧ (nodeF xs x0).s = lbGroup ∧ (nodeF xs x2).o = 2 then (numO (nodeF xs x2).s).map fun k => [x1, k, x3, x4, x5] else none from HO.out)
  have HH0 := hid (HP.out x0 (by simp)); have HH2 := hid (HP.out x2 (by simp))
  have HS2 := hid (HTL.out x2)
  have HT0 := hid (fun U hu => ttext_any sa xs x0 U hu); have HT2 := hid (fun U hu => ttext_any sa xs x2 U hu)
  rw [HH0.out] at HT0; rw [HH2.out] at HT2
  simp only [Bool.true_and] at HT0 HT2
  clear HP HTL HH0 HH2
  replace h0 : (nodeF xs x0).o = 2 := h0
  replace h2 : (nodeF xs x2).o = 2 := h2
  replace hg : (nodeF xs x0).s = lbGroup := hg
  replace ha : Lib.atoiAll (nodeF xs x2).s.data.toList = .ok u := ha
  replace h9 : (nodeF xs x2).s.size ≤ 9 := h9
  generalize HN0 : nodeF xs x0 = n0 at *
  generalize HN2 : nodeF xs x2 = n2 at *
  have HX0 := hid HN0; have HX2 := hid HN2
  clear HN0 HN2
  obtain ⟨q0, p0, n0s, l0⟩ := n0
  obtain ⟨q2, p2, n2s, l2⟩ := n2
  dsimp only at HO HT0 HT2 HS2 h0 h2 hg ha h9
  have e0 : (q0 == 2) = true := beq_iff_eq.2 h0
  have e2 : (q2 == 2) = true := beq_iff_eq.2 h2
  rw [e0] at HT0
  rw [e2] at HT2
  have hg2 : n0s.toList = [103, 114, 111, 117, 112] := by rw [hg, ByteArray.toList_eq]; rfl
  have HQ0 := hid (show o = (numO n2s).map fun k => [x1, k, x3, x4, x5] by rw [HO.out, if_pos ⟨h0, hg, h2⟩])
  have HQ := hid (show o = none by rw [HQ0.out]; unfold numO; rw [ha]; show Option.map _ (if _ then _ else none) = none; rw [if_neg (fun e => absurd e.2.1 (by omega))]; rfl)
  have HA := hid ha
  have hs9 : ¬ (9 : Int) < (n2s.size : Int) := by omega
  clear h0 e0 h2 e2 HO hg ha HQ0 h9
  go_enter Tryz.func35, Tryz.ntmps35
  go_wp2_with fail
  refine HN.out.mono ?_
  rintro e w2 ⟨A, c, rfl, hrow, hb⟩
  obtain ⟨b, o', rfl, hr3⟩ := rdc_start hrow hb HE0.out HA0.out n s
  have HR3 := hid hr3
  have c0 := hr3.c0
  clear hrow hb HN HE0 HA0 hr3
  go_wp2_with fail
  refine (HT0.out _ HR3.out.ar).mono ?_
  rintro e w4 ⟨rfl, hb4⟩
  have HR4 := hid (HR3.out.ext hb4)
  clear HR3 hb4 c0 HT0
  generalize w2.heap.size = nb at *
  have s4 := HR4.out.sl; have c2 := HR4.out.c2
  go_wp2_with fail
  refine (HT2.out _ HR4.out.ar).mono ?_
  rintro e w5 ⟨rfl, hb5⟩
  have HR5 := hid (HR4.out.ext hb5)
  clear HR4 hb5 s4 c2 HT2
  go_wp2_with fail
  refine (atoi_at n2s HS2.out w5 (EvS.up (EvS.on HEV.out HR5.out.low (Nat.le_refl _)) HR5.out.low.size)).mono ?_
  rintro e w6 ⟨hat, hb6⟩
  have HR6 := hid (HR5.out.ext hb6)
  clear HR5 hb6
  obtain ⟨v, hv, rfl, hvi⟩ : ∃ v', Lib.atoiAll n2s.data.toList = .ok v' ∧ e = .returned (.tuple #[.int .i64 v', .nilIface]) ∧ I64 v' := hat.elim id fun h => absurd HA.out (h.1 _)
  obtain rfl : u = v := by have := HA.out.symm.trans hv; injection this
  clear hv hat HA
  have r0 : w6.cell? ⟨W.heap.size, 0, none⟩ = some (.int .i64 0) := by rw [cell_of_row w6 (W.heap.size) 0 _ _ (0, 0) HR6.out.box]; rfl
  have f0 : w6.frozen? ⟨W.heap.size, 0, none⟩ = false := frozen_of_row w6 (W.heap.size) 0 _ _ HR6.out.box
  have r1 : w6.cell? ⟨W.heap.size, 1, none⟩ = some (.int .i64 0) := by rw [cell_of_row w6 (W.heap.size) 1 _ _ (0, 0) HR6.out.box]; rfl
  have f1 : w6.frozen? ⟨W.heap.size, 1, none⟩ = false := frozen_of_row w6 (W.heap.size) 1 _ _ HR6.out.box
  have r2 : w6.cell? ⟨W.heap.size, 2, none⟩ = some (.int .i64 0) := by rw [cell_of_row w6 (W.heap.size) 2 _ _ (0, 0) HR6.out.box]; rfl
  have f2 : w6.frozen? ⟨W.heap.size, 2, none⟩ = false := frozen_of_row w6 (W.heap.size) 2 _ _ HR6.out.box
  have r3 : w6.cell? ⟨W.heap.size, 3, none⟩ = some (.int .i64 0) := by rw [cell_of_row w6 (W.heap.size) 3 _ _ (0, 0) HR6.out.box]; rfl
  have f3 : w6.frozen? ⟨W.heap.size, 3, none⟩ = false := frozen_of_row w6 (W.heap.size) 3 _ _ HR6.out.box
  have r4 : w6.cell? ⟨W.heap.size, 4, none⟩ = some (.int .i64 0) := by rw [cell_of_row w6 (W.heap.size) 4 _ _ (0, 0) HR6.out.box]; rfl
  have f4 : w6.frozen? ⟨W.heap.size, 4, none⟩ = false := frozen_of_row w6 (W.heap.size) 4 _ _ HR6.out.box
  go_wp2_with fail
  refine bodyPost_ret (v := .tuple #[.agg #[.int .i64 0, .int .i64 0, .int .i64 0, .int .i64 0, .int .i64 0], .int .i64 1]) ?_ rfl (show RdS _ _ _ _ from ⟨by rw [HQ.out]; rfl, ?_⟩)
  · rw [results_cell_tmp rfl]
    go_simp
  · iterate 5 refine Below.setCell (B := W.heap.size) ?_ (p := ⟨W.heap.size, _, none⟩) (Nat.le_refl _) _
    exact HR6.out.low
set_option maxHeartbeats 4000000 in
set_option maxRecDepth 100000 in
theorem read_b7 (sa : Nat) (xs : List ND) (t : Int) (W : World) (h : ArV W 124 sa xs) (hT : Tb W.heap.size W) (hE : EvS W.heap.size W) (hh : hasB xs t = true) (ho : (nodeF xs t).o = 3) (hl : (nodeF xs t).l.length = 6) (h0 : (nodeF xs ((nodeF xs t).l.getD 0 0)).o = 2) (h2 : (nodeF xs ((nodeF xs t).l.getD 2 0)).o = 2) (hg : (nodeF xs ((nodeF xs t).l.getD 0 0)).s = lbGroup) (u : Int) (ha : Lib.atoiAll (nodeF xs ((nodeF xs t).l.getD 2 0)).s.data.toList = .ok u) (h9 : (nodeF xs ((nodeF xs t).l.getD 2 0)).s.size ≤ 9) (hu : ¬ u < 0) (hd : digB u ≠ (nodeF xs ((nodeF xs t).l.getD 2 0)).s) :
    Calls Tryz.prog 35 #[.pointer (some ⟨sa, 0, none⟩), .int .i64 t] W (RdS W (rdO xs t)) := by
  have HT := hid hT; have HEV := hid hE
  have HE0 := hid (heap_alloc_new W (.cells #[.int .i64 0, .int .i64 0, .int .i64 0, .int .i64 0, .int .i64 0] 58))
  have HB0 := hid (show Below W.heap.size W (W.alloc (.cells #[.int .i64 0, .int .i64 0, .int .i64 0, .int .i64 0, .int .i64 0] 58)) from (Below.refl _ _).alloc (Nat.le_refl _) _)
  have HA0 := hid (h.ext HB0.out)
  have HN := hid (node_any sa xs t _ HA0.out)
  have hE4 : nodeE xs t = 0 := by unfold nodeE; rw [hh]; rfl
  have HP := hid (part_has h.ok hh)
  have HTL := hid (fun i => text_len h.ok i)
  obtain ⟨o, ho'⟩ : ∃ o, o = rdO xs t := ⟨_, rfl⟩
  have HO := hid ho'
  rw [← ho']
  clear ho'
  unfold rdO at HO
  rw [if_pos ⟨hh, ho, hl⟩] at HO
  rw [hE4] at HN
  clear h hT hE hE4 hh
  generalize nodeF xs t = x at HN HO HP ho hl h0 h2 hg ha h9 hd
  obtain ⟨xo, n, s, l⟩ := x
  try dsimp only at HN HO HP ho hl
  subst ho
  obtain ⟨x0, x1, x2, x3, x4, x5, rfl⟩ : ∃ x0 x1 x2 x3 x4 x5, l = [x0, x1, x2, x3, x4, x5] := by
    match l, hl with
    | [a, b, c, d, e, f], _ => exact ⟨a, b, c, d, e, f, rfl⟩
  clear hl
  have HN := hid (show Calls Tryz.prog 73 #[.pointer (some ⟨sa, 0, none⟩), .int .i64 t] (W.alloc (.cells #[.int .i64 0, .int .i64 0, .int .i64 0, .int .i64 0, .int .i64 0] 58)) fun e w' => ∃ A c, e = .returned (.tuple #[.agg #[.int .i64 3, .int .i64 n, .string s, .slice A 6 c], .int .i64 0]) ∧ w'.ownsRow (W.alloc (.cells #[.int .i64 0, .int .i64 0, .int .i64 0, .int .i64 0, .int .i64 0] 58)).heap.size 3 1 (.slice A 6 c) 6 ([x0, x1, x2, x3, x4, x5].map (.int .i64)) ∧ Below (W.alloc (.cells #[.int .i64 0, .int .i64 0, .int .i64 0, .int .i64 0, .int .i64 0] 58)).heap.size (W.alloc (.cells #[.int .i64 0, .int .i64 0, .int .i64 0, .int .i64 0, .int .i64 0] 58)) w' from HN.out)
  have HO := hid (show o = if (nodeF xs x0).o = 2 ∧ (nodeF xs x0).s = lbGroup ∧ (nodeF xs x2).o = 2 then (numO (nodeF xs x2).s).map fun k => [x1, k, x3, x4, x5] else none from HO.out)
  have HH0 := hid (HP.out x0 (by simp)); have HH2 := hid (HP.out x2 (by simp))
  have HS2 := hid (HTL.out x2)
  have HT0 := hid (fun U hu => ttext_any sa xs x0 U hu); have HT2 := hid (fun U hu => ttext_any sa xs x2 U hu)
  rw [HH0.out] at HT0; rw [HH2.out] at HT2
  simp only [Bool.true_and] at HT0 HT2
  clear HP HTL HH0 HH2
  replace h0 : (nodeF xs x0).o = 2 := h0
  replace h2 : (nodeF xs x2).o = 2 := h2
  replace hg : (nodeF xs x0).s = lbGroup := hg
  replace ha : Lib.atoiAll (nodeF xs x2).s.data.toList = .ok u := ha
  replace h9 : (nodeF xs x2).s.size ≤ 9 := h9
  replace hd : digB u ≠ (nodeF xs x2).s := hd
  generalize HN0 : nodeF xs x0 = n0 at *
  generalize HN2 : nodeF xs x2 = n2 at *
  have HX0 := hid HN0; have HX2 := hid HN2
  clear HN0 HN2
  obtain ⟨q0, p0, n0s, l0⟩ := n0
  obtain ⟨q2, p2, n2s, l2⟩ := n2
  dsimp only at HO HT0 HT2 HS2 h0 h2 hg ha h9 hd
  have e0 : (q0 == 2) = true := beq_iff_eq.2 h0
  have e2 : (q2 == 2) = true := beq_iff_eq.2 h2
  rw [e0] at HT0
  rw [e2] at HT2
  have hg2 : n0s.toList = [103, 114, 111, 117, 112] := by rw [hg, ByteArray.toList_eq]; rfl
  have HQ0 := hid (show o = (numO n2s).map fun k => [x1, k, x3, x4, x5] by rw [HO.out, if_pos ⟨h0, hg, h2⟩])
  have HQ := hid (show o = none by rw [HQ0.out]; unfold numO; rw [ha]; show Option.map _ (if _ then _ else none) = none; rw [if_neg (fun e => hd e.2.2)]; rfl)
  have HA := hid ha
  have hs9 : ¬ (9 : Int) < (n2s.size : Int) := by omega
  have HDD := hid hd
  clear h0 e0 h2 e2 HO hg ha HQ0 h9 hd
  go_enter Tryz.func35, Tryz.ntmps35
  go_wp2_with fail
  refine HN.out.mono ?_
  rintro e w2 ⟨A, c, rfl, hrow, hb⟩
  obtain ⟨b, o', rfl, hr3⟩ := rdc_start hrow hb HE0.out HA0.out n s
  have HR3 := hid hr3
  have c0 := hr3.c0
  clear hrow hb HN HE0 HA0 hr3
  go_wp2_with fail
  refine (HT0.out _ HR3.out.ar).mono ?_
  rintro e w4 ⟨rfl, hb4⟩
  have HR4 := hid (HR3.out.ext hb4)
  clear HR3 hb4 c0 HT0
  generalize w2.heap.size = nb at *
  have s4 := HR4.out.sl; have c2 := HR4.out.c2
  go_wp2_with fail
  refine (HT2.out _ HR4.out.ar).mono ?_
  rintro e w5 ⟨rfl, hb5⟩
  have HR5 := hid (HR4.out.ext hb5)
  clear HR4 hb5 s4 c2 HT2
  go_wp2_with fail
  refine (atoi_at n2s HS2.out w5 (EvS.up (EvS.on HEV.out HR5.out.low (Nat.le_refl _)) HR5.out.low.size)).mono ?_
  rintro e w6 ⟨hat, hb6⟩
  have HR6 := hid (HR5.out.ext hb6)
  clear HR5 hb6
  obtain ⟨v, hv, rfl, hvi⟩ : ∃ v', Lib.atoiAll n2s.data.toList = .ok v' ∧ e = .returned (.tuple #[.int .i64 v', .nilIface]) ∧ I64 v' := hat.elim id fun h => absurd HA.out (h.1 _)
  obtain rfl : u = v := by have := HA.out.symm.trans hv; injection this
  clear hv hat HA
  have HB6 := hid (show Below W.heap.size W w6 from HR6.out.low)
  have HIT := hid (itoa_any u hvi w6 (Tb.up (HT.out.on HB6.out) HB6.out.size))
  clear hvi
  go_wp2_with fail
  refine HIT.out.mono ?_
  rintro e w7 ⟨D, rfl, hD, hb7⟩
  have HR7 := hid (HR6.out.ext hb7)
  have HD := hid (show D = digB u from hD)
  clear HIT hb7 HR6 hD
  have hne : (D.toList == n2s.toList) = false := by rw [HD.out]; exact ba_ne HDD.out
  have hne2 : ¬ D.toList = n2s.toList := fun e => by rw [e] at hne; simp at hne
  have r0 : w7.cell? ⟨W.heap.size, 0, none⟩ = some (.int .i64 0) := by rw [cell_of_row w7 (W.heap.size) 0 _ _ (0, 0) HR7.out.box]; rfl
  have f0 : w7.frozen? ⟨W.heap.size, 0, none⟩ = false := frozen_of_row w7 (W.heap.size) 0 _ _ HR7.out.box
  have r1 : w7.cell? ⟨W.heap.size, 1, none⟩ = some (.int .i64 0) := by rw [cell_of_row w7 (W.heap.size) 1 _ _ (0, 0) HR7.out.box]; rfl
  have f1 : w7.frozen? ⟨W.heap.size, 1, none⟩ = false := frozen_of_row w7 (W.heap.size) 1 _ _ HR7.out.box
  have r2 : w7.cell? ⟨W.heap.size, 2, none⟩ = some (.int .i64 0) := by rw [cell_of_row w7 (W.heap.size) 2 _ _ (0, 0) HR7.out.box]; rfl
  have f2 : w7.frozen? ⟨W.heap.size, 2, none⟩ = false := frozen_of_row w7 (W.heap.size) 2 _ _ HR7.out.box
  have r3 : w7.cell? ⟨W.heap.size, 3, none⟩ = some (.int .i64 0) := by rw [cell_of_row w7 (W.heap.size) 3 _ _ (0, 0) HR7.out.box]; rfl
  have f3 : w7.frozen? ⟨W.heap.size, 3, none⟩ = false := frozen_of_row w7 (W.heap.size) 3 _ _ HR7.out.box
  have r4 : w7.cell? ⟨W.heap.size, 4, none⟩ = some (.int .i64 0) := by rw [cell_of_row w7 (W.heap.size) 4 _ _ (0, 0) HR7.out.box]; rfl
  have f4 : w7.frozen? ⟨W.heap.size, 4, none⟩ = false := frozen_of_row w7 (W.heap.size) 4 _ _ HR7.out.box
  go_wp2_with fail
  refine bodyPost_ret (v := .tuple #[.agg #[.int .i64 0, .int .i64 0, .int .i64 0, .int .i64 0, .int .i64 0], .int .i64 1]) ?_ rfl (show RdS _ _ _ _ from ⟨by rw [HQ.out]; rfl, ?_⟩)
  · rw [results_cell_tmp rfl]
    go_simp
  · iterate 5 refine Below.setCell (B := W.heap.size) ?_ (p := ⟨W.heap.size, _, none⟩) (Nat.le_refl _) _
    exact HR7.out.low
set_option maxHeartbeats 4000000 in
set_option maxRecDepth 100000 in
theorem read_ok (sa : Nat) (xs : List ND) (t : Int) (W : World) (h : ArV W 124 sa xs) (hT : Tb W.heap.size W) (hE : EvS W.heap.size W) (hh : hasB xs t = true) (ho : (nodeF xs t).o = 3) (hl : (nodeF xs t).l.length = 6) (h0 : (nodeF xs ((nodeF xs t).l.getD 0 0)).o = 2) (h2 : (nodeF xs ((nodeF xs t).l.getD 2 0)).o = 2) (hg : (nodeF xs ((nodeF xs t).l.getD 0 0)).s = lbGroup) (u : Int) (ha : Lib.atoiAll (nodeF xs ((nodeF xs t).l.getD 2 0)).s.data.toList = .ok u) (h9 : (nodeF xs ((nodeF xs t).l.getD 2 0)).s.size ≤ 9) (hu : ¬ u < 0) (hd : digB u = (nodeF xs ((nodeF xs t).l.getD 2 0)).s) :
    Calls Tryz.prog 35 #[.pointer (some ⟨sa, 0, none⟩), .int .i64 t] W (RdS W (rdO xs t)) := by
  have HT := hid hT; have HEV := hid hE
  have HE0 := hid (heap_alloc_new W (.cells #[.int .i64 0, .int .i64 0, .int .i64 0, .int .i64 0, .int .i64 0] 58))
  have HB0 := hid (show Below W.heap.size W (W.alloc (.cells #[.int .i64 0, .int .i64 0, .int .i64 0, .int .i64 0, .int .i64 0] 58)) from (Below.refl _ _).alloc (Nat.le_refl _) _)
  have HA0 := hid (h.ext HB0.out)
  have HN := hid (node_any sa xs t _ HA0.out)
  have hE4 : nodeE xs t = 0 := by unfold nodeE; rw [hh]; rfl
  have HP := hid (part_has h.ok hh)
  have HTL := hid (fun i => text_len h.ok i)
  obtain ⟨o, ho'⟩ : ∃ o, o = rdO xs t := ⟨_, rfl⟩
  have HO := hid ho'
  rw [← ho']
  clear ho'
  unfold rdO at HO
  rw [if_pos ⟨hh, ho, hl⟩] at HO
  rw [hE4] at HN
  clear h hT hE hE4 hh
  generalize nodeF xs t = x at HN HO HP ho hl h0 h2 hg ha h9 hd
  obtain ⟨xo, n, s, l⟩ := x
  try dsimp only at HN HO HP ho hl
  subst ho
  obtain ⟨x0, x1, x2, x3, x4, x5, rfl⟩ : ∃ x0 x1 x2 x3 x4 x5, l = [x0, x1, x2, x3, x4, x5] := by
    match l, hl with
    | [a, b, c, d, e, f], _ => exact ⟨a, b, c, d, e, f, rfl⟩
  clear hl
  have HN := hid (show Calls Tryz.prog 73 #[.pointer (some ⟨sa, 0, none⟩), .int .i64 t] (W.alloc (.cells #[.int .i64 0, .int .i64 0, .int .i64 0, .int .i64 0, .int .i64 0] 58)) fun e w' => ∃ A c, e = .returned (.tuple #[.agg #[.int .i64 3, .int .i64 n, .string s, .slice A 6 c], .int .i64 0]) ∧ w'.ownsRow (W.alloc (.cells #[.int .i64 0, .int .i64 0, .int .i64 0, .int .i64 0, .int .i64 0] 58)).heap.size 3 1 (.slice A 6 c) 6 ([x0, x1, x2, x3, x4, x5].map (.int .i64)) ∧ Below (W.alloc (.cells #[.int .i64 0, .int .i64 0, .int .i64 0, .int .i64 0, .int .i64 0] 58)).heap.size (W.alloc (.cells #[.int .i64 0, .int .i64 0, .int .i64 0, .int .i64 0, .int .i64 0] 58)) w' from HN.out)
  have HO := hid (show o = if (nodeF xs x0).o = 2 ∧ (nodeF xs x0).s = lbGroup ∧ (nodeF xs x2).o = 2 then (numO (nodeF xs x2).s).map fun k => [x1, k, x3, x4, x5] else none from HO.out)
  have HH0 := hid (HP.out x0 (by simp)); have HH2 := hid (HP.out x2 (by simp))
  have HS2 := hid (HTL.out x2)
  have HT0 := hid (fun U hu => ttext_any sa xs x0 U hu); have HT2 := hid (fun U hu => ttext_any sa xs x2 U hu)
  rw [HH0.out] at HT0; rw [HH2.out] at HT2
  simp only [Bool.true_and] at HT0 HT2
  clear HP HTL HH0 HH2
  replace h0 : (nodeF xs x0).o = 2 := h0
  replace h2 : (nodeF xs x2).o = 2 := h2
  replace hg : (nodeF xs x0).s = lbGroup := hg
  replace ha : Lib.atoiAll (nodeF xs x2).s.data.toList = .ok u := ha
  replace h9 : (nodeF xs x2).s.size ≤ 9 := h9
  replace hd : digB u = (nodeF xs x2).s := hd
  generalize HN0 : nodeF xs x0 = n0 at *
  generalize HN2 : nodeF xs x2 = n2 at *
  have HX0 := hid HN0; have HX2 := hid HN2
  clear HN0 HN2
  obtain ⟨q0, p0, n0s, l0⟩ := n0
  obtain ⟨q2, p2, n2s, l2⟩ := n2
  dsimp only at HO HT0 HT2 HS2 h0 h2 hg ha h9 hd
  have e0 : (q0 == 2) = true := beq_iff_eq.2 h0
  have e2 : (q2 == 2) = true := beq_iff_eq.2 h2
  rw [e0] at HT0
  rw [e2] at HT2
  have hg2 : n0s.toList = [103, 114, 111, 117, 112] := by rw [hg, ByteArray.toList_eq]; rfl
  have HQ0 := hid (show o = (numO n2s).map fun k => [x1, k, x3, x4, x5] by rw [HO.out, if_pos ⟨h0, hg, h2⟩])
  have HQ := hid (show o = some [x1, u, x3, x4, x5] by rw [HQ0.out]; unfold numO; rw [ha]; show Option.map _ (if _ then _ else none) = _; rw [if_pos ⟨h9, by omega, hd⟩]; rfl)
  have HA := hid ha
  have hs9 : ¬ (9 : Int) < (n2s.size : Int) := by omega
  have HDD := hid hd
  clear h0 e0 h2 e2 HO hg ha HQ0 h9 hd
  go_enter Tryz.func35, Tryz.ntmps35
  go_wp2_with fail
  refine HN.out.mono ?_
  rintro e w2 ⟨A, c, rfl, hrow, hb⟩
  obtain ⟨b, o', rfl, hr3⟩ := rdc_start hrow hb HE0.out HA0.out n s
  have HR3 := hid hr3
  have c0 := hr3.c0
  clear hrow hb HN HE0 HA0 hr3
  go_wp2_with fail
  refine (HT0.out _ HR3.out.ar).mono ?_
  rintro e w4 ⟨rfl, hb4⟩
  have HR4 := hid (HR3.out.ext hb4)
  clear HR3 hb4 c0 HT0
  generalize w2.heap.size = nb at *
  have s4 := HR4.out.sl; have c2 := HR4.out.c2
  go_wp2_with fail
  refine (HT2.out _ HR4.out.ar).mono ?_
  rintro e w5 ⟨rfl, hb5⟩
  have HR5 := hid (HR4.out.ext hb5)
  clear HR4 hb5 s4 c2 HT2
  go_wp2_with fail
  refine (atoi_at n2s HS2.out w5 (EvS.up (EvS.on HEV.out HR5.out.low (Nat.le_refl _)) HR5.out.low.size)).mono ?_
  rintro e w6 ⟨hat, hb6⟩
  have HR6 := hid (HR5.out.ext hb6)
  clear HR5 hb6
  obtain ⟨v, hv, rfl, hvi⟩ : ∃ v', Lib.atoiAll n2s.data.toList = .ok v' ∧ e = .returned (.tuple #[.int .i64 v', .nilIface]) ∧ I64 v' := hat.elim id fun h => absurd HA.out (h.1 _)
  obtain rfl : u = v := by have := HA.out.symm.trans hv; injection this
  clear hv hat HA
  have HB6 := hid (show Below W.heap.size W w6 from HR6.out.low)
  have HIT := hid (itoa_any u hvi w6 (Tb.up (HT.out.on HB6.out) HB6.out.size))
  clear hvi
  go_wp2_with fail
  refine HIT.out.mono ?_
  rintro e w7 ⟨D, rfl, hD, hb7⟩
  have HR7 := hid (HR6.out.ext hb7)
  have HD := hid (show D = digB u from hD)
  clear HIT hb7 HR6 hD
  obtain rfl : D = n2s := HD.out.trans HDD.out
  have r0 : w7.cell? ⟨W.heap.size, 0, none⟩ = some (.int .i64 0) := by rw [cell_of_row w7 (W.heap.size) 0 _ _ (0, 0) HR7.out.box]; rfl
  have f0 : w7.frozen? ⟨W.heap.size, 0, none⟩ = false := frozen_of_row w7 (W.heap.size) 0 _ _ HR7.out.box
  have r1 : w7.cell? ⟨W.heap.size, 1, none⟩ = some (.int .i64 0) := by rw [cell_of_row w7 (W.heap.size) 1 _ _ (0, 0) HR7.out.box]; rfl
  have f1 : w7.frozen? ⟨W.heap.size, 1, none⟩ = false := frozen_of_row w7 (W.heap.size) 1 _ _ HR7.out.box
  have r2 : w7.cell? ⟨W.heap.size, 2, none⟩ = some (.int .i64 0) := by rw [cell_of_row w7 (W.heap.size) 2 _ _ (0, 0) HR7.out.box]; rfl
  have f2 : w7.frozen? ⟨W.heap.size, 2, none⟩ = false := frozen_of_row w7 (W.heap.size) 2 _ _ HR7.out.box
  have r3 : w7.cell? ⟨W.heap.size, 3, none⟩ = some (.int .i64 0) := by rw [cell_of_row w7 (W.heap.size) 3 _ _ (0, 0) HR7.out.box]; rfl
  have f3 : w7.frozen? ⟨W.heap.size, 3, none⟩ = false := frozen_of_row w7 (W.heap.size) 3 _ _ HR7.out.box
  have r4 : w7.cell? ⟨W.heap.size, 4, none⟩ = some (.int .i64 0) := by rw [cell_of_row w7 (W.heap.size) 4 _ _ (0, 0) HR7.out.box]; rfl
  have f4 : w7.frozen? ⟨W.heap.size, 4, none⟩ = false := frozen_of_row w7 (W.heap.size) 4 _ _ HR7.out.box
  have s7 := HR7.out.sl; have c1 := HR7.out.c1; have c3 := HR7.out.c3; have c4 := HR7.out.c4; have c5 := HR7.out.c5
  go_wp2_with fail
  go_region
  go_wp2_with fail
  refine bodyPost_ret (v := .tuple #[.agg #[.int .i64 x1, .int .i64 u, .int .i64 x3, .int .i64 x4, .int .i64 x5], .int .i64 0]) ?_ rfl (show RdS _ _ _ _ from ⟨by rw [HQ.out]; rfl, ?_⟩)
  · rw [results_cell_tmp rfl]
    go_simp
  · refine Below.drew ?_
    iterate 5 refine Below.setCell (B := W.heap.size) ?_ (p := ⟨W.heap.size, _, none⟩) (Nat.le_refl _) _
    exact HR7.out.low
/-- Read, of any term. -/
theorem read_any (sa : Nat) (xs : List ND) (t : Int) (W : World) (h : ArV W 124 sa xs) (hT : Tb W.heap.size W) (hE : EvS W.heap.size W) :
    Calls Tryz.prog 35 #[.pointer (some ⟨sa, 0, none⟩), .int .i64 t] W (RdS W (rdO xs t)) := by
  rcases hh : hasB xs t with _ | _
  · exact read_none sa xs t W h hh
  by_cases ho : (nodeF xs t).o = 3
  rotate_left
  · exact read_op sa xs t W h hh ho
  by_cases hl : (nodeF xs t).l.length = 6
  rotate_left
  · exact read_six sa xs t W h hh ho hl
  by_cases h0 : (nodeF xs ((nodeF xs t).l.getD 0 0)).o = 2
  rotate_left
  · exact read_b1 sa xs t W h hT hE hh ho hl h0
  by_cases h2 : (nodeF xs ((nodeF xs t).l.getD 2 0)).o = 2
  rotate_left
  · exact read_b2 sa xs t W h hT hE hh ho hl h0 h2
  by_cases hg : (nodeF xs ((nodeF xs t).l.getD 0 0)).s = lbGroup
  rotate_left
  · exact read_b3 sa xs t W h hT hE hh ho hl h0 h2 hg
  by_cases ha : ∃ u, Lib.atoiAll (nodeF xs ((nodeF xs t).l.getD 2 0)).s.data.toList = .ok u
  rotate_left
  · exact read_b4 sa xs t W h hT hE hh ho hl h0 h2 hg (fun u hu => ha ⟨u, hu⟩)
  obtain ⟨u, ha⟩ := ha
  by_cases h9 : (nodeF xs ((nodeF xs t).l.getD 2 0)).s.size ≤ 9
  rotate_left
  · exact read_b5 sa xs t W h hT hE hh ho hl h0 h2 hg u ha h9
  by_cases hu : u < 0
  · exact read_b6 sa xs t W h hT hE hh ho hl h0 h2 hg u ha h9 hu
  by_cases hd : digB u = (nodeF xs ((nodeF xs t).l.getD 2 0)).s
  · exact read_ok sa xs t W h hT hE hh ho hl h0 h2 hg u ha h9 hu hd
  · exact read_b7 sa xs t W h hT hE hh ho hl h0 h2 hg u ha h9 hu hd
end Go.Proofs.YtkgobglmkhkbbaaGreatDoor

