import Derived.Laws.StructEq
import Derived.WalkKit
import Derived.Test.YtkgobglmkhkbbaaGreatDoorZ11
import Derived.Test.YtkgobglmkhkbbaaGreatDoorZ12
import Derived.Test.YtkgobglmkhkbbaaGreatDoorZ13
import Derived.Test.YtkgobglmkhkbbaaGreatDoorZ07
import Derived.Stop.LaidErr
import Derived.LaidLaws
import Derived.LaidMore
import Derived.Test.YtkgobglmkhkbbaaGreatDoorZ10
/- arrays of numbers compared. Of no program. -/
namespace Go.KK
open Go.RowKit
set_option linter.unusedVariables false
set_option linter.unusedSimpArgs false
section
variable {P : Program} {e t : TypeId} {k : IntKind}
theorem run_isAgg_int (w : World) (h : P.underlying e = some (.int k)) : (isAgg e).run P w = .ok false w := by
  simp [isAgg, run_underlying h]
theorem run_part_int (w : World) (he : P.underlying e = some (.int .i64)) (l : List Int) (i : Nat) (y : Int) (h : l[i]? = some y) : (part e (l.map (Value.int .i64)).toArray i).run P w = .ok (.int .i64 y) w := by
  unfold part
  simp [go_sem, run_isAgg_int w he, h]
/-- The elements from i on, n of them, are the same. -/
def eqFrom (l m : List Int) : Nat → Nat → Bool
  | _, 0 => true
  | i, n + 1 => (l.getD i 0 == m.getD i 0) && eqFrom l m (i + 1) n
theorem eqFrom_iff (l m : List Int) : ∀ (n i : Nat), i + n = l.length → l.length = m.length → (eqFrom l m i n = true ↔ l.drop i = m.drop i)
  | 0, i, h, hl => by
    rw [List.drop_of_length_le (by omega), List.drop_of_length_le (by omega)]
    simp [eqFrom]
  | n + 1, i, h, hl => by
    have h1 : l[i]? = some (l[i]'(by omega)) := List.getElem?_eq_getElem _
    have h2 : m[i]? = some (m[i]'(by omega)) := List.getElem?_eq_getElem _
    rw [eqFrom, Bool.and_eq_true, eqFrom_iff l m n (i + 1) (by omega) hl, List.getD, List.getD, h1, h2, List.drop_eq_getElem_cons (by omega : i < l.length), List.drop_eq_getElem_cons (by omega : i < m.length)]
    simp only [Option.getD_some, beq_iff_eq, List.cons.injEq]
theorem run_equalIn_arr (w : World) (d n : Nat) (ht : P.underlying t = some (.array n e)) (he : P.underlying e = some (.int .i64)) (hz : ∀ w, (sizeOf e).run P w = .ok 1 w) (l m : List Int) (hl : l.length = n) (hm : m.length = n) :
    (Op.equalIn (d + 2) t (.agg (l.map (Value.int .i64)).toArray) (.agg (m.map (Value.int .i64)).toArray)).run P w = .ok (l == m) w := by
  rw [Op.equalIn]
  simp only [Sem.run_bind, run_underlying ht, Result.andThen_ok, hz, Nat.mul_one, Std.Legacy.Range.forIn_eq_forIn_range', Std.Legacy.Range.size]
  have key : ∀ (k i : Nat) , i + k = n → ((forIn (List.range' i k 1) (none, PUnit.unit) fun i _ => (do
      let a ← part e (l.map (Value.int .i64)).toArray i
      let b ← part e (m.map (Value.int .i64)).toArray i
      let r ← Op.equalIn (d + 1) e a b
      if (!r) = true then pure (ForInStep.done (some false, PUnit.unit)) else pure (ForInStep.yield (none, PUnit.unit)) : Sem (ForInStep (Option Bool × PUnit)))) : Sem (Option Bool × PUnit)).run P w = .ok (if eqFrom l m i k then none else some false, PUnit.unit) w := by
    intro k
    induction k with
    | zero => intro i _; simp [eqFrom]
    | succ k ih =>
      intro i hi
      have h1 : l[i]? = some (l.getD i 0) := by rw [List.getD, List.getElem?_eq_getElem (by omega)]; rfl
      have h2 : m[i]? = some (m.getD i 0) := by rw [List.getD, List.getElem?_eq_getElem (by omega)]; rfl
      rw [List.range'_succ, List.forIn_cons]
      simp only [Sem.run_bind, run_part_int w he l i _ h1, run_part_int w he m i _ h2, Result.andThen_ok, run_equalIn_int w d e .i64 .i64 _ _ he]
      rcases hb : (l.getD i 0 == m.getD i 0) with _ | _
      · simp only [Bool.not_false, if_true, Sem.run_pure, Result.andThen_ok, eqFrom, hb, Bool.false_and, Bool.false_eq_true, if_false]
      · have := ih (i + 1) (by omega)
        simp only [Bool.not_true, Bool.false_eq_true, if_false, Sem.run_pure, Result.andThen_ok, eqFrom, hb, Bool.true_and]
        exact this
  rw [show (n - 0 + 1 - 1) / 1 = n by omega]
  have := key n 0 (by omega)
  refine (congrArg (fun r : Result (Option Bool × PUnit) => r.andThen _) this).trans ?_
  have hE := eqFrom_iff l m n 0 (by omega) (by omega)
  rw [List.drop_zero, List.drop_zero] at hE
  rcases hq : eqFrom l m 0 n with _ | _
  · rw [hq] at hE
    have : (l == m) = false := by rw [beq_eq_false_iff_ne]; intro e; have := hE.2 e; cases this
    simp [this]
  · have : (l == m) = true := by rw [beq_iff_eq]; exact hE.1 hq
    simp [this]
theorem run_eql_arr (w : World) (n : Nat) (ht : P.underlying t = some (.array n e)) (he : P.underlying e = some (.int .i64)) (hz : ∀ w, (sizeOf e).run P w = .ok 1 w) (l m : List Int) (hl : l.length = n) (hm : m.length = n) :
    (binOp .eql t (.agg (l.map (Value.int .i64)).toArray) (.agg (m.map (Value.int .i64)).toArray)).run P w = .ok (.bool (l == m)) w := by
  rw [run_eql_struct, run_equalIn_arr w 9998 n ht he hz l m hl hm]
  rfl
end
end Go.KK

/- transcript's law: live. -/
namespace Go.Proofs.YtkgobglmkhkbbaaGreatDoor
open Go.RowKit Go.KK Go.Shelf Go.Maps
set_option linter.unusedVariables false
set_option linter.unusedSimpArgs false

def ctA : List ND := atoms 10 ++ [txN lbGroup, txN (digB 12), ndN 3 [10, 0, 11, 1, 2, 3]]
theorem lt_c : ctF (atoms 10) 0 12 1 2 3 = (ctA, 12, 0) := by decide +kernel
theorem lt_s : (⟨(showF ctA 12).1.toArray⟩ : ByteArray) = ⟨#[108, 105, 115, 116, 40, 34, 103, 114, 111, 117, 112, 34, 44, 35, 48, 44, 34, 49, 50, 34, 44, 35, 49, 44, 35, 50, 44, 35, 51, 41]⟩ := by decide +kernel
theorem lt_e : (showF ctA 12).2 = 0 := by decide +kernel
theorem lt_r : rdO ctA 12 = some [0, 12, 1, 2, 3] := by decide +kernel
set_option maxHeartbeats 2000000 in
set_option maxRecDepth 100000 in
theorem live12_any (w : World) (hT : Tb w.heap.size w) (hE : EvS w.heap.size w) : Calls Tryz.prog 32 #[] w fun e w' => e = .returned (.bool true) ∧ Below w.heap.size w w' := by
  have HT := hid hT; have HEV := hid hE
  have HW := hid (two12_any w hT)
  clear hT hE
  go_enter Tryz.func32, Tryz.ntmps32
  go_wp2_with fail
  refine HW.out.mono ?_
  rintro e w1 ⟨sa, sb, Z, Z', rfl, htw⟩
  have HCT := hid (l_ct htw.la HT.out (id := 0) (ep := 12) (tr := 1) (cf := 2) (ex := 3) (i64_lit (by decide) (by decide)) (i64_lit (by decide) (by decide)) (i64_lit (by decide) (by decide)) (i64_lit (by decide) (by decide)) (i64_lit (by decide) (by decide)))
  rw [lt_c] at HCT
  clear htw HW
  go_wp2_with fail
  refine HCT.out.mono ?_
  rintro e w2 ⟨Z2, rfl, l2, -⟩
  have L2 := hid l2
  clear l2 HCT
  go_wp2_with fail
  refine (l_showF L2.out HT.out lt_s lt_e).mono ?_
  rintro e w3 ⟨rfl, l3, -⟩
  have HRD := hid (read_any sa ctA 12 w3 l3.ar.vw (Tb.up (HT.out.on l3.bl) l3.sz) (EvS.up (EvS.on HEV.out l3.bl (Nat.le_refl _)) l3.sz))
  have L3 := hid l3
  rw [lt_r] at HRD
  have HRD := hid (show Calls Tryz.prog 35 #[.pointer (some ⟨sa, 0, none⟩), .int .i64 12] w3 fun e w' => e = .returned (.tuple #[.agg #[.int .i64 0, .int .i64 12, .int .i64 1, .int .i64 2, .int .i64 3], .int .i64 0]) ∧ Below w3.heap.size w3 w' from HRD.out)
  clear l3 L2
  go_wp2_with fail
  refine HRD.out.mono ?_
  rintro e w4 ⟨rfl, hb⟩
  have HB := hid ((L3.out.bl.trans (hb.mono L3.out.sz)).alloc (Nat.le_trans L3.out.sz hb.size) (.cells #[.int .i64 0, .int .i64 12, .int .i64 1, .int .i64 2, .int .i64 3] 58))
  clear hb HRD
  have heq : ∀ w, (binOp .eql 58 (.agg #[.int .i64 0, .int .i64 12, .int .i64 1, .int .i64 2, .int .i64 3]) (.agg #[.int .i64 0, .int .i64 12, .int .i64 1, .int .i64 2, .int .i64 3])).run Tryz.prog w = .ok (.bool true) w := fun w => run_eql_arr (P := Tryz.prog) w 5 Tryz.underlying58 Tryz.underlying3 (fun W => Tryz.sizeOf3 W) [0, 12, 1, 2, 3] [0, 12, 1, 2, 3] rfl rfl
  go_wp2_with fail
  go_ret
  exact ⟨rfl, HB.out⟩
end Go.Proofs.YtkgobglmkhkbbaaGreatDoor

/- plain: layer 12: the law of tags. -/
namespace Go.KK
open Go.RowKit
set_option linter.unusedVariables false
set_option linter.unusedSimpArgs false

theorem At.opne {X : List ND} {i : Int} {o o' : Int} {l l' : List Int} (h : At X i (ndN o l)) (k : At X i (ndN o' l')) : o = o' := by
  have e := h.eq k
  unfold ndN at e
  simp only [ND.mk.injEq] at e
  exact e.1
theorem tags_law {xs : List ND} (ok : Okay xs) {l0 l1 l2 m0 m1 m2 : Int} {R1 R2 T1 T2 I1 I2 : Rs}
    (h1 : R1 = hsF xs [l0, l1, l2]) (h2 : R2 = hsF R1.1 [m0, m1, m2]) (h3 : T1 = tgF R2.1 l0 l1) (h4 : T2 = tgF T1.1 m0 m1) (h5 : I1 = hsF T2.1 [l0, l1]) (h6 : I2 = hsF I1.1 [m0, m1])
    (e1 : R1.2.2 = 0) (e2 : R2.2.2 = 0) (e3 : T1.2.2 = 0) (e4 : T2.2.2 = 0) (e5 : I1.2.2 = 0) (e6 : I2.2.2 = 0) :
    ((R1.2.1 = R2.2.1 ↔ l0 = m0 ∧ l1 = m1 ∧ l2 = m2) ∧ (T1.2.1 = T2.2.1 ↔ l0 = m0 ∧ l1 = m1) ∧ (I1.2.1 = I2.2.1 ↔ l0 = m0 ∧ l1 = m1)) ∧ R1.2.1 ≠ I1.2.1 ∧ R1.2.1 ≠ T1.2.1 ∧ T1.2.1 ≠ I1.2.1 ∧ R1.2.1 ∉ [l0, l1, l2] := by
  obtain ⟨v2, w2⟩ := (sb_hs [m0, m1, m2]).ext R1.1
  obtain ⟨v3, w3⟩ := (sb_tg l0 l1).ext R2.1
  obtain ⟨v4, w4⟩ := (sb_tg m0 m1).ext T1.1
  obtain ⟨v5, w5⟩ := (sb_hs [l0, l1]).ext T2.1
  obtain ⟨v6, w6⟩ := (sb_hs [m0, m1]).ext I1.1
  try dsimp only at w2 w3 w4 w5 w6
  rw [← h2] at w2; rw [← h3] at w3; rw [← h4] at w4; rw [← h5] at w5; rw [← h6] at w6
  have o1 : Okay R1.1 := by rw [h1]; exact (sb_hs _).ok _ ok
  have o2 : Okay R2.1 := by rw [h2]; exact (sb_hs _).ok _ o1
  have o3 : Okay T1.1 := by rw [h3]; exact (sb_tg _ _).ok _ o2
  have o4 : Okay T2.1 := by rw [h4]; exact (sb_tg _ _).ok _ o3
  have o5 : Okay I1.1 := by rw [h5]; exact (sb_hs _).ok _ o4
  have o6 : Okay I2.1 := by rw [h6]; exact (sb_hs _).ok _ o5
  have a1 : HsAt R1.1 R1.2.1 [l0, l1, l2] := by rw [h1] at e1 ⊢; exact hs_at e1
  have a2 : HsAt R2.1 R2.2.1 [m0, m1, m2] := by rw [h2] at e2 ⊢; exact hs_at e2
  have a3 : At T1.1 T1.2.1 (ndN 11 [l0, l1]) := by rw [h3] at e3 ⊢; exact mk_at' e3
  have a4 : At T2.1 T2.2.1 (ndN 11 [m0, m1]) := by rw [h4] at e4 ⊢; exact mk_at' e4
  have a5 : HsAt I1.1 I1.2.1 [l0, l1] := by rw [h5] at e5 ⊢; exact hs_at e5
  have a6 : HsAt I2.1 I2.2.1 [m0, m1] := by rw [h6] at e6 ⊢; exact hs_at e6
  have b1 : HsAt I2.1 R1.2.1 [l0, l1, l2] := by rw [w6, w5, w4, w3, w2]; exact ((((a1.ext _).ext _).ext _).ext _).ext _
  have b2 : HsAt I2.1 R2.2.1 [m0, m1, m2] := by rw [w6, w5, w4, w3]; exact (((a2.ext _).ext _).ext _).ext _
  have b3 : At I2.1 T1.2.1 (ndN 11 [l0, l1]) := by rw [w6, w5, w4]; exact ((a3.ext _).ext _).ext _
  have b4 : At I2.1 T2.2.1 (ndN 11 [m0, m1]) := by rw [w6, w5]; exact (a4.ext _).ext _
  have b5 : HsAt I2.1 I1.2.1 [l0, l1] := by rw [w6]; exact a5.ext _
  refine ⟨⟨?_, ?_, ?_⟩, fun e => ?_, fun e => ?_, fun e => ?_, fun e => ?_⟩
  · rw [b1.iff o6 b2]; simp
  · rw [b3.iff o6 b4]; simp [ndN]
  · rw [b5.iff o6 a6]; simp
  · rw [e] at b1
    have := b1.eq b5
    simp at this
  · obtain ⟨q, -, k⟩ := b1
    rw [e] at k
    have := k.opne b3
    omega
  · obtain ⟨q, -, k⟩ := b5
    rw [← e] at k
    have := k.opne b3
    omega
  · have := b1.lt o6 _ e
    omega
end Go.KK

/- transcript's law: TranscriptTags walked. -/
namespace Go.Proofs.YtkgobglmkhkbbaaGreatDoor
open Go.RowKit Go.KK Go.Shelf Go.Maps
set_option linter.unusedVariables false
set_option linter.unusedSimpArgs false

/-- Whether a number is in a list. -/
def inL (l : List Int) (x : Int) : Bool := l.contains x
theorem in12_any (A : Option Addr) (n c : Nat) (l : List Int) (x : Int) (w : World) (h : SlA w 1 A n c (l.map (.int .i64))) (hn : n ≤ 2147483648) :
    Calls Tryz.prog 46 #[.slice A n c, .int .i64 x] w fun e w' => e = .returned (.bool (inL l x)) ∧ w' = w := by
  have HL := hid h.lenI; have HS := hid h
  clear h
  go_enter Tryz.func46, Tryz.ntmps46
  go_wp2
  go_loop [9, 4] (fun i _ => ∃ j : Nat, i = .int .i64 j ∧ j ≤ n ∧ Hid (inL l x = inL (l.drop j) x)) (fun i _ => n - (intOf i).toNat)
  case atStart => exact ⟨0, rfl, by omega, hid rfl⟩
  case round =>
    obtain ⟨j, hi, hj, HJ⟩ := hrel
    subst hi
    by_cases hlt : j < n
    · obtain ⟨b, o, z, rfl, hz, hc⟩ := HS.out.elemI hlt
      have HD := hid (drop_get hz); clear hz
      by_cases hzx : z = x
      · have HF := hid (show inL l x = true by rw [HJ.out, HD.out, hzx]; unfold inL; simp)
        have hzx' : (z == x) = true := beq_iff_eq.2 hzx
        clear hzx
        go_wp2
        go_ret
        exact ⟨by rw [HF.out]; rfl, rfl⟩
      · have HF := hid (show inL l x = inL (l.drop (j + 1)) x by
          rw [HJ.out, HD.out]; unfold inL; rw [List.contains_cons, beq_eq_false_iff_ne.2 (fun e => hzx e.symm), Bool.false_or])
        have hzx' : (z == x) = false := beq_eq_false_iff_ne.2 hzx
        clear hzx
        go_wp2
        go_round
        case rel => exact ⟨j + 1, by go_num, by omega, HF⟩
        case measure => simp [intOf]; omega
    · have HF := hid (show inL l x = false by rw [HJ.out, List.drop_of_length_le (by have := HL.out; omega)]; rfl)
      go_wp2
      go_ret
      exact ⟨by rw [HF.out]; rfl, rfl⟩
/-- Two boxes of three numbers each, wherever the call goes on. -/
theorem six_cells {w w1 U : World} {l0 l1 l2 m0 m1 m2 : Int} (h : Below ((w.alloc (.cells #[.int .i64 l0, .int .i64 l1, .int .i64 l2] 39)).alloc (.cells #[.int .i64 m0, .int .i64 m1, .int .i64 m2] 39)).heap.size ((w.alloc (.cells #[.int .i64 l0, .int .i64 l1, .int .i64 l2] 39)).alloc (.cells #[.int .i64 m0, .int .i64 m1, .int .i64 m2] 39)) w1) (hb : Below w1.heap.size w1 U) :
    U.heap[w.heap.size]? = some (.cells #[.int .i64 l0, .int .i64 l1, .int .i64 l2] 39 (0, 0)) ∧ U.heap[w.heap.size + 1]? = some (.cells #[.int .i64 m0, .int .i64 m1, .int .i64 m2] 39 (0, 0)) := by
  have hs : ((w.alloc (.cells #[.int .i64 l0, .int .i64 l1, .int .i64 l2] 39)).alloc (.cells #[.int .i64 m0, .int .i64 m1, .int .i64 m2] 39)).heap.size = w.heap.size + 2 := by simp
  have h1 := h.size
  have hx : ((w.alloc (.cells #[.int .i64 l0, .int .i64 l1, .int .i64 l2] 39)).alloc (.cells #[.int .i64 m0, .int .i64 m1, .int .i64 m2] 39)).heap[w.heap.size]? = some (.cells #[.int .i64 l0, .int .i64 l1, .int .i64 l2] 39 (0, 0)) :=
    (((Below.refl (w.alloc (.cells #[.int .i64 l0, .int .i64 l1, .int .i64 l2] 39)).heap.size (w.alloc (.cells #[.int .i64 l0, .int .i64 l1, .int .i64 l2] 39))).alloc (Nat.le_refl _) (.cells #[.int .i64 m0, .int .i64 m1, .int .i64 m2] 39)).block _ (by simp)).trans (heap_alloc_new w _)
  have hy : ((w.alloc (.cells #[.int .i64 l0, .int .i64 l1, .int .i64 l2] 39)).alloc (.cells #[.int .i64 m0, .int .i64 m1, .int .i64 m2] 39)).heap[w.heap.size + 1]? = some (.cells #[.int .i64 m0, .int .i64 m1, .int .i64 m2] 39 (0, 0)) := by
    have := heap_alloc_new (w.alloc (.cells #[.int .i64 l0, .int .i64 l1, .int .i64 l2] 39)) (.cells #[.int .i64 m0, .int .i64 m1, .int .i64 m2] 39)
    rw [show (w.alloc (.cells #[.int .i64 l0, .int .i64 l1, .int .i64 l2] 39)).heap.size = w.heap.size + 1 by simp] at this
    exact this
  exact ⟨(hb.block _ (by omega)).trans ((h.block _ (by omega)).trans hx), (hb.block _ (by omega)).trans ((h.block _ (by omega)).trans hy)⟩
theorem three_cells {U : World} {b : Nat} {x y z : Int} (h : U.heap[b]? = some (.cells #[.int .i64 x, .int .i64 y, .int .i64 z] 39 (0, 0))) :
    U.cell? ⟨b, 0, none⟩ = some (.int .i64 x) ∧ U.cell? ⟨b, 1, none⟩ = some (.int .i64 y) ∧ U.cell? ⟨b, 2, none⟩ = some (.int .i64 z) :=
  ⟨by rw [cell_of_row U b 0 _ _ (0, 0) h]; rfl, by rw [cell_of_row U b 1 _ _ (0, 0) h]; rfl, by rw [cell_of_row U b 2 _ _ (0, 0) h]; rfl⟩
theorem three_sla {U : World} {b : Nat} {x y z : Int} (h : U.heap[b]? = some (.cells #[.int .i64 x, .int .i64 y, .int .i64 z] 39 (0, 0))) : SlA U 1 (some ⟨b, 0, none⟩) 3 3 ([x, y, z].map (.int .i64)) := by
  obtain ⟨c0, c1, c2⟩ := three_cells h
  refine ⟨by omega, by unfold maxLen; omega, rfl, fun j u hj => ⟨b, 0, rfl, ?_⟩⟩
  match j, hj with
  | 0, hj => simp at hj; subst hj; simpa using c0
  | 1, hj => simp at hj; subst hj; simpa using c1
  | 2, hj => simp at hj; subst hj; simpa using c2
set_option maxHeartbeats 8000000 in
set_option maxRecDepth 100000 in
theorem tags_go (l0 l1 l2 m0 m1 m2 : Int) (w : World) (hl0 : I64 l0) (hl1 : I64 l1) (hl2 : I64 l2) (hm0 : I64 m0) (hm1 : I64 m1) (hm2 : I64 m2) (hT : Tb w.heap.size w) (hE : EvS w.heap.size w) :
    Calls Tryz.prog 10 #[.agg #[.int .i64 l0, .int .i64 l1, .int .i64 l2], .agg #[.int .i64 m0, .int .i64 m1, .int .i64 m2]] w fun e w' => e = .returned (.bool true) ∧ Below w.heap.size w w' := by
  have HB0 := hid (show Below w.heap.size w ((w.alloc (.cells #[.int .i64 l0, .int .i64 l1, .int .i64 l2] 39)).alloc (.cells #[.int .i64 m0, .int .i64 m1, .int .i64 m2] 39)) from ((Below.refl _ _).alloc (Nat.le_refl _) _).alloc (by simp) _)
  have HT0 := hid (Tb.up (hT.on HB0.out) HB0.out.size)
  have HLV := hid (live12_any ((w.alloc (.cells #[.int .i64 l0, .int .i64 l1, .int .i64 l2] 39)).alloc (.cells #[.int .i64 m0, .int .i64 m1, .int .i64 m2] 39)) HT0.out (EvS.up (EvS.on hE HB0.out (Nat.le_refl _)) HB0.out.size))
  clear hT hE
  go_enter Tryz.func10, Tryz.ntmps10
  go_wp2_with fail
  refine HLV.out.mono ?_
  rintro e w1 ⟨rfl, b1⟩
  have HC := hid (fun U hb => six_cells (U := U) b1 hb)
  have HB1 := hid (HB0.out.trans (b1.mono HB0.out.size))
  have HTB := hid (show Tb w1.heap.size w1 from Tb.up (HT0.out.on b1) b1.size)
  clear b1 HLV HB0 HT0
  have HS0 := hid (HC.out w1 (Below.refl _ _))
  go_wp2_with fail
  refine (beyond_any 10 (some ⟨w.heap.size, 0, none⟩) 3 3 [l0, l1, l2] w1 (three_sla HS0.out.1) (by omega)).mono ?_
  rintro e w2 ⟨⟨b, rfl⟩, hw⟩
  subst hw
  rcases b with _ | _
  rotate_left
  · go_wp2_with fail
    go_ret
    exact ⟨rfl, HB1.out⟩
  go_wp2_with fail
  refine (beyond_any 10 (some ⟨w.heap.size + 1, 0, none⟩) 3 3 [m0, m1, m2] w2 (three_sla HS0.out.2) (by omega)).mono ?_
  rintro e w3 ⟨⟨b, rfl⟩, hw⟩
  subst hw
  rcases b with _ | _
  rotate_left
  · go_wp2_with fail
    go_ret
    exact ⟨rfl, HB1.out⟩
  go_wp2_with fail
  refine (two12_any w3 HTB.out).mono ?_
  rintro e w4 ⟨sa, sb, Z, Z', rfl, htw⟩
  have L0 := hid htw.la; have HOK := hid htw.la.ar.ok
  clear htw HS0
  have HX0 := hid (three_cells ((HC.out w4 L0.out.bl).1))
  obtain ⟨xa0, xb0, xc0⟩ := HX0.out
  obtain ⟨R1, hR1⟩ : ∃ R : Rs, R = hsF (atoms 10) [l0, l1, l2] := ⟨_, rfl⟩
  have HK0 := hid (l_cf L0.out HTB.out hl0 hl1 hl2)
  rw [← hR1] at HK0
  have HR1 := hid hR1
  clear hR1 HX0
  go_wp2_with fail
  refine HK0.out.mono ?_
  rintro e w5 ⟨Z0, rfl, l0, -⟩
  have L1 := hid l0
  clear l0 L0 HK0 xa0 xb0 xc0
  have HX1 := hid (three_cells ((HC.out w5 L1.out.bl).2))
  obtain ⟨xa1, xb1, xc1⟩ := HX1.out
  obtain ⟨R2, hR2⟩ : ∃ R : Rs, R = hsF (R1.1) [m0, m1, m2] := ⟨_, rfl⟩
  have HK1 := hid (l_cf L1.out HTB.out hm0 hm1 hm2)
  rw [← hR2] at HK1
  have HR2 := hid hR2
  clear hR2 HX1
  go_wp2_with fail
  refine HK1.out.mono ?_
  rintro e w6 ⟨Z1, rfl, l1, -⟩
  have L2 := hid l1
  clear l1 L1 HK1 xa1 xb1 xc1
  have HX2 := hid (three_cells ((HC.out w6 L2.out.bl).1))
  obtain ⟨xa2, xb2, xc2⟩ := HX2.out
  obtain ⟨T1, hT1⟩ : ∃ R : Rs, R = tgF (R2.1) l0 l1 := ⟨_, rfl⟩
  have HK2 := hid (l_tg L2.out HTB.out hl0 hl1)
  rw [← hT1] at HK2
  have HT1 := hid hT1
  clear hT1 HX2
  go_wp2_with fail
  refine HK2.out.mono ?_
  rintro e w7 ⟨Z2, rfl, l2, -⟩
  have L3 := hid l2
  clear l2 L2 HK2 xa2 xb2 xc2
  have HX3 := hid (three_cells ((HC.out w7 L3.out.bl).2))
  obtain ⟨xa3, xb3, xc3⟩ := HX3.out
  obtain ⟨T2, hT2⟩ : ∃ R : Rs, R = tgF (T1.1) m0 m1 := ⟨_, rfl⟩
  have HK3 := hid (l_tg L3.out HTB.out hm0 hm1)
  rw [← hT2] at HK3
  have HT2 := hid hT2
  clear hT2 HX3
  go_wp2_with fail
  refine HK3.out.mono ?_
  rintro e w8 ⟨Z3, rfl, l3, -⟩
  have L4 := hid l3
  clear l3 L3 HK3 xa3 xb3 xc3
  have HX4 := hid (three_cells ((HC.out w8 L4.out.bl).1))
  obtain ⟨xa4, xb4, xc4⟩ := HX4.out
  obtain ⟨I1, hI1⟩ : ∃ R : Rs, R = hsF (T2.1) [l0, l1] := ⟨_, rfl⟩
  have HK4 := hid (l_im L4.out HTB.out hl0 hl1)
  rw [← hI1] at HK4
  have HI1 := hid hI1
  clear hI1 HX4
  go_wp2_with fail
  refine HK4.out.mono ?_
  rintro e w9 ⟨Z4, rfl, l4, -⟩
  have L5 := hid l4
  clear l4 L4 HK4 xa4 xb4 xc4
  have HX5 := hid (three_cells ((HC.out w9 L5.out.bl).2))
  obtain ⟨xa5, xb5, xc5⟩ := HX5.out
  obtain ⟨I2, hI2⟩ : ∃ R : Rs, R = hsF (I1.1) [m0, m1] := ⟨_, rfl⟩
  have HK5 := hid (l_im L5.out HTB.out hm0 hm1)
  rw [← hI2] at HK5
  have HI2 := hid hI2
  clear hI2 HX5
  go_wp2_with fail
  refine HK5.out.mono ?_
  rintro e w10 ⟨Z5, rfl, l5, -⟩
  have L6 := hid l5
  clear l5 L5 HK5 xa5 xb5 xc5
  have HBF := hid (HB1.out.trans (L6.out.bl.mono HB1.out.size))
  have HX := hid (HC.out w10 L6.out.bl)
  by_cases eR1 : R1.2.2 = 0
  rotate_left
  · have hne : (R1.2.2 != 0) = true := bne_iff_ne.2 eR1
    go_wp2_with fail
    go_ret
    exact ⟨rfl, HBF.out⟩
  have nR1 : (R1.2.2 != 0) = false := by rw [eR1]; rfl
  by_cases eR2 : R2.2.2 = 0
  rotate_left
  · have hne : (R2.2.2 != 0) = true := bne_iff_ne.2 eR2
    go_wp2_with fail
    go_ret
    exact ⟨rfl, HBF.out⟩
  have nR2 : (R2.2.2 != 0) = false := by rw [eR2]; rfl
  by_cases eT1 : T1.2.2 = 0
  rotate_left
  · have hne : (T1.2.2 != 0) = true := bne_iff_ne.2 eT1
    go_wp2_with fail
    go_ret
    exact ⟨rfl, HBF.out⟩
  have nT1 : (T1.2.2 != 0) = false := by rw [eT1]; rfl
  by_cases eT2 : T2.2.2 = 0
  rotate_left
  · have hne : (T2.2.2 != 0) = true := bne_iff_ne.2 eT2
    go_wp2_with fail
    go_ret
    exact ⟨rfl, HBF.out⟩
  have nT2 : (T2.2.2 != 0) = false := by rw [eT2]; rfl
  by_cases eI1 : I1.2.2 = 0
  rotate_left
  · have hne : (I1.2.2 != 0) = true := bne_iff_ne.2 eI1
    go_wp2_with fail
    go_ret
    exact ⟨rfl, HBF.out⟩
  have nI1 : (I1.2.2 != 0) = false := by rw [eI1]; rfl
  by_cases eI2 : I2.2.2 = 0
  rotate_left
  · have hne : (I2.2.2 != 0) = true := bne_iff_ne.2 eI2
    go_wp2_with fail
    go_ret
    exact ⟨rfl, HBF.out⟩
  have nI2 : (I2.2.2 != 0) = false := by rw [eI2]; rfl
  have HLW := hid (tags_law (xs := atoms 10) HOK.out HR1.out HR2.out HT1.out HT2.out HI1.out HI2.out eR1 eR2 eT1 eT2 eI1 eI2)
  clear eR1 eR2 eT1 eT2 eI1 eI2 HR1 HR2 HT1 HT2 HI1 HI2
  obtain ⟨xa, xb, xc⟩ := three_cells HX.out.1
  obtain ⟨ya, yb, yc⟩ := three_cells HX.out.2
  obtain ⟨bl, hbl⟩ : ∃ b, b = ([l0, l1, l2] == [m0, m1, m2]) := ⟨_, rfl⟩
  have heq : ∀ W, (binOp .eql 39 (.agg #[.int .i64 l0, .int .i64 l1, .int .i64 l2]) (.agg #[.int .i64 m0, .int .i64 m1, .int .i64 m2])).run Tryz.prog W = .ok (.bool bl) W := fun W => by
    rw [hbl]
    exact run_eql_arr (P := Tryz.prog) W 3 Tryz.underlying39 Tryz.underlying3 (fun W => Tryz.sizeOf3 W) [l0, l1, l2] [m0, m1, m2] rfl rfl
  obtain ⟨⟨q1, q2, q3⟩, q4, q5, q6, q7⟩ := HLW.out
  have hx : (R1.2.1 == R2.2.1) = bl := by rw [hbl, Bool.eq_iff_iff, beq_iff_eq, beq_iff_eq, q1]; simp
  have hv4 : (R1.2.1 != I1.2.1) = true := bne_iff_ne.2 q4
  have hv5 : (R1.2.1 != T1.2.1) = true := bne_iff_ne.2 q5
  have hv6 : (T1.2.1 != I1.2.1) = true := bne_iff_ne.2 q6
  have HIN := hid (in12_any (some ⟨w.heap.size, 0, none⟩) 3 3 [l0, l1, l2] R1.2.1 w10 (three_sla HX.out.1) (by omega))
  have hct : (inL [l0, l1, l2] R1.2.1) = false := by unfold inL; rw [Bool.eq_false_iff]; intro h; exact q7 (by simpa using h)
  rw [hct] at HIN
  clear hbl q1 q4 q5 q6 q7 hct
  by_cases z0 : l0 = m0
  · have b0 : (l0 == m0) = true := beq_iff_eq.2 z0
    by_cases z1 : l1 = m1
    · have b1 : (l1 == m1) = true := beq_iff_eq.2 z1
      have hp : (T1.2.1 == T2.2.1) = true := beq_iff_eq.2 (q2.2 ⟨z0, z1⟩)
      have hr : (I1.2.1 == I2.2.1) = true := beq_iff_eq.2 (q3.2 ⟨z0, z1⟩)
      clear z0 z1 q2 q3 HLW
      go_wp2_with fail
      refine HIN.out.mono ?_
      rintro e w11 ⟨rfl, hw⟩
      subst hw
      go_wp2_with fail
      go_ret
      exact ⟨rfl, HBF.out⟩
    · have b1 : (l1 == m1) = false := beq_eq_false_iff_ne.2 z1
      have hp : (T1.2.1 == T2.2.1) = false := beq_eq_false_iff_ne.2 fun e => z1 (q2.1 e).2
      have hr : (I1.2.1 == I2.2.1) = false := beq_eq_false_iff_ne.2 fun e => z1 (q3.1 e).2
      clear z0 z1 q2 q3 HLW
      go_wp2_with fail
      refine HIN.out.mono ?_
      rintro e w11 ⟨rfl, hw⟩
      subst hw
      go_wp2_with fail
      go_ret
      exact ⟨rfl, HBF.out⟩
  · have b0 : (l0 == m0) = false := beq_eq_false_iff_ne.2 z0
    have hp : (T1.2.1 == T2.2.1) = false := beq_eq_false_iff_ne.2 fun e => z0 (q2.1 e).1
    have hr : (I1.2.1 == I2.2.1) = false := beq_eq_false_iff_ne.2 fun e => z0 (q3.1 e).1
    clear z0 q2 q3 HLW
    go_wp2_with fail
    refine HIN.out.mono ?_
    rintro e w11 ⟨rfl, hw⟩
    subst hw
    go_wp2_with fail
    go_ret
    exact ⟨rfl, HBF.out⟩
end Go.Proofs.YtkgobglmkhkbbaaGreatDoor

/- the entry of a law: an array of three numbers that came in. -/
namespace Go.KK
open Go.ChangeShapes Go.WideShapes Go.RowKit
set_option linter.unusedVariables false
set_option linter.unusedSimpArgs false

section
variable {H : Type} {enc : TypeId × Value → H} {P : Program} {w : World} {base : Nat} {spare : Nat → Bool} {held : Bool}
theorem opens_three {r : Reach} {b0 : Nat} {t e : TypeId} {v : Value} {d : DataW H} {p : List MemPlace} (ht : P.underlying t = some (.array 3 e)) (hc : P.cellsOf t = 3) (hce : P.cellsOf e = 1) (he : P.underlying e = some (.int .i64))
    (hv : Value.okWide P w r b0 t v) (h : DataW.Trod enc P w base spare held t v d p) :
    ∃ a b c : Int, v = .agg #[.int .i64 a, .int .i64 b, .int .i64 c] ∧ (Lit.int .i64 a).wf = true ∧ (Lit.int .i64 b).wf = true ∧ (Lit.int .i64 c).wf = true := by
  simp only [Value.okWide, ht] at hv
  obtain ⟨cs, rfl, h2, _⟩ := hv
  rw [hc] at h2
  obtain ⟨l⟩ := cs
  match l, h2 with
  | [c0, c1, c2], _ =>
    obtain ⟨fuel, hf⟩ := h
    cases fuel with
    | zero => simp [DataW.trod] at hf
    | succ n =>
      rw [DataW.trod_step] at hf
      unfold DataW.trodStep at hf
      simp only [ht, Value.cells] at hf
      rw [if_pos (by rw [hc]; rfl)] at hf
      simp only [Option.map_eq_some_iff] at hf
      obtain ⟨xs, hx, e1⟩ := hf
      rw [show List.range 3 = [0, 1, 2] from rfl, List.mapM_cons, List.mapM_cons, List.mapM_cons, List.mapM_nil] at hx
      simp only [bind, Option.bind_eq_some_iff, pure, Option.some.injEq, hce] at hx
      obtain ⟨y0, h0, _, ⟨y1, h1, _, ⟨y2, h3, _, rfl, rfl⟩, rfl⟩, rfl⟩ := hx
      obtain ⟨a, ea, rfl, wa⟩ := DataW.trod_int he h0
      obtain ⟨b, eb, rfl, wb⟩ := DataW.trod_int he h1
      obtain ⟨c, ec, rfl, wc⟩ := DataW.trod_int he h3
      simp at ea eb ec
      subst ea; subst eb; subst ec
      exact ⟨a, b, c, rfl, wa, wb, wc⟩
end
end Go.KK

/- the two errors of strconv, as the rows lay them. -/
namespace Go.Proofs.YtkgobglmkhkbbaaGreatDoor
open Go.RowKit Go.KK
set_option linter.unusedVariables false
set_option linter.unusedSimpArgs false

theorem starE : "*" ++ "errors.errorString" = "*errors.errorString" := by decide
theorem rowE (u : TypeId) (h : Tryz.prog.typeName? 3 u = some "*errors.errorString") : u = 206 :=
  typeName_ptr_named (nm := "errors.errorString") (by rw [starE]; kernel_rfl) (by kernel_rfl) (by decide) u (by rw [starE]; exact h)
theorem ev_of {W : World} (h3 : laidMet Tryz.prog [("strconv.ErrRange", Rows.laid_strconv_ErrRange), ("strconv.ErrSyntax", Rows.laid_strconv_ErrSyntax)] W) : EvS W.heap.size W := by
  obtain ⟨a0, s0, hv0, -, -, -⟩ := laid_sentinel h3 (g := 1) (by kernel_rfl) (by kernel_rfl) Tryz.underlying120 rowE Tryz.underlying206 Tryz.underlying208 rfl rfl Tryz.underlying9 (by kernel_rfl) (by kernel_rfl)
  obtain ⟨a1, s1, hv1, -, -, -⟩ := laid_sentinel (laidMet.tail h3) (g := 0) (by kernel_rfl) (by kernel_rfl) Tryz.underlying120 rowE Tryz.underlying206 Tryz.underlying208 rfl rfl Tryz.underlying9 (by kernel_rfl) (by kernel_rfl)
  have hs := World.var?_cell (g := 0) (by kernel_rfl) hv1 0
  have hr := World.var?_cell (g := 1) (by kernel_rfl) hv0 0
  exact ⟨⟨_, _, hv1⟩, ⟨_, _, hv0⟩, block_lt_of_cell (v := .iface _ _) (by simpa using hs), block_lt_of_cell (v := .iface _ _) (by simpa using hr)⟩
end Go.Proofs.YtkgobglmkhkbbaaGreatDoor

/- plain: layer 12: contexts back. -/
namespace Go.KK
open Go.RowKit
set_option linter.unusedVariables false
set_option linter.unusedSimpArgs false

theorem sb_ct (id ep tr cf ex : Int) : Sb fun xs => ctF xs id ep tr cf ex := by
  by_cases h : 0 ≤ ep
  · have e : (fun xs => ctF xs id ep tr cf ex) = fun xs => bdF (mk xs (txN lbGroup)) fun ys g => bdF (mk ys (txN (digB ep))) fun zs d => mk zs (ndN 3 [g, id, d, tr, cf, ex]) := by
      funext xs; exact ct_pos h
    rw [e]
    exact sb_ct0 id ep tr cf ex
  · have e : (fun xs => ctF xs id ep tr cf ex) = fun xs => (xs, 0, 1) := by
      funext xs; unfold ctF; rw [if_neg h]
    rw [e]
    exact ⟨fun xs => ⟨[], by simp⟩, fun xs m ok h => (by cases h), fun xs h => (by cases h), fun xs ok => ok⟩
theorem back_law {xs : List ND} (ok : Okay xs) {l0 l1 l2 l3 l4 m0 m1 m2 m3 m4 : Int} {R1 R2 : Rs} (h1 : R1 = ctF xs l0 l1 l2 l3 l4) (h2 : R2 = ctF R1.1 m0 m1 m2 m3 m4) (e1 : R1.2.2 = 0) (e2 : R2.2.2 = 0) (hl : l1 < 1000000000) (hm : m1 < 1000000000) :
    rdO R2.1 R1.2.1 = some [l0, l1, l2, l3, l4] ∧ rdO R2.1 R2.2.1 = some [m0, m1, m2, m3, m4] ∧ (R1.2.1 = R2.2.1 ↔ [l0, l1, l2, l3, l4] = [m0, m1, m2, m3, m4]) := by
  obtain ⟨v2, w2⟩ := (sb_ct m0 m1 m2 m3 m4).ext R1.1
  try dsimp only at w2
  rw [← h2] at w2
  have o1 : Okay R1.1 := by rw [h1]; exact (sb_ct _ _ _ _ _).ok _ ok
  have o2 : Okay R2.1 := by rw [h2]; exact (sb_ct _ _ _ _ _).ok _ o1
  have p1 : 0 ≤ l1 := ct_neg (by rw [← h1]; exact e1)
  have p2 : 0 ≤ m1 := ct_neg (by rw [← h2]; exact e2)
  have a1 : CtAt R1.1 R1.2.1 l0 l1 l2 l3 l4 := by rw [h1] at e1 ⊢; exact ct_at e1
  have a2 : CtAt R2.1 R2.2.1 m0 m1 m2 m3 m4 := by rw [h2] at e2 ⊢; exact ct_at e2
  have b1 : CtAt R2.1 R1.2.1 l0 l1 l2 l3 l4 := by rw [w2]; exact a1.ext _
  refine ⟨rd_ct b1 p1 hl, rd_ct a2 p2 hm, fun e => ?_, fun e => ?_⟩
  · rw [← e] at a2
    obtain ⟨f0, f1, f2, f3, f4⟩ := b1.eq a2
    rw [f0, f1, f2, f3, f4]
  · simp only [List.cons.injEq, and_true] at e
    obtain ⟨rfl, rfl, rfl, rfl, rfl⟩ := e
    exact b1.uniq o2 a2
end Go.KK

/- transcript's law: TranscriptBack walked. -/
namespace Go.Proofs.YtkgobglmkhkbbaaGreatDoor
open Go.RowKit Go.KK Go.Shelf Go.Maps
set_option linter.unusedVariables false
set_option linter.unusedSimpArgs false

theorem ten_cells {w w1 U : World} {l0 l1 l2 l3 l4 m0 m1 m2 m3 m4 : Int} (h : Below ((w.alloc (.cells #[.int .i64 l0, .int .i64 l1, .int .i64 l2, .int .i64 l3, .int .i64 l4] 58)).alloc (.cells #[.int .i64 m0, .int .i64 m1, .int .i64 m2, .int .i64 m3, .int .i64 m4] 58)).heap.size ((w.alloc (.cells #[.int .i64 l0, .int .i64 l1, .int .i64 l2, .int .i64 l3, .int .i64 l4] 58)).alloc (.cells #[.int .i64 m0, .int .i64 m1, .int .i64 m2, .int .i64 m3, .int .i64 m4] 58)) w1) (hb : Below w1.heap.size w1 U) :
    U.heap[w.heap.size]? = some (.cells #[.int .i64 l0, .int .i64 l1, .int .i64 l2, .int .i64 l3, .int .i64 l4] 58 (0, 0)) ∧ U.heap[w.heap.size + 1]? = some (.cells #[.int .i64 m0, .int .i64 m1, .int .i64 m2, .int .i64 m3, .int .i64 m4] 58 (0, 0)) := by
  have hs : ((w.alloc (.cells #[.int .i64 l0, .int .i64 l1, .int .i64 l2, .int .i64 l3, .int .i64 l4] 58)).alloc (.cells #[.int .i64 m0, .int .i64 m1, .int .i64 m2, .int .i64 m3, .int .i64 m4] 58)).heap.size = w.heap.size + 2 := by simp
  have h1 := h.size
  have hx : ((w.alloc (.cells #[.int .i64 l0, .int .i64 l1, .int .i64 l2, .int .i64 l3, .int .i64 l4] 58)).alloc (.cells #[.int .i64 m0, .int .i64 m1, .int .i64 m2, .int .i64 m3, .int .i64 m4] 58)).heap[w.heap.size]? = some (.cells #[.int .i64 l0, .int .i64 l1, .int .i64 l2, .int .i64 l3, .int .i64 l4] 58 (0, 0)) :=
    (((Below.refl (w.alloc (.cells #[.int .i64 l0, .int .i64 l1, .int .i64 l2, .int .i64 l3, .int .i64 l4] 58)).heap.size (w.alloc (.cells #[.int .i64 l0, .int .i64 l1, .int .i64 l2, .int .i64 l3, .int .i64 l4] 58))).alloc (Nat.le_refl _) (.cells #[.int .i64 m0, .int .i64 m1, .int .i64 m2, .int .i64 m3, .int .i64 m4] 58)).block _ (by simp)).trans (heap_alloc_new w _)
  have hy : ((w.alloc (.cells #[.int .i64 l0, .int .i64 l1, .int .i64 l2, .int .i64 l3, .int .i64 l4] 58)).alloc (.cells #[.int .i64 m0, .int .i64 m1, .int .i64 m2, .int .i64 m3, .int .i64 m4] 58)).heap[w.heap.size + 1]? = some (.cells #[.int .i64 m0, .int .i64 m1, .int .i64 m2, .int .i64 m3, .int .i64 m4] 58 (0, 0)) := by
    have := heap_alloc_new (w.alloc (.cells #[.int .i64 l0, .int .i64 l1, .int .i64 l2, .int .i64 l3, .int .i64 l4] 58)) (.cells #[.int .i64 m0, .int .i64 m1, .int .i64 m2, .int .i64 m3, .int .i64 m4] 58)
    rw [show (w.alloc (.cells #[.int .i64 l0, .int .i64 l1, .int .i64 l2, .int .i64 l3, .int .i64 l4] 58)).heap.size = w.heap.size + 1 by simp] at this
    exact this
  exact ⟨(hb.block _ (by omega)).trans ((h.block _ (by omega)).trans hx), (hb.block _ (by omega)).trans ((h.block _ (by omega)).trans hy)⟩
theorem five_cells {U : World} {b : Nat} {x0 x1 x2 x3 x4 : Int} (h : U.heap[b]? = some (.cells #[.int .i64 x0, .int .i64 x1, .int .i64 x2, .int .i64 x3, .int .i64 x4] 58 (0, 0))) :
    U.cell? ⟨b, 0, none⟩ = some (.int .i64 x0) ∧ U.cell? ⟨b, 1, none⟩ = some (.int .i64 x1) ∧ U.cell? ⟨b, 2, none⟩ = some (.int .i64 x2) ∧ U.cell? ⟨b, 3, none⟩ = some (.int .i64 x3) ∧ U.cell? ⟨b, 4, none⟩ = some (.int .i64 x4) :=
  ⟨by rw [cell_of_row U b 0 _ _ (0, 0) h]; rfl, by rw [cell_of_row U b 1 _ _ (0, 0) h]; rfl, by rw [cell_of_row U b 2 _ _ (0, 0) h]; rfl, by rw [cell_of_row U b 3 _ _ (0, 0) h]; rfl, by rw [cell_of_row U b 4 _ _ (0, 0) h]; rfl⟩
theorem i64_of {w0 U : World} {Zq : Nat → Prop} {sa : Nat} {R : Rs} {F : List ND → Rs} {X : List ND} (hF : Sb F) (hr : R = F X) (he : R.2.2 = 0) (la : LA w0 U Zq sa R.1) : I64 R.2.1 :=
  i64_at (X := R.1) la ⟨[], by simp⟩ (by rw [hr]; exact hF.has X (by rw [← hr]; exact he))
set_option maxHeartbeats 8000000 in
set_option maxRecDepth 100000 in
theorem back_go (l0 l1 l2 l3 l4 m0 m1 m2 m3 m4 : Int) (w : World) (hl0 : I64 l0) (hl1 : I64 l1) (hl2 : I64 l2) (hl3 : I64 l3) (hl4 : I64 l4) (hm0 : I64 m0) (hm1 : I64 m1) (hm2 : I64 m2) (hm3 : I64 m3) (hm4 : I64 m4) (hT : Tb w.heap.size w) (hE : EvS w.heap.size w) :
    Calls Tryz.prog 8 #[.agg #[.int .i64 l0, .int .i64 l1, .int .i64 l2, .int .i64 l3, .int .i64 l4], .agg #[.int .i64 m0, .int .i64 m1, .int .i64 m2, .int .i64 m3, .int .i64 m4]] w fun e w' => e = .returned (.bool true) ∧ Below w.heap.size w w' := by
  have HB0 := hid (show Below w.heap.size w ((w.alloc (.cells #[.int .i64 l0, .int .i64 l1, .int .i64 l2, .int .i64 l3, .int .i64 l4] 58)).alloc (.cells #[.int .i64 m0, .int .i64 m1, .int .i64 m2, .int .i64 m3, .int .i64 m4] 58)) from ((Below.refl _ _).alloc (Nat.le_refl _) _).alloc (by simp) _)
  have HT0 := hid (Tb.up (hT.on HB0.out) HB0.out.size)
  have HE0 := hid (EvS.up (EvS.on hE HB0.out (Nat.le_refl _)) HB0.out.size)
  have HLV := hid (live12_any ((w.alloc (.cells #[.int .i64 l0, .int .i64 l1, .int .i64 l2, .int .i64 l3, .int .i64 l4] 58)).alloc (.cells #[.int .i64 m0, .int .i64 m1, .int .i64 m2, .int .i64 m3, .int .i64 m4] 58)) HT0.out HE0.out)
  clear hT hE
  go_enter Tryz.func8, Tryz.ntmps8
  go_wp2_with fail
  refine HLV.out.mono ?_
  rintro e w1 ⟨rfl, b1⟩
  have HC := hid (fun U hb => ten_cells (U := U) b1 hb)
  have HB1 := hid (HB0.out.trans (b1.mono HB0.out.size))
  have HTB := hid (show Tb w1.heap.size w1 from Tb.up (HT0.out.on b1) b1.size)
  have HEV := hid (show EvS w1.heap.size w1 from EvS.up (EvS.on HE0.out b1 (Nat.le_refl _)) b1.size)
  clear b1 HLV HB0 HT0 HE0
  go_wp2_with fail
  refine (two12_any w1 HTB.out).mono ?_
  rintro e w4 ⟨sa, sb, Z, Z', rfl, htw⟩
  have L0 := hid htw.la; have HOK := hid htw.la.ar.ok
  clear htw
  obtain ⟨xa, xb, xc, xd, xe⟩ := five_cells ((HC.out w4 L0.out.bl).1)
  obtain ⟨R1, hR1⟩ : ∃ R : Rs, R = ctF (atoms 10) l0 l1 l2 l3 l4 := ⟨_, rfl⟩
  have HK0 := hid (l_ct L0.out HTB.out hl0 hl1 hl2 hl3 hl4)
  rw [← hR1] at HK0
  have HR1 := hid hR1
  clear hR1
  go_wp2_with fail
  refine HK0.out.mono ?_
  rintro e w5 ⟨Z0, rfl, l0', -⟩
  have L1 := hid l0'
  clear l0' L0 HK0 xa xb xc xd xe
  obtain ⟨xa, xb, xc, xd, xe⟩ := five_cells ((HC.out w5 L1.out.bl).2)
  obtain ⟨R2, hR2⟩ : ∃ R : Rs, R = ctF (R1.1) m0 m1 m2 m3 m4 := ⟨_, rfl⟩
  have HK1 := hid (l_ct L1.out HTB.out hm0 hm1 hm2 hm3 hm4)
  rw [← hR2] at HK1
  have HR2 := hid hR2
  clear hR2
  go_wp2_with fail
  refine HK1.out.mono ?_
  rintro e w6 ⟨Z1, rfl, l1', -⟩
  have L2 := hid l1'
  clear l1' L1 HK1 xa xb xc xd xe
  have HBF := hid (HB1.out.trans (L2.out.bl.mono HB1.out.size))
  have HX := hid (HC.out w6 L2.out.bl)
  obtain ⟨xa, xb, xc, xd, xe⟩ := five_cells HX.out.1
  obtain ⟨ya, yb, yc, yd, ye⟩ := five_cells HX.out.2
  by_cases eR1 : R1.2.2 = 0
  rotate_left
  · have hne : (R1.2.2 != 0) = true := bne_iff_ne.2 eR1
    go_wp2_with fail
    go_ret
    exact ⟨rfl, HBF.out⟩
  have nR1 : (R1.2.2 != 0) = false := by rw [eR1]; rfl
  by_cases eR2 : R2.2.2 = 0
  rotate_left
  · have hne : (R2.2.2 != 0) = true := bne_iff_ne.2 eR2
    go_wp2_with fail
    go_ret
    exact ⟨rfl, HBF.out⟩
  have nR2 : (R2.2.2 != 0) = false := by rw [eR2]; rfl
  by_cases zl : 1000000000 ≤ l1
  · clear eR1 eR2
    go_wp2_with fail
    go_ret
    exact ⟨rfl, HBF.out⟩
  have yl : l1 < 1000000000 := by omega
  by_cases zm : 1000000000 ≤ m1
  · clear eR1 eR2
    go_wp2_with fail
    go_ret
    exact ⟨rfl, HBF.out⟩
  have ym : m1 < 1000000000 := by omega
  have HLW := hid (back_law HOK.out HR1.out HR2.out eR1 eR2 yl ym)
  clear yl ym
  have HR1x := hid (show ∀ U Zq, LA w1 U Zq sa R2.1 → Calls Tryz.prog 35 #[.pointer (some ⟨sa, 0, none⟩), .int .i64 R1.2.1] U fun e w' => e = .returned (.tuple #[.agg #[.int .i64 l0, .int .i64 l1, .int .i64 l2, .int .i64 l3, .int .i64 l4], .int .i64 0]) ∧ Below U.heap.size U w' from fun U Zq la => by
    have := read_any sa R2.1 R1.2.1 U la.ar.vw (Tb.up (HTB.out.on la.bl) la.sz) (EvS.up (EvS.on HEV.out la.bl (Nat.le_refl _)) la.sz)
    rw [HLW.out.1] at this
    exact this)
  have HR2x := hid (show ∀ U Zq, LA w1 U Zq sa R2.1 → Calls Tryz.prog 35 #[.pointer (some ⟨sa, 0, none⟩), .int .i64 R2.2.1] U fun e w' => e = .returned (.tuple #[.agg #[.int .i64 m0, .int .i64 m1, .int .i64 m2, .int .i64 m3, .int .i64 m4], .int .i64 0]) ∧ Below U.heap.size U w' from fun U Zq la => by
    have := read_any sa R2.1 R2.2.1 U la.ar.vw (Tb.up (HTB.out.on la.bl) la.sz) (EvS.up (EvS.on HEV.out la.bl (Nat.le_refl _)) la.sz)
    rw [HLW.out.2.1] at this
    exact this)
  obtain ⟨bl, hbl⟩ : ∃ b, b = ([l0, l1, l2, l3, l4] == [m0, m1, m2, m3, m4]) := ⟨_, rfl⟩
  have hx : (R1.2.1 == R2.2.1) = bl := by rw [hbl, Bool.eq_iff_iff, beq_iff_eq, beq_iff_eq]; exact HLW.out.2.2
  have heq : ∀ W, (binOp .eql 58 (.agg #[.int .i64 l0, .int .i64 l1, .int .i64 l2, .int .i64 l3, .int .i64 l4]) (.agg #[.int .i64 m0, .int .i64 m1, .int .i64 m2, .int .i64 m3, .int .i64 m4])).run Tryz.prog W = .ok (.bool bl) W := fun W => by
    rw [hbl]
    exact run_eql_arr (P := Tryz.prog) W 5 Tryz.underlying58 Tryz.underlying3 (fun W => Tryz.sizeOf3 W) [l0, l1, l2, l3, l4] [m0, m1, m2, m3, m4] rfl rfl
  have hel : ∀ W, (binOp .eql 58 (.agg #[.int .i64 l0, .int .i64 l1, .int .i64 l2, .int .i64 l3, .int .i64 l4]) (.agg #[.int .i64 l0, .int .i64 l1, .int .i64 l2, .int .i64 l3, .int .i64 l4])).run Tryz.prog W = .ok (.bool true) W := fun W => by
    have := run_eql_arr (P := Tryz.prog) W 5 Tryz.underlying58 Tryz.underlying3 (fun W => Tryz.sizeOf3 W) [l0, l1, l2, l3, l4] [l0, l1, l2, l3, l4] rfl rfl
    rw [beq_self_eq_true] at this
    exact this
  have hem : ∀ W, (binOp .eql 58 (.agg #[.int .i64 m0, .int .i64 m1, .int .i64 m2, .int .i64 m3, .int .i64 m4]) (.agg #[.int .i64 m0, .int .i64 m1, .int .i64 m2, .int .i64 m3, .int .i64 m4])).run Tryz.prog W = .ok (.bool true) W := fun W => by
    have := run_eql_arr (P := Tryz.prog) W 5 Tryz.underlying58 Tryz.underlying3 (fun W => Tryz.sizeOf3 W) [m0, m1, m2, m3, m4] [m0, m1, m2, m3, m4] rfl rfl
    rw [beq_self_eq_true] at this
    exact this
  clear hbl HLW eR1 eR2 HR1 HR2
  go_wp2_with fail
  refine (HR1x.out _ _ L2.out).mono ?_
  rintro e w7 ⟨rfl, hb7⟩
  have L7 := hid ((L2.out.ext hb7).alloc (.cells #[.int .i64 l0, .int .i64 l1, .int .i64 l2, .int .i64 l3, .int .i64 l4] 58))
  have HN7 := hid (heap_alloc_new w7 (.cells #[.int .i64 l0, .int .i64 l1, .int .i64 l2, .int .i64 l3, .int .i64 l4] 58))
  clear hb7 xa xb xc xd xe ya yb yc yd ye
  go_wp2_with fail
  refine (HR2x.out _ _ L7.out).mono ?_
  rintro e w8 ⟨rfl, hb8⟩
  have L8 := hid ((L7.out.ext hb8).alloc (.cells #[.int .i64 m0, .int .i64 m1, .int .i64 m2, .int .i64 m3, .int .i64 m4] 58))
  have HN8 := hid ((((Below.refl w8.heap.size w8).alloc (Nat.le_refl _) (.cells #[.int .i64 m0, .int .i64 m1, .int .i64 m2, .int .i64 m3, .int .i64 m4] 58)).block _ (Nat.lt_of_lt_of_le (Array.getElem?_eq_some_iff.1 HN7.out).1 hb8.size)).trans ((hb8.block _ (Array.getElem?_eq_some_iff.1 HN7.out).1).trans HN7.out))
  have HX8 := hid (HC.out _ L8.out.bl)
  have HBF8 := hid (HB1.out.trans (L8.out.bl.mono HB1.out.size))
  obtain ⟨xa, xb, xc, xd, xe⟩ := five_cells HX8.out.1
  obtain ⟨ya, yb, yc, yd, ye⟩ := five_cells HX8.out.2
  obtain ⟨za, zb, zc, zd, ze⟩ := five_cells HN8.out
  clear hb8
  go_wp2_with fail
  go_ret
  exact ⟨rfl, HBF8.out⟩
end Go.Proofs.YtkgobglmkhkbbaaGreatDoor

/- plain: layer 12: chains that go on, and apart. -/
namespace Go.KK
open Go.RowKit
set_option linter.unusedVariables false
set_option linter.unusedSimpArgs false

theorem chF_err (xs : List ND) (start : Int) : ∀ l : List (Int × Int × Int), (chF xs start l).2.2.2 ≠ 0 → (chF xs start l).2.2.1 = [] := by
  intro l
  refine snoc_ind (P := fun l => (chF xs start l).2.2.2 ≠ 0 → (chF xs start l).2.2.1 = []) (fun h => absurd rfl h) (fun l m ih h => ?_) l
  rw [ch_snoc] at h ⊢
  unfold chT at h ⊢
  by_cases h1 : (chF xs start l).2.2.2 = 0
  · rw [if_pos h1] at h ⊢
    by_cases h2 : (chS (chF xs start l).1 (chF xs start l).2.1 m).2.2 = 0
    · rw [if_pos h2] at h; exact absurd rfl h
    · rw [if_neg h2]
  · rw [if_neg h1]; exact ih h1
theorem inB_rise {out : List Int} (h : out.Pairwise (· < ·)) {i : Nat} {x : Int} (hx : out[i]? = some x) : (out.take i).contains x = false := by
  rw [Bool.eq_false_iff]
  intro hc
  have hm : x ∈ out.take i := by simpa using hc
  obtain ⟨j, hj, e⟩ := List.getElem_of_mem hm
  rw [List.length_take] at hj
  rw [List.getElem_take] at e
  obtain ⟨hi, e2⟩ := List.getElem?_eq_some_iff.1 hx
  have := List.pairwise_iff_getElem.1 h j i (by omega) hi (by omega)
  omega
/-- A chain, and the chain of its first messages behind it. -/
theorem goes_law {xs : List ND} (ok : Okay xs) {start : Int} {L : List (Int × Int × Int)} {k : Nat} {s1 s2 : Cs} (h1 : s1 = chF xs start L) (h2 : s2 = chF s1.1 start (L.take k)) (e1 : s1.2.2.2 = 0) :
    s2.2.2.2 = 0 ∧ s2.2.2.1 = s1.2.2.1.take k ∧ s1.2.2.1.length = L.length ∧ ∀ i x, s1.2.2.1[i]? = some x → (s1.2.2.1.take i).contains x = false := by
  have he : (chF xs start L).2.2.2 = 0 := by rw [← h1]; exact e1
  obtain ⟨p1, p2, v, p3⟩ := chF_pre xs start k L he
  have o1 := chF_okay ok start L
  rw [p3] at o1
  have hf := chF_fix xs start (L.take k) v o1 p1
  rw [← p3, ← h1] at hf
  rw [← h2] at hf
  have hr := (ch_rise (by rw [p3]; exact o1) (chF_at xs start L he)).1
  rw [hf]
  refine ⟨rfl, by dsimp only; rw [p2, h1], by rw [h1]; exact chF_len xs start L he, fun i x hx => ?_⟩
  rw [h1] at hx ⊢
  exact inB_rise hr hx
theorem Sl3.take {W : World} {Z : Nat → Prop} {A : Option Addr} {n c : Nat} {L : List (Int × Int × Int)} (h : Sl3 W Z A n c L) {p : Nat} (hp : p ≤ n) : Sl3 W Z A p c (L.take p) := by
  have e : fl3 (L.take p) = (fl3 L).take (p * 3) := by
    unfold fl3
    have hl : ∀ l ∈ L.map fun m => [m.1, m.2.1, m.2.2], l.length = 3 := fun l hl => by
      obtain ⟨m, -, rfl⟩ := List.mem_map.1 hl; rfl
    clear h hp
    induction L generalizing p with
    | nil => simp
    | cons a L ih =>
      cases p with
      | zero => simp
      | succ p =>
        simp only [List.take_succ_cons, List.map_cons, List.flatten_cons]
        rw [show (p + 1) * 3 = [a.1, a.2.1, a.2.2].length + p * 3 by simp; omega, ih (fun l hl' => hl l (by simp [hl']))]
        exact (List.take_length_add_append (p * 3)).symm
  have hnc := h.1.1.nc
  refine ⟨⟨⟨by omega, h.1.1.cm, ?_, fun j u hj => ?_⟩, by rw [List.length_take, h.1.2]; omega⟩, fun b o e' hn => h.2 b o e' (by omega)⟩
  · have := h.1.1.len
    rw [List.length_map] at this
    rw [e, List.length_map, List.length_take, this]
    omega
  · rw [e, List.getElem?_map, List.getElem?_take] at hj
    split at hj
    · exact h.1.1.cells j u (by rw [List.getElem?_map]; exact hj)
    · cases hj
end Go.KK

/- transcript's law: TranscriptGoes walked. -/
namespace Go.Proofs.YtkgobglmkhkbbaaGreatDoor
open Go.RowKit Go.KK Go.Shelf Go.Maps
set_option linter.unusedVariables false
set_option linter.unusedSimpArgs false

/-- The rows of three that came in, as triples. -/
def tr3 (l : List Int) : Int × Int × Int := (l.getD 0 0, l.getD 1 0, l.getD 2 0)
theorem fl3_tr : ∀ (ls : List (List Int)), (∀ l ∈ ls, l.length = 3) → fl3 (ls.map tr3) = ls.flatten
  | [], _ => rfl
  | l :: ls, h => by
    have h1 := h l (by simp)
    match l, h1 with
    | [a, b, c], _ =>
      show [a, b, c] ++ fl3 (ls.map tr3) = [a, b, c] ++ ls.flatten
      rw [fl3_tr ls (fun l hl => h l (by simp [hl]))]
theorem sla_tk {w : World} {A : Option Addr} {n c : Nat} {l : List Int} (h : SlA w 1 A n c (l.map (.int .i64))) (hl : l.length = n) {p : Nat} (hp : p ≤ n) : SlA w 1 A p c ((l.take p).map (.int .i64)) := by
  have := h.nc
  refine ⟨by omega, h.cm, by rw [List.length_map, List.length_take]; omega, fun j u hj => h.cells j u ?_⟩
  rw [List.getElem?_map, List.getElem?_take] at hj
  split at hj
  · rw [List.getElem?_map]; exact hj
  · cases hj
/-- Beyond, of every row of a list: the loop that the laws begin with. -/
theorem sl3_here {W : World} {A : Option Addr} {n c : Nat} {L : List (Int × Int × Int)} (h : SlA W 3 A n c ((fl3 L).map (.int .i64))) (hn : L.length = n) {j : Nat} (hj : j < n) : ∃ b off m, A = some ⟨b, off, none⟩ ∧ L[j]? = some m ∧ W.cell? ⟨b, off + j * 3, none⟩ = some (.int .i64 m.1) ∧ W.cell? ⟨b, off + j * 3 + 1, none⟩ = some (.int .i64 m.2.1) ∧ W.cell? ⟨b, off + j * 3 + 2, none⟩ = some (.int .i64 m.2.2) := by
  have hp : 0 < ((fl3 L).map (Value.int .i64)).length := by rw [h.len]; omega
  obtain ⟨b1, o1, e1, hc1⟩ := h.cells 0 _ (List.getElem?_eq_getElem hp)
  exact Sl3.at (Z := fun _ => False) ⟨⟨h, hn⟩, fun b o e h' => by
    rw [e] at e1
    injection e1 with e1
    injection e1 with e1 e2
    subst e1
    exact ⟨block_lt_of_cell hc1, fun h => h⟩⟩ hj
set_option maxHeartbeats 8000000 in
set_option maxRecDepth 100000 in
theorem goes_go (start : Int) (A : Option Addr) (n c : Nat) (L : List (Int × Int × Int)) (k : Int) (w : World) (hst : I64 start) (hl : SlA w 3 A n c ((fl3 L).map (.int .i64))) (hn : L.length = n) (hi : ∀ m ∈ L, I64 m.1 ∧ I64 m.2.1 ∧ I64 m.2.2) (hk : I64 k) (hT : Tb w.heap.size w) (hE : EvS w.heap.size w) :
    Calls Tryz.prog 13 #[.int .i64 start, .slice A n c, .int .i64 k] w fun e w' => e = .returned (.bool true) ∧ Below w.heap.size w w' := by
  obtain ⟨i0, hi0, hz0, hz1, hz2⟩ := info_parts Tryz.infoInt
  have HLV := hid (live12_any w hT hE)
  have HT := hid hT; have HL := hid hl; have HI := hid hi; have HN := hid hn
  clear hT hE hl hi hn
  go_enter Tryz.func13, Tryz.ntmps13
  go_wp2_with fail
  refine HLV.out.mono ?_
  rintro e w1 ⟨rfl, b1⟩
  have HB1 := hid b1
  have HT1 := hid (show Tb w1.heap.size w1 from Tb.up (HT.out.on b1) b1.size)
  have HL1 := hid (HL.out.ext b1)
  clear b1 HLV HT HL
  by_cases hn40 : 40 < n
  · have hn1 : (40 : Int) < (n : Int) := by omega
    clear hn40
    go_wp2_with fail
    go_ret
    exact ⟨rfl, HB1.out⟩
  have hn1 : ¬ (40 : Int) < (n : Int) := by omega
  have hn2 : n ≤ 40 := by omega
  clear hn40
  have HBY := hid (beyond_any 10 (some ⟨w1.heap.size, 0, none⟩) 1 1 [start] (w1.alloc (.cells #[.int .i64 start] 3)) (sla_row #[.int .i64 start] (by unfold maxLen; simp)) (by omega))
  have HBA := hid (show Below w1.heap.size w1 (w1.alloc (.cells #[.int .i64 start] 3)) from (Below.refl _ _).alloc (Nat.le_refl _) _)
  go_wp2_with fail
  refine HBY.out.mono ?_
  rintro e w2 ⟨⟨b, rfl⟩, hw⟩
  subst hw
  rcases b with _ | _
  rotate_left
  · go_wp2_with fail
    go_ret
    exact ⟨rfl, HB1.out.trans (HBA.out.mono HB1.out.size)⟩
  have HB2 := hid (HB1.out.trans (HBA.out.mono HB1.out.size))
  have HT2 := hid (show Tb (w1.alloc (.cells #[.int .i64 start] 3)).heap.size (w1.alloc (.cells #[.int .i64 start] 3)) from Tb.up (HT1.out.on HBA.out) HBA.out.size)
  have HL2 := hid (HL1.out.ext HBA.out)
  clear HB1 HT1 HL1 HBA HBY
  go_wp2_with fail
  generalize w1.alloc (.cells #[.int .i64 start] 3) = w2 at *
  go_loopw [29] (fun v wr => ∃ j : Nat, v = .int .i64 j ∧ j ≤ n ∧ Hid (Below w2.heap.size w2 wr)) (fun v _ => n - (intOf v).toNat)
  case atStart => exact ⟨0, rfl, Nat.zero_le _, hid (Below.refl _ _)⟩
  case round =>
    obtain ⟨j, hv, hj, HBW⟩ := hrel
    subst hv
    by_cases hlt : j < n
    · obtain ⟨b, off, m, rfl, hm, c0, c1, c2⟩ := sl3_here (HL2.out.ext HBW.out) HN.out hlt
      obtain ⟨m1, m2, m3⟩ := m
      dsimp only at c0 c1 c2
      clear hm
      have hlt' : (j : Int) < (n : Int) := by omega
      have HLT := hid hlt
      have HBY := hid (beyond_any 10 (some ⟨wr.heap.size, 0, none⟩) 3 3 [m1, m2, m3] (wr.alloc (.cells #[.int .i64 m1, .int .i64 m2, .int .i64 m3] 39)) (sla_row #[.int .i64 m1, .int .i64 m2, .int .i64 m3] (by unfold maxLen; simp)) (by omega))
      have HB3 := hid (HBW.out.alloc HBW.out.size (.cells #[.int .i64 m1, .int .i64 m2, .int .i64 m3] 39))
      clear hlt
      go_wp2_with fail
      refine HBY.out.mono ?_
      rintro e w3 ⟨⟨b, rfl⟩, hw⟩
      subst hw
      rcases b with _ | _
      rotate_left
      · go_wp2_with fail
        go_ret
        exact ⟨rfl, HB2.out.trans (HB3.out.mono HB2.out.size)⟩
      go_wp2_with fail
      go_roundw
      case rel => exact ⟨j + 1, by go_num, by have := HLT.out; omega, HB3⟩
      case measure => have := HLT.out; simp [intOf]; omega
    · obtain rfl : j = n := by omega
      have hlt' : ¬ (j : Int) < (j : Int) := by omega
      have HT3 := hid (show Tb wr.heap.size wr from Tb.up (HT2.out.on HBW.out) HBW.out.size)
      have HL3 := hid (HL2.out.ext HBW.out)
      have HB3 := hid (HB2.out.trans (HBW.out.mono HB2.out.size))
      clear hlt HBW HL2 HT2 HB2 hj
      go_wp2_with fail
      refine (two12_any wr HT3.out).mono ?_
      rintro e w4 ⟨sa, sb, Z, Z', rfl, htw⟩
      have L4 := hid htw.la; have HOK := hid htw.la.ar.ok
      clear htw
      have HS4 := hid (Sl3.of_in HL3.out HN.out L4.out)
      obtain ⟨s1, hs1⟩ : ∃ s1 : Cs, s1 = chF (atoms 10) start L := ⟨_, rfl⟩
      have HCH := hid (l_chain L4.out HT3.out hst HS4.out (by omega) HI.out)
      rw [← hs1] at HCH
      have H1 := hid hs1
      clear hs1
      go_wp2_with fail
      refine HCH.out.mono ?_
      rintro e w5 ⟨Z5, v1, rfl, l5, o5, z5, t5⟩
      have L5 := hid l5; have O5 := hid o5
      have M5 := hid (Mv.mk t5 z5)
      clear l5 o5 z5 t5 HCH
      obtain ⟨X1, n1, out, er1⟩ := s1
      dsimp only at L5 O5
      obtain ⟨A1, c1, hv1, -⟩ := O5.out.sla
      subst hv1
      by_cases e1 : er1 = 0
      rotate_left
      · have hne : (er1 != 0) = true := bne_iff_ne.2 e1
        have hlen : out.length = 0 := by
          have := chF_err (atoms 10) start L (by rw [← H1.out]; exact e1)
          rw [← H1.out] at this
          rw [show out = [] from this]; rfl
        rw [hlen]
        clear e1
        go_wp2_with fail
        go_ret
        exact ⟨rfl, HB3.out.trans (L5.out.bl.mono HB3.out.size)⟩
      subst e1
      obtain ⟨kk, hkk, hkn⟩ : ∃ kk : Nat, (wrap64 (wrap64 (k.tmod (↑j + 1) + ↑j) + 1)).tmod (↑j + 1) = (kk : Int) ∧ kk ≤ j := by
        have b1 := Int.tmod_lt_of_pos k (show (0 : Int) < (j : Int) + 1 by omega)
        have b2 : -((j : Int) + 1) < k.tmod ((j : Int) + 1) := by
          have := Int.lt_tmod_of_pos k (show (0 : Int) < (j : Int) + 1 by omega)
          omega
        have w1 : wrap64 (k.tmod ((j : Int) + 1) + j) = k.tmod ((j : Int) + 1) + j := by unfold wrap64; omega
        have w2 : wrap64 (k.tmod ((j : Int) + 1) + j + 1) = k.tmod ((j : Int) + 1) + j + 1 := by unfold wrap64; omega
        rw [w1, w2]
        have c1 := Int.tmod_lt_of_pos (k.tmod ((j : Int) + 1) + j + 1) (show (0 : Int) < (j : Int) + 1 by omega)
        have c2 := Int.tmod_nonneg ((j : Int) + 1) (show (0 : Int) ≤ k.tmod ((j : Int) + 1) + j + 1 by omega)
        exact ⟨((k.tmod ((j : Int) + 1) + j + 1).tmod ((j : Int) + 1)).toNat, by omega, by omega⟩
      have HKN := hid hkn
      have HS5 := hid (Sl3.take (Sl3.mv HS4.out M5.out) hkn)
      obtain ⟨s2, hs2⟩ : ∃ s2 : Cs, s2 = chF X1 start (L.take kk) := ⟨_, rfl⟩
      have HCH := hid (l_chain L5.out HT3.out hst HS5.out (by omega) (fun m hm => HI.out m (List.mem_of_mem_take hm)))
      rw [← hs2] at HCH
      have HGL := hid (goes_law HOK.out H1.out hs2 rfl)
      obtain ⟨X2, n2, out2, er2⟩ := s2
      obtain ⟨g1, g2, g3, g4⟩ := HGL.out
      dsimp only at g1 g2 g3 g4 HCH
      subst g1
      subst g2
      have hol : out.length = j := g3.trans HN.out
      have htl : (out.take kk).length = kk := by rw [List.length_take, hol]; omega
      have HG4 := hid g4; have HOL := hid hol; have HTL := hid htl
      have O5 := hid (show OwR w5 Z5 w4.heap.size (.slice A1 j c1) out by have := O5.out; rw [hol] at this; exact this)
      rw [hol]
      have hc1 : kk ≤ c1 := by
        obtain ⟨A', c', e', hs⟩ := O5.out.sla
        injection e' with _ _ e3
        have := hs.nc
        omega
      have hcA : kk ≤ c := by have := HS4.out.1.1.nc; omega
      have hsl := run_cut_to6 (P := Tryz.prog) (A := A) (n := j) (c := c) Tryz.underlying77 (fun W => Tryz.sizeOf39 W) hcA
      have hsx := run_cut_to6 (P := Tryz.prog) (A := A1) (n := j) (c := c1) Tryz.underlying22 (fun W => Tryz.sizeOf3 W) hc1
      clear g3 g4 hol htl hs2 HGL hkn
      go_wp2_with fail
      refine HCH.out.mono ?_
      rintro e w6 ⟨Z6, v2, rfl, l6, o6, z6, t6⟩
      have L6 := hid l6; have O6 := hid o6
      have O1 := hid (O5.out.mv (Mv.mk t6 z6))
      clear l6 o6 z6 t6 HCH O5
      obtain ⟨A2, c2, hv2, hsa2⟩ := O6.out.sla
      rw [HTL.out] at hv2 hsa2
      subst hv2
      obtain ⟨A1', c1', e1', hsa1⟩ := O1.out.sla
      rw [HOL.out] at e1' hsa1
      injection e1' with ea eb ec
      subst ea; subst ec
      have HSA1 := hid hsa1; have HSA2 := hid hsa2
      clear hsa1 hsa2 eb
      have HBF := hid (HB3.out.trans (L6.out.bl.mono HB3.out.size))
      go_wp2_with fail
      refine (same_ints A2 kk c2 (out.take kk) A1 kk c1 (out.take kk) w6 HSA2.out (sla_tk HSA1.out HOL.out HKN.out) (by have := HKN.out; omega) (by have := HKN.out; omega)).mono ?_
      rintro e w7 ⟨rfl, q7, rfl⟩
      rw [beq_self_eq_true]
      have HD7 := hid (show Below w6.heap.size w6 (w6.drewN q7) from below_drewN (Below.refl _ _) q7)
      clear hsl hsx hkk
      go_wp2_with fail
      generalize w6.drewN q7 = w7 at *
      go_loopw [97, 16] (fun v _ wr2 => ∃ j2 : Nat, v = .int .i64 j2 ∧ j2 ≤ j ∧ Hid (Below w6.heap.size w6 wr2)) (fun v _ _ => j - (intOf v).toNat)
      case atStart => exact ⟨0, rfl, Nat.zero_le _, HD7⟩
      case round =>
        clear HD7
        obtain ⟨j2, hv, hj2, HB7⟩ := hrel
        subst hv
        by_cases hlt : j2 < j
        · have hlt' : (j2 : Int) < (j : Int) := by omega
          have HLT := hid hlt
          have HX7 := hid (HSA1.out.ext HB7.out)
          obtain ⟨b, off, x, rfl, hx, c0⟩ := HX7.out.elemI hlt
          have hsx := run_cut_to6 (P := Tryz.prog) (A := some ⟨b, off, none⟩) (n := j) (c := c1) Tryz.underlying22 (fun W => Tryz.sizeOf3 W) (p := j2) (by have := HX7.out.nc; omega)
          have hct := HG4.out j2 x hx
          have HIN := hid (fun U (hu : SlA U 1 (some ⟨b, off, none⟩) j2 c1 ((out.take j2).map (.int .i64))) => in12_any (some ⟨b, off, none⟩) j2 c1 (out.take j2) x U hu (by omega))
          unfold inL at HIN
          rw [hct] at HIN
          have HSX := hid (sla_tk HX7.out HOL.out (Nat.le_of_lt hlt))
          clear hx hct hlt
          go_wp2_with fail
          go_quiet ((go_at_call 46; exact Calls.quiet_of_same (HIN.out _ (by first | exact HSX.out | exact HSX.out.ext (below_drewN (Below.refl _ _) _)))))
          go_wp2_with fail
          go_roundw
          case rel => exact ⟨j2 + 1, by go_num, by have := HLT.out; omega, hid (HB7.out.trans ((below_drewN (Below.refl _ _) _).mono HB7.out.size))⟩
          case measure => have := HLT.out; simp [intOf]; omega
        · obtain rfl : j2 = j := by omega
          have hlt' : ¬ (j2 : Int) < (j2 : Int) := by omega
          go_wp2_with fail
          go_ret
          exact ⟨rfl, HBF.out.trans (HB7.out.mono HBF.out.size)⟩
theorem tr3_i64 {ls : List (List Int)} (hls : ∀ l ∈ ls, l.length = 3 ∧ ∀ x ∈ l, I64 x) : ∀ m ∈ ls.map tr3, I64 m.1 ∧ I64 m.2.1 ∧ I64 m.2.2 := fun m hm => by
  obtain ⟨l, hl, rfl⟩ := List.mem_map.1 hm
  obtain ⟨h3, hx⟩ := hls l hl
  match l, h3, hx with
  | [a, b, c], _, hx => exact ⟨hx a (by simp), hx b (by simp), hx c (by simp)⟩
theorem goes_rows (start : Int) (A : Option Addr) (n c : Nat) (ls : List (List Int)) (k : Int) (w : World) (hst : I64 start) (hs : SlA w 3 A n c (ls.flatten.map (.int .i64))) (hn : ls.length = n) (hls : ∀ l ∈ ls, l.length = 3 ∧ ∀ x ∈ l, I64 x) (hk : I64 k) (hT : Tb w.heap.size w) (hE : EvS w.heap.size w) :
    Calls Tryz.prog 13 #[.int .i64 start, .slice A n c, .int .i64 k] w fun e w' => e = .returned (.bool true) ∧ Below w.heap.size w w' :=
  goes_go start A n c (ls.map tr3) k w hst (by rw [fl3_tr ls fun l hl => (hls l hl).1]; exact hs) (by rw [List.length_map, hn]) (tr3_i64 hls) hk hT hE
end Go.Proofs.YtkgobglmkhkbbaaGreatDoor

