import Derived.Test.YtadbgmfdbahcbaaDoorZR6
import Derived.Test.YtadbgmfdbahcbaaDoorZG8
/- the document's layer 5: what a shower keeps; name, number. -/
namespace Go.Proofs.YtadbgmfdbahcbaaDoor
open Go.RowKit Go.KK Go.Shelf Go.Maps
set_option linter.unusedVariables false
set_option linter.unusedSimpArgs false

/-- All blocks but ss and rows of numbers are as they were. -/
def FrS (ss : Nat) (w w' : World) : Prop := ∀ k cs T fz, w.heap[k]? = some (.cells cs T fz) → T ≠ 3 → k ≠ ss → w'.heap[k]? = w.heap[k]?
theorem FrS.refl (ss : Nat) (w : World) : FrS ss w w := fun _ _ _ _ _ _ _ => rfl
theorem FrS.trans {ss : Nat} {w w' w'' : World} (h : FrS ss w w') (k : FrS ss w' w'') : FrS ss w w'' := fun i cs T fz e hT hb => (k i cs T fz ((h i cs T fz e hT hb).trans e) hT hb).trans (h i cs T fz e hT hb)
theorem FrS.below {ss : Nat} {w w' : World} (h : Below w.heap.size w w') : FrS ss w w' := fun i cs T fz e _ _ => h.block i (by
  rcases Nat.lt_or_ge i w.heap.size with h' | h'
  · exact h'
  · simp [Array.getElem?_eq_none h'] at e)
theorem FrS.cell {ss : Nat} {w w' : World} {k o : Nat} {cs : Array Value} {T : TypeId} {fz : Nat × Nat} {v : Value} (h : FrS ss w w') (e : w.heap[k]? = some (.cells cs T fz)) (hT : T ≠ 3) (hb : k ≠ ss) (hc : w.cell? ⟨k, o, none⟩ = some v) : w'.cell? ⟨k, o, none⟩ = some v :=
  (World.cell?_of_block (a := ⟨k, o, none⟩) (h k cs T fz e hT hb)).trans hc
/-- A shower at work. -/
structure ShS (W1 w : World) (ss sb mb : Nat) (xs : List ND) (num : List Int) : Prop where
  low : Below W1.heap.size W1 w
  box : ∃ v, w.heap[ss]? = some (.cells #[.pointer (some ⟨sb, 0, none⟩), .slice (some ⟨mb, 0, none⟩) xs.length xs.length, v] 77 (0, 0)) ∧ w.ownsRow (ss + 1) 3 1 v num.length (num.map (.int .i64))
  lo : W1.heap.size ≤ ss ∧ ss < w.heap.size
  q : NumQ xs num
  le : num.length ≤ 100000
section
variable {W1 w w' : World} {ss sb mb : Nat} {xs : List ND} {num : List Int}
theorem ShS.ext (h : ShS W1 w ss sb mb xs num) (hb : Below w.heap.size w w') : ShS W1 w' ss sb mb xs num := by
  obtain ⟨v, h1, h2⟩ := h.box
  obtain ⟨l1, l2⟩ := h.lo
  exact ⟨h.low.trans (hb.mono h.low.size), ⟨v, (hb.block ss l2).trans h1, own_ext h2 hb⟩, ⟨l1, Nat.lt_of_lt_of_le l2 hb.size⟩, h.q, h.le⟩
theorem ShS.cells (h : ShS W1 w ss sb mb xs num) : ∃ A c, w.cell? ⟨ss, 0, none⟩ = some (.pointer (some ⟨sb, 0, none⟩)) ∧ w.cell? ⟨ss, 1, none⟩ = some (.slice (some ⟨mb, 0, none⟩) xs.length xs.length) ∧ w.cell? ⟨ss, 2, none⟩ = some (.slice A num.length c) ∧ w.frozen? ⟨ss, 2, none⟩ = false ∧ w.ownsRow (ss + 1) 3 1 (.slice A num.length c) num.length (num.map (.int .i64)) ∧ w.heap[ss]? = some (.cells #[.pointer (some ⟨sb, 0, none⟩), .slice (some ⟨mb, 0, none⟩) xs.length xs.length, .slice A num.length c] 77 (0, 0)) := by
  obtain ⟨v, h1, h2⟩ := h.box
  obtain ⟨A, c, rfl, -⟩ := SlA.owned h2
  refine ⟨A, c, ?_, ?_, ?_, Lib.frozen_of_heap h1 2, h2, h1⟩ <;> (rw [Lib.cell_of_heap h1]; rfl)
theorem ShS.put {w5 : World} {t : Int} {v5 : Value} {A : Option Addr} {c : Nat} {o : Obj} (h : ShS W1 w ss sb mb xs num) (hq : NumQ xs (num ++ [t])) (hle : num.length + 1 ≤ 100000) (hbx : w.heap[ss]? = some (.cells #[.pointer (some ⟨sb, 0, none⟩), .slice (some ⟨mb, 0, none⟩) xs.length xs.length, .slice A num.length c] 77 (0, 0))) (how : w.ownsRow (ss + 1) 3 1 (.slice A num.length c) num.length (num.map (.int .i64)))
    (ho : w5.ownsRow (ss + 1) 3 1 v5 (num.length + 1) (num.map (.int .i64) ++ [.int .i64 t])) (hg : (w.alloc o).grownBy w5 (Value.slice A num.length c).ownBlock) :
    ShS W1 (w5.setCell ⟨ss, 2, none⟩ v5) ss sb mb xs (num ++ [t]) ∧ FrS ss w (w5.setCell ⟨ss, 2, none⟩ v5) := by
  obtain ⟨l1, l2⟩ := h.lo
  have hs1 : (w.alloc o).heap.size = w.heap.size + 1 := by simp
  have hs2 := hg.size
  have low : ∀ k, k < w.heap.size → (Value.slice A num.length c).ownBlock ≠ some k → w5.heap[k]? = w.heap[k]? := fun k hk hn => (hg.block k (by omega) (fun e => hn e.symm)).trans (Lib.alloc_old w _ k hk)
  have hne : (Value.slice A num.length c).ownBlock ≠ some ss := fun e => by have := (how.lt ss e).1; omega
  have hb5 := (low ss l2 hne).trans hbx
  refine ⟨⟨?_, ⟨v5, ?_, ?_⟩, ⟨l1, by simpa using Nat.lt_of_lt_of_le l2 (by omega)⟩, hq, by rw [List.length_append]; exact hle⟩, ?_⟩
  · have hb := (h.low.alloc h.low.size o).grown hg (by have := h.low.size; omega) fun k hk => by have := (how.lt k hk).1; omega
    exact hb.setCell (p := ⟨ss, 2, none⟩) l1 _
  · simp [World.setCell, Array.getElem?_modify, hb5]
  · rw [List.length_append, List.map_append]
    refine own_block ho fun k hk => Below.heap_setCell _ _ _ _ ?_
    have := (ho.lt k hk).1
    show k ≠ ss
    omega
  · intro k cs T fz e hT hk
    have hkl : k < w.heap.size := by
      rcases Nat.lt_or_ge k w.heap.size with h' | h'
      · exact h'
      · simp [Array.getElem?_eq_none h'] at e
    rw [Below.heap_setCell w5 ⟨ss, 2, none⟩ v5 k hk]
    refine low k hkl fun e2 => ?_
    rcases how.2 with ⟨e3, _⟩ | ⟨g, cap, cur, e3, _, hh, _⟩
    · rw [e3] at e2; cases e2
    · rw [e3] at e2
      injection e2 with e2
      simp only at e2
      subst e2
      rw [hh] at e
      injection e with e
      injection e with _ e _
      exact hT e.symm
end
theorem rname_any (k : Nat) (h1 : 1 ≤ k) (h2 : k ≠ 2) (h12 : k ≤ 12) (w : World) : Calls Tryd.prog 52 #[.int .i64 k] w fun e w' => e = .returned (strV (nameP (k : Int))) ∧ Below w.heap.size w w' := by
  have hc := name_cellP (w := w) (T := 9) h1 h2 h12
  have hk0 : (0 : Int) ≤ (k : Int) := by omega
  have hk13 : (k : Int) < 13 := by omega
  unfold strV
  generalize (⟨(nameP (k : Int)).toArray⟩ : ByteArray) = S at *
  go_enter Tryd.func52, Tryd.ntmps52
  go_wp2_with fail
  go_ret
  exact ⟨rfl, (Below.refl _ _).alloc (Nat.le_refl _) _⟩
theorem num_at {a : List Int} {t : Int} {j : Nat} (h : a[j]? = some t) (hn : ∀ i : Nat, i < j → a[i]? ≠ some t) : numN a t = j ∧ numA a t = a := by
  have hm := List.mem_of_getElem? h
  unfold numN numA
  rw [if_pos hm, if_pos hm]
  refine ⟨?_, rfl⟩
  have hl := List.idxOf_lt_length_of_mem hm
  have hg : a[a.idxOf t]? = some t := by rw [List.getElem?_eq_getElem hl, List.getElem_idxOf hl]
  rcases Nat.lt_trichotomy (a.idxOf t) j with h1 | h1 | h1
  · exact absurd hg (hn _ h1)
  · exact h1
  · have hjl := (List.getElem?_eq_some_iff.1 h).1
    have hbe : a[j]? = some t := h
    have := List.not_of_lt_findIdx (p := (· == t)) (xs := a) (i := j) h1
    obtain ⟨_, e⟩ := List.getElem?_eq_some_iff.1 h
    rw [e] at this
    simp at this
set_option maxHeartbeats 4000000 in
set_option maxRecDepth 100000 in
theorem rnumber_any (W1 w : World) (ss sb mb : Nat) (xs : List ND) (num : List Int) (t : Int) (h : ShS W1 w ss sb mb xs num) (ht : hasB xs t = true) (hx : xs.length ≤ 1000) :
    Calls Tryd.prog 54 #[.pointer (some ⟨ss, 0, none⟩), .int .i64 t] w fun e w' => e = .returned (strV (35 :: Lib.itoa (numN num t : Nat))) ∧ ShS W1 w' ss sb mb xs (numA num t) ∧ FrS ss w w' := by
  obtain ⟨i0, hi, hz0, hz1, hz2⟩ := info_parts Tryd.infoInt
  obtain ⟨A, c, c0, c1, c2, f2, hrow, hbx⟩ := h.cells
  have H := hid h; have HT := hid ht; have HROW := hid hrow; have HBX := hid hbx
  have HSL := hid (SlA.of_own hrow).2
  have hnl : num.length ≤ 1000 := Nat.le_trans h.q.len hx
  have hssw : ss + 1 ≤ w.heap.size := h.lo.2
  clear h ht hrow hbx
  generalize hnn : num.length = n at *
  have HNN := hid hnn
  clear hnn
  go_enter Tryd.func54, Tryd.ntmps54
  go_wp2_with fail
  go_loopw [12] (fun v wr => ∃ j : Nat, v = .int .i64 j ∧ j ≤ n ∧ Hid (∀ i : Nat, i < j → num[i]? ≠ some t) ∧ wr = w) (fun v _ => n - (intOf v).toNat)
  case atStart => exact ⟨0, rfl, Nat.zero_le _, hid fun i hi => by omega, rfl⟩
  case round =>
    obtain ⟨j, hv, hj, HJ, hw⟩ := hrel
    subst hv; subst hw
    by_cases hlt : j < n
    · have hlt' : (j : Int) < (n : Int) := by omega
      obtain ⟨b, o, z, rfl, hz, hc⟩ := HSL.out.elemI hlt
      have HZ := hid hz
      clear hz
      by_cases hzt : z = t
      · have hzt' : (z == t) = true := beq_iff_eq.2 hzt
        have HN := hid (num_at (hzt ▸ HZ.out) HJ.out)
        have HDG := hid (digits_any (j : Int) wr (by omega) (by omega))
        have HIT := hid (show (digS j).size ≤ 21 from digS_le j (by omega))
        have HSE := hid (show (⟨#[35]⟩ : ByteArray) ++ digS j = ⟨(35 :: Lib.itoa (numN num t : Nat)).toArray⟩ by
          rw [HN.out.1, itoa_nat (by omega), Int.toNat_natCast]
          apply str_ext
          rw [ByteArray.data_append, Array.toList_append, digS_data]
          rfl)
        clear hzt
        go_wp2_with fail
        refine HDG.out.mono ?_
        rintro e w2 ⟨rfl, q, rfl⟩
        rw [Int.toNat_natCast]
        generalize digS j = S at *
        have hcat : ¬ 9223372036854775807 < 1 + S.size := by have := HIT.out; omega
        go_wp2_with fail
        go_ret
        refine ⟨by rw [HSE.out]; rfl, ?_, FrS.below (below_drewN (Below.refl _ _) q)⟩
        rw [HN.out.2]
        exact H.out.ext (below_drewN (Below.refl _ _) q)
      · have hzt' : (z == t) = false := beq_eq_false_iff_ne.2 hzt
        have HF := hid (show ∀ i : Nat, i < j + 1 → num[i]? ≠ some t from fun i hi => by
          rcases Nat.lt_or_ge i j with h | h
          · exact HJ.out i h
          · obtain rfl : i = j := by omega
            rw [HZ.out]
            intro e
            injection e with e
            exact hzt e)
        clear hzt
        go_wp2_with fail
        go_roundw
        case rel => exact ⟨j + 1, by go_num, by omega, HF, by first | rfl | trivial⟩
        case measure => simp [intOf]; omega
    · have hjn : j = n := by omega
      subst hjn
      have hlt' : ¬ ((j : Nat) : Int) < (j : Int) := by omega
      have HNM := hid (show t ∉ num from fun hm => by
        have hl := List.idxOf_lt_length_of_mem hm
        exact HJ.out (num.idxOf t) (by rw [← HNN.out]; exact hl) (by rw [List.getElem?_eq_getElem hl, List.getElem_idxOf hl]))
      clear hlt
      go_upto_region 8 with (first
        | (at_builtin; refine wpList_append_sl _ rfl _ _ 23 rfl (ss + 1) 3 i0 (.int .i64 0) 1 8 Tryd.underlying23 hi hz0 hz1 hz2 rfl (by decide) (.slice A j c) j (num.map (.int .i64)) rfl (HROW.out.alloc _) _ 1 1 [.int .i64 t] rfl (SlA.lit1 _) (one_int _ _) (by unfold maxLen; omega) (by omega) (by simp; omega) ?_; intro v5 w5 own5 gr5 loc5; obtain ⟨A5, c5, rfl, -⟩ := SlA.owned own5; have HO5 := hid own5; have HG5 := hid gr5; have hb5 : w5.heap[ss]? = some (.cells #[.pointer (some ⟨sb, 0, none⟩), .slice (some ⟨mb, 0, none⟩) xs.length xs.length, .slice A j c] 77 (0, 0)) := (gr5.block ss (by simp; omega) (fun e => by have := (HROW.out.lt ss e.symm).1; omega)).trans ((Lib.alloc_old _ _ ss (by omega)).trans HBX.out); have f5 : w5.frozen? ⟨ss, 2, none⟩ = false := Lib.frozen_of_heap hb5 2; have c5' : w5.cell? ⟨ss, 2, none⟩ = some (.slice A j c) := (by rw [Lib.cell_of_heap hb5]; rfl); clear own5 gr5 loc5 hb5)
        | fail)
      have HP := hid (show ShS W1 (w5.setCell ⟨ss, 2, none⟩ (.slice A5 (j + 1) c5)) ss sb mb xs (num ++ [t]) ∧ FrS ss wr (w5.setCell ⟨ss, 2, none⟩ (.slice A5 (j + 1) c5)) from by
        have hn := HNN.out
        have hq := H.out.q.num HT.out
        unfold numA at hq
        rw [if_neg HNM.out] at hq
        exact H.out.put (o := .cells #[.int .i64 t] 3) (A := A) (c := c) hq (by omega) (by rw [hn]; exact HBX.out) (by rw [hn]; exact HROW.out) (by rw [hn]; exact HO5.out) (by rw [hn]; exact HG5.out))
      refine forget (R := fun W => ShS W1 W ss sb mb xs (num ++ [t]) ∧ FrS ss wr W) ?_ HP.out
      clear HP HO5 HG5 c5' f5 c0 c1 c2 f2
      rintro W6 ⟨h6, f6⟩
      have H6 := hid h6; have F6 := hid f6
      obtain ⟨A6, c6, c0, c1, c2, -⟩ := h6.cells
      obtain ⟨N, hN⟩ : ∃ N, N = (num ++ [t]).length := ⟨_, rfl⟩
      rw [← hN] at c2
      have hNj : (N : Int) - 1 = (j : Int) := by rw [hN, List.length_append]; have := HNN.out; simp; omega
      have hw : IntKind.i64.wrap ((N : Int) - 1) = (j : Int) := by rw [hNj, IntKind.wrap_i64]; omega
      have HN := hid (show numN num t = j ∧ numA num t = num ++ [t] by
        unfold numN numA
        rw [if_neg HNM.out, if_neg HNM.out]
        exact ⟨HNN.out, rfl⟩)
      have HDG := hid (digits_any (j : Int) W6 (by omega) (by omega))
      have HIT := hid (show (digS j).size ≤ 21 from digS_le j (by omega))
      have HSE := hid (show (⟨#[35]⟩ : ByteArray) ++ digS j = ⟨(35 :: Lib.itoa (numN num t : Nat)).toArray⟩ by
        rw [HN.out.1, itoa_nat (by omega), Int.toNat_natCast]
        apply str_ext
        rw [ByteArray.data_append, Array.toList_append, digS_data]
        rfl)
      clear h6 f6 hN
      go_wp2_with fail
      refine HDG.out.mono ?_
      rintro e w2 ⟨rfl, q, rfl⟩
      rw [Int.toNat_natCast]
      generalize digS j = S at *
      have hcat : ¬ 9223372036854775807 < 1 + S.size := by have := HIT.out; omega
      go_wp2_with fail
      go_ret
      refine ⟨by rw [HSE.out]; rfl, ?_, F6.out.trans (FrS.below (below_drewN (Below.refl _ _) q))⟩
      rw [HN.out.2]
      exact H6.out.ext (below_drewN (Below.refl _ _) q)
end Go.Proofs.YtadbgmfdbahcbaaDoor

