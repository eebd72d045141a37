/- RatchetGoes, walked. -/
import Derived.Test.YtimdohjlhbpmhaaDoorL3
namespace Go.Proofs.YtimdohjlhbpmhaaDoor
open Go.RowKit Go.KK Go.Shelf
set_option linter.unusedVariables false
set_option linter.unusedSimpArgs false

theorem OwnT.lt {w : World} {base : Nat} {v : Value} {ys : List TN} (h : OwnT w base v ys) : ∀ b, v.ownBlock = some b → b < w.heap.size := by
  rcases h with ⟨rfl, rfl⟩ | ⟨g, cap, qs, rfl, ht⟩
  · intro b e; cases e
  · intro b e; exact (ht.row.lt b e).2
theorem OwnT.kept {w w' : World} {base : Nat} {v : Value} {ys : List TN} {r : Option Nat} (h : OwnT w base v ys) (hg : w.grownBy w' r) (hr : ∀ b, r = some b → b < base) : OwnT w' base v ys := by
  rcases h with h | ⟨g, cap, qs, rfl, ht⟩
  · exact .inl h
  · refine .inr ⟨g, cap, qs, rfl, ht.grown hg (fun e => ?_) (fun j x q hx hq hk => ?_)⟩
    · have := hr g e; have := ht.lt.1; omega
    · rcases hb : q.ownBlock with _ | b
      · exact .inl rfl
      · refine .inr fun e => ?_
        have h1 := hr b e.symm
        have h2 := (((ht.own j x q hx hq).1 hk).1.lt b hb).1
        omega
set_option maxHeartbeats 1000000 in
theorem spoil_keep (v : Value) (base : Nat) (ys : List TN) (w : World) (h : OwnT w base v ys) (hn : ys.length ≤ 600) :
    Calls Tryd.prog 14 #[v] w fun e w' => e = .returned (.tuple #[]) ∧ w.grownBy w' v.ownBlock ∧ Below base w w' := by
  rcases h with ⟨rfl, rfl⟩ | ⟨g, cap, qs, rfl, ht⟩
  · go_enter Tryd.func14, Tryd.ntmps14
    go_wp2
    go_loopw [5] (fun i wr => i = .int .i64 0 ∧ wr = w) (fun i _ => 0)
    case atStart => exact ⟨rfl, rfl⟩
    case round =>
      obtain ⟨hi, hwr⟩ := hrel
      subst hi; subst hwr
      go_wp2
      go_end0
      exact ⟨rfl, World.grownBy.refl _ _, Below.refl _ _⟩
  · have hrow := ht.row
    have HL := hid (ncs_len ht.ql)
    have hgb := ht.lt.1
    generalize ncs ys qs = L0 at *
    have HR := hid hrow
    clear ht hrow
    generalize ys.length = n at *
    go_enter Tryd.func14, Tryd.ntmps14
    go_wp2
    go_loopw [5] (fun i wr => ∃ (j : Nat) (L : List Value), i = .int .i64 j ∧ j ≤ n ∧ Hid (L.length = n * 6) ∧ wr.ownsRow base 25 6 (.slice (some ⟨g, 0, none⟩) n cap) n L ∧ w.grownBy wr (some g) ∧ Below base w wr) (fun i _ => n - (intOf i).toNat)
    case atStart => exact ⟨0, L0, rfl, by omega, hid (by have := HL.out; omega), HR.out, World.grownBy.refl _ _, Below.refl _ _⟩
    case round =>
      obtain ⟨j, L, hi, hj, HLL, hrow, hgr, hbr⟩ := hrel
      subst hi
      have HRow := hid hrow; have HB := hid hbr; have HG := hid hgr
      clear hrow hbr hgr
      by_cases hlt : j < n
      · have h0 : j * 6 < L.length := by have := HLL.out; omega
        have h1 : j * 6 + 1 < L.length := by have := HLL.out; omega
        have c0 := (HRow.out.cellAt (j * 6) (by omega)).trans (List.getElem?_eq_getElem h0)
        have c1 := (HRow.out.cellAt (j * 6 + 1) (by omega)).trans (List.getElem?_eq_getElem h1)
        have f0 := HRow.out.frozenAt (j * 6)
        have f1 := HRow.out.frozenAt (j * 6 + 1)
        generalize L[j * 6] = u0 at c0
        generalize L[j * 6 + 1] = u1 at c1
        clear h0 h1
        go_wp2
        go_roundw
        case rel =>
          have r1 := (HRow.out.stored (j * 6 + 1) (.int .i64 99)).1
          have r2 := (r1.stored (j * 6) (.int .i64 2)).1
          exact ⟨j + 1, _, by go_num, by omega, hid (by simp; exact HLL.out), r2, grown_setCell (grown_setCell HG.out rfl _) rfl _, (HB.out.setCell hgb _).setCell hgb _⟩
        case measure => simp [intOf]; omega
      · go_wp2
        go_end0
        exact ⟨rfl, HG.out, HB.out⟩
set_option maxHeartbeats 4000000 in
theorem goes_any (A : Option Addr) (n c : Nat) (xs : List TN) (i : Int) (l : TN) (B : Option Addr) (d : Nat) (w : World) (ht : Tr w A n c xs) (hl : SlA w 1 B l.u.length d (l.u.map (.int .i64))) (hw : WfT xs) (hT : Tab w) :
    Calls Tryd.prog 4 #[.slice A n c, .int .i64 i, .agg #[.int .i64 l.k, .int .i64 l.i, .int .i64 l.e, .int .i64 l.s, .int .i64 l.h, .slice B l.u.length d]] w fun e w' => e = .returned (.bool true) ∧ Below w.heap.size w w' := by
  have H := hid ht; have HW := hid hw; have HT := hid hT
  have hd := hl.cm
  have HD := hid hd
  have B0 := hid (show Below w.heap.size w (w.alloc (.cells #[.int .i64 l.k, .int .i64 l.i, .int .i64 l.e, .int .i64 l.s, .int .i64 l.h, .slice B l.u.length d] 25)) from (Below.refl _ _).alloc (Nat.le_refl _) _)
  clear ht hl hw hT hd
  go_enter Tryd.func4, Tryd.ntmps4
  go_wp2_with fail
  refine (live_any _ (HT.out.ext B0.out)).mono ?_
  rintro e1 w1 ⟨rfl, b1⟩
  have X1 := hid (show (∀ i, w1.cell? ⟨w.heap.size, i, none⟩ = (#[.int .i64 l.k, .int .i64 l.i, .int .i64 l.e, .int .i64 l.s, .int .i64 l.h, .slice B l.u.length d] : Array Value)[i]?) ∧ w.heap.size < w1.heap.size from ⟨fun i => new_cell b1 i, (below_new (Below.refl _ _) (Nat.le_refl _) b1).2⟩)
  have B1 := hid (below_new (Below.refl _ _) (Nat.le_refl _) b1).1
  have L1 := hid (sla_row (w := w1) (T := 22) #[.slice A n c] (show (1 : Nat) ≤ maxLen by decide))
  have B2 := hid (B1.out.alloc B1.out.size (.cells #[.slice A n c] 22))
  clear b1
  go_wp2_with fail
  refine (few_any _ 1 1 _ [xs] _ L1.out rfl (by omega) (fun j v zs hv hz => ?_)).mono ?_
  · rcases j with _ | j
    · injection hv with hv; injection hz with hz
      subst hv; subst hz
      exact ⟨A, n, c, rfl, H.out.ext B2.out⟩
    · simp at hv
  rintro e2 w2 ⟨rfl, b2⟩
  have X2 := hid (bx_step X1.out.1 (below_one b2) X1.out.2)
  have B3 := hid (B1.out.trans ((below_one b2).mono B1.out.size))
  clear b2
  rcases hf0 : [xs].all fewT with _ | _
  · go_wp2_with fail
    go_ret
    exact ⟨rfl, B3.out⟩
  have HF := hid (few_one hf0)
  clear hf0
  have k5 := X2.out.1 5
  by_cases hlen : 20 < l.u.length
  · have hl1 : (20 : Int) < (l.u.length : Int) := by omega
    go_wp2_with fail
    go_ret
    exact ⟨rfl, B3.out⟩
  have hl1 : ¬ (20 : Int) < (l.u.length : Int) := by omega
  obtain ⟨s1, a1, o1, hx140⟩ := few_shorts HF.out
  have S1 := hid s1; have A1 := hid a1
  have hn : n ≤ 600 := by have := H.out.len; omega
  have HLE := hid (show l.u.length ≤ 20 by omega)
  clear s1 a1 o1 hx140 hlen
  go_wp2_with fail
  refine (copy_any A n c xs _ (H.out.ext B3.out) hn S1.out).mono ?_
  rintro e3 w3 ⟨v3, rs3, rfl, cp3, b3⟩
  obtain ⟨A3, n3, c3, rfl, t3⟩ := cp3.trv
  have hn3 : n3 ≤ 600 := by have := t3.len; have := H.out.len; omega
  have T3 := hid t3
  have X3 := hid (bx_step X2.out.1 b3 X2.out.2)
  have B4 := hid (B3.out.trans (b3.mono B3.out.size))
  clear cp3 b3 t3 k5
  go_wp2_with fail
  refine ((remove_any A n c xs i _ (H.out.ext B4.out) hn (HT.out.ext B4.out) S1.out A1.out).mono fun _ _ h => remS_of h).mono ?_
  rintro e4 w4 ⟨v4, rfl, o4, b4⟩
  obtain ⟨A4, c4, rfl, t4⟩ := o4.shape
  have O4 := hid o4; have T4 := hid t4
  have OL := hid o4.lt
  have C4 := hid b4
  have D4 := hid (B4.out.trans (b4.mono B4.out.size))
  clear o4 t4 b4
  go_wp2_with fail
  refine ((rremove_any A n c xs i _ (H.out.ext D4.out) hn S1.out HW.out A1.out).mono fun _ _ h => remS_of h).mono ?_
  rintro e5 w5 ⟨v5, rfl, o5, b5⟩
  obtain ⟨A5, c5, rfl, t5⟩ := o5.shape
  have O5 := hid (O4.out.ext b5); have U5 := hid (T4.out.ext b5); have T5 := hid t5
  have C5 := hid (C4.out.trans (b5.mono C4.out.size))
  have ZZ := hid b5.size
  have D5 := hid (D4.out.trans (b5.mono D4.out.size))
  clear o5 t5 b5
  have X5 := hid (bx_step X3.out.1 C5.out X3.out.2)
  have k0 := X5.out.1 0; have k1 := X5.out.1 1; have k2 := X5.out.1 2; have k3 := X5.out.1 3; have k4 := X5.out.1 4; have k5 := X5.out.1 5
  go_wp2_with fail
  refine ((update_any A n c xs i l B d _ (H.out.ext D5.out) hn (HT.out.ext D5.out) S1.out A1.out HD.out).mono fun _ _ h => updS_of h).mono ?_
  rintro e6 w6 ⟨v6, rfl, o6, b6⟩
  obtain ⟨A6, c6, rfl, t6⟩ := o6.shape
  have X6 := hid (bx_step X5.out.1 b6 X5.out.2)
  have P6 := hid o6; have V6 := hid t6
  have O6 := hid (O5.out.ext b6); have U6 := hid (U5.out.ext b6); have T6 := hid (T5.out.ext b6)
  have C6 := hid (C5.out.trans (b6.mono C5.out.size))
  have D6 := hid (D5.out.trans (b6.mono D5.out.size))
  clear o6 t6 b6 k0 k1 k2 k3 k4 k5
  have k0 := X6.out.1 0; have k1 := X6.out.1 1; have k2 := X6.out.1 2; have k3 := X6.out.1 3; have k4 := X6.out.1 4; have k5 := X6.out.1 5
  go_wp2_with fail
  refine ((rupdate_any A n c xs i l B d _ (H.out.ext D6.out) hn S1.out HW.out A1.out HD.out).mono fun _ _ h => updS_of h).mono ?_
  rintro e7 w7 ⟨v7, rfl, o7, b7⟩
  obtain ⟨A7, c7, rfl, t7⟩ := o7.shape
  have P7 := hid (P6.out.ext b7); have V7 := hid (V6.out.ext b7); have Y7 := hid t7
  have O7 := hid (O6.out.ext b7); have U7 := hid (U6.out.ext b7); have T7 := hid (T6.out.ext b7)
  have C7 := hid (C6.out.trans (b7.mono C6.out.size))
  clear o7 t7 b7 k0 k1 k2 k3 k4 k5
  obtain ⟨la, sa⟩ := remT_ok (i := i) HF.out
  obtain ⟨lu, su⟩ := updT_ok (i := i) (l := l) HF.out
  have SA := hid sa; have SU := hid su
  clear sa su
  go_wp2_with fail
  refine (rsame_any A4 _ c4 (remT xs i) A5 _ c5 (remT xs i) _ U7.out T7.out la la SA.out SA.out).mono ?_
  rintro e8 w8 ⟨rfl, b8⟩
  rw [sameT_self]
  have P8 := hid (P7.out.ext b8); have V8 := hid (V7.out.ext b8); have Y8 := hid (Y7.out.ext b8)
  have O8 := hid (O7.out.ext b8)
  have C8 := hid (C7.out.trans (b8.mono C7.out.size))
  clear b8
  have he1 : (remE xs i != remE xs i) = false := bne_self_eq_false _
  have he2 : (updE xs i l != updE xs i l) = false := bne_self_eq_false _
  go_wp2_with fail
  refine (rsame_any A6 _ c6 (updT xs i l) A7 _ c7 (updT xs i l) _ V8.out Y8.out lu lu SU.out SU.out).mono ?_
  rintro e9 w9 ⟨rfl, b9⟩
  rw [sameT_self]
  have P9 := hid (P8.out.ext b9)
  have O9 := hid (O8.out.ext b9)
  have C9 := hid (C8.out.trans (b9.mono C8.out.size))
  clear b9
  go_wp2_with fail
  refine (spoil_keep _ _ _ _ O9.out la).mono ?_
  rintro e10 w10 ⟨rfl, g10, b10⟩
  have C10 := hid (C9.out.trans b10)
  have P10 := hid (P9.out.kept g10 (fun b e => Nat.lt_of_lt_of_le (OL.out b e) ZZ.out))
  clear b10 g10
  go_wp2_with fail
  refine (spoil_keep _ _ _ _ P10.out lu).mono ?_
  rintro e11 w11 ⟨rfl, g11, b11⟩
  have C11 := hid (C10.out.trans (b11.mono C5.out.size))
  clear b11 g11
  go_wp2_with fail
  refine (rsame_any A n c xs A3 n3 c3 xs _ (H.out.ext (B4.out.trans (C11.out.mono B4.out.size))) (T3.out.ext C11.out) hn hn3 S1.out S1.out).mono ?_
  rintro e12 w12 ⟨rfl, b12⟩
  rw [sameT_self]
  have B12 := hid ((B4.out.trans (C11.out.mono B4.out.size)).trans (b12.mono (B4.out.trans (C11.out.mono B4.out.size)).size))
  clear b12
  go_wp2_with fail
  go_ret
  exact ⟨rfl, B12.out⟩
end Go.Proofs.YtimdohjlhbpmhaaDoor
