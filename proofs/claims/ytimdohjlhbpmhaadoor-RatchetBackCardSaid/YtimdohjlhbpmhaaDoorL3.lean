/- RatchetAdds, walked. -/
import Derived.Test.YtimdohjlhbpmhaaDoorQ14
namespace Go.Proofs.YtimdohjlhbpmhaaDoor
open Go.RowKit Go.KK Go.Shelf
set_option linter.unusedVariables false
set_option linter.unusedSimpArgs false

theorem below_one {w w2 : World} {o : Obj} (h : Below (w.alloc o).heap.size (w.alloc o) w2) : Below w.heap.size w w2 :=
  ((Below.refl _ _).alloc (Nat.le_refl _) o).trans (h.mono (by rw [World.size_alloc]; exact Nat.le_succ _))
theorem few_one {xs : List TN} (h : [xs].all fewT = true) : fewT xs = true := by simpa using h
set_option maxHeartbeats 4000000 in
theorem adds_any (A : Option Addr) (n c : Nat) (xs : List TN) (l : TN) (B : Option Addr) (d : Nat) (w : World) (ht : Tr w A n c xs) (hl : SlA w 1 B l.u.length d (l.u.map (.int .i64))) (hw : WfT xs) (hT : Tab w) :
    Calls Tryd.prog 3 #[.slice A n c, .agg #[.int .i64 l.k, .int .i64 l.i, .int .i64 l.e, .int .i64 l.s, .int .i64 l.h, .slice B l.u.length d]] w fun e w' => e = .returned (.bool true) ∧ Below w.heap.size w w' := by
  have H := hid ht; have HW := hid hw; have HT := hid hT
  have hd := hl.cm
  have HD := hid hd
  have B0 := hid (show Below w.heap.size w (w.alloc (.cells #[.int .i64 l.k, .int .i64 l.i, .int .i64 l.e, .int .i64 l.s, .int .i64 l.h, .slice B l.u.length d] 25)) from (Below.refl _ _).alloc (Nat.le_refl _) _)
  clear ht hl hw hT hd
  go_enter Tryd.func3, Tryd.ntmps3
  go_wp2_with fail
  refine (live_any _ (HT.out.ext B0.out)).mono ?_
  rintro e1 w1 ⟨rfl, b1⟩
  have X1 := hid (show (∀ i, w1.cell? ⟨w.heap.size, i, none⟩ = (#[.int .i64 l.k, .int .i64 l.i, .int .i64 l.e, .int .i64 l.s, .int .i64 l.h, .slice B l.u.length d] : Array Value)[i]?) ∧ w.heap.size < w1.heap.size from ⟨fun i => new_cell b1 i, (below_new (Below.refl _ _) (Nat.le_refl _) b1).2⟩)
  have B1 := hid (below_new (Below.refl _ _) (Nat.le_refl _) b1).1
  have L1 := hid (sla_row (w := w1) (T := 22) #[.slice A n c] (show (1 : Nat) ≤ maxLen by decide))
  have B2 := hid (B1.out.alloc B1.out.size (.cells #[.slice A n c] 22))
  clear b1
  go_wp2_with fail
  refine (few_any _ 1 1 _ [xs] _ L1.out rfl (by omega) (fun j v zs hv hz => ?_)).mono ?_
  · rcases j with _ | j
    · injection hv with hv; injection hz with hz
      subst hv; subst hz
      exact ⟨A, n, c, rfl, H.out.ext B2.out⟩
    · simp at hv
  rintro e2 w2 ⟨rfl, b2⟩
  have X2 := hid (bx_step X1.out.1 (below_one b2) X1.out.2)
  have B3 := hid (B1.out.trans ((below_one b2).mono B1.out.size))
  clear b2
  rcases hf0 : [xs].all fewT with _ | _
  · go_wp2_with fail
    go_ret
    exact ⟨rfl, B3.out⟩
  have HF := hid (few_one hf0)
  clear hf0
  have k5 := X2.out.1 5
  by_cases hlen : 20 < l.u.length
  · have hl1 : (20 : Int) < (l.u.length : Int) := by omega
    go_wp2_with fail
    go_ret
    exact ⟨rfl, B3.out⟩
  have hl1 : ¬ (20 : Int) < (l.u.length : Int) := by omega
  obtain ⟨s1, a1, o1, hx140⟩ := few_shorts HF.out
  have S1 := hid s1
  have hn : n ≤ 600 := by have := H.out.len; omega
  have HLE := hid (show l.u.length ≤ 20 by omega)
  clear s1 a1 o1 hx140 hlen
  go_wp2_with fail
  refine (copy_any A n c xs _ (H.out.ext B3.out) hn S1.out).mono ?_
  rintro e3 w3 ⟨v3, rs3, rfl, cp3, b3⟩
  obtain ⟨A3, n3, c3, rfl, t3⟩ := cp3.trv
  have hn3 : n3 ≤ 600 := by have := t3.len; have := H.out.len; omega
  have T3 := hid t3
  have X3 := hid (bx_step X2.out.1 b3 X2.out.2)
  have B4 := hid (B3.out.trans (b3.mono B3.out.size))
  clear cp3 b3 t3 k5
  have k0 := X3.out.1 0; have k1 := X3.out.1 1; have k2 := X3.out.1 2; have k3 := X3.out.1 3; have k4 := X3.out.1 4; have k5 := X3.out.1 5
  go_wp2_with fail
  refine (add_any A n c xs l B d _ (H.out.ext B4.out) HF.out (HT.out.ext B4.out) HD.out).mono ?_
  rintro e4 w4 ⟨v4, rfl, o4, b4⟩
  obtain ⟨A4, c4, rfl, t4⟩ := o4.shape
  have X4 := hid (bx_step X3.out.1 b4 X3.out.2)
  have O4 := hid o4; have T4 := hid t4
  have C4 := hid b4
  clear o4 t4 b4 k0 k1 k2 k3 k4 k5
  have k0 := X4.out.1 0; have k1 := X4.out.1 1; have k2 := X4.out.1 2; have k3 := X4.out.1 3; have k4 := X4.out.1 4; have k5 := X4.out.1 5
  go_wp2_with fail
  refine (radd_any A n c xs l B d _ (H.out.ext (B4.out.trans (C4.out.mono B4.out.size))) HF.out HW.out HD.out).mono ?_
  rintro e5 w5 ⟨v5, rfl, o5, b5⟩
  obtain ⟨A5, c5, rfl, t5⟩ := o5.shape
  have O5 := hid (O4.out.ext b5); have U5 := hid (T4.out.ext b5); have T5 := hid t5
  have C5 := hid (C4.out.trans (b5.mono C4.out.size))
  clear o5 t5 b5 k0 k1 k2 k3 k4 k5
  obtain ⟨la, sa⟩ := addT_ok (l := l) HF.out
  have SA := hid sa
  clear sa
  go_wp2_with fail
  refine (rsame_any A4 _ c4 (addT xs l) A5 _ c5 (addT xs l) _ U5.out T5.out la la SA.out SA.out).mono ?_
  rintro e6 w6 ⟨rfl, b6⟩
  rw [sameT_self]
  have O6 := hid (O5.out.ext b6)
  have C6 := hid (C5.out.trans (b6.mono C5.out.size))
  clear b6
  have hi1 : (addI xs l != addI xs l) = false := bne_self_eq_false _
  have he1 : (addE xs l != addE xs l) = false := bne_self_eq_false _
  go_wp2_with fail
  refine (spoil_any _ _ _ _ O6.out la).mono ?_
  rintro e7 w7 ⟨rfl, b7⟩
  have C7 := hid (C6.out.trans b7)
  clear b7
  have X7 := hid (bx_step X3.out.1 C7.out X3.out.2)
  have k0 := X7.out.1 0; have k1 := X7.out.1 1; have k2 := X7.out.1 2; have k3 := X7.out.1 3; have k4 := X7.out.1 4; have k5 := X7.out.1 5
  go_wp2_with fail
  refine ((new_any l B d _ HD.out).mono fun _ _ h => newS_of h).mono ?_
  rintro e8 w8 ⟨v8, rfl, o8, b8⟩
  obtain ⟨A8, c8, rfl, t8⟩ := o8.shape
  have T8 := hid t8
  have C8 := hid (C7.out.trans (b8.mono C7.out.size))
  have X8 := hid (bx_step X7.out.1 b8 X7.out.2)
  clear o8 t8 b8 k0 k1 k2 k3 k4 k5
  have k0 := X8.out.1 0; have k1 := X8.out.1 1; have k2 := X8.out.1 2; have k3 := X8.out.1 3; have k4 := X8.out.1 4; have k5 := X8.out.1 5
  go_wp2_with fail
  refine ((rnew_any l B d _ HD.out).mono fun _ _ h => newS_of h).mono ?_
  rintro e9 w9 ⟨v9, rfl, o9, b9⟩
  obtain ⟨A9, c9, rfl, t9⟩ := o9.shape
  have T9 := hid t9; have U9 := hid (T8.out.ext b9)
  have C9 := hid (C8.out.trans (b9.mono C8.out.size))
  clear o9 t9 b9 k0 k1 k2 k3 k4 k5
  obtain ⟨ln, sn⟩ := newT_ok l HLE.out
  have SN := hid sn
  clear sn
  go_wp2_with fail
  refine (rsame_any A8 _ c8 (newT l) A9 _ c9 (newT l) _ U9.out T9.out ln ln SN.out SN.out).mono ?_
  rintro e10 w10 ⟨rfl, b10⟩
  rw [sameT_self]
  have C10 := hid (C9.out.trans (b10.mono C9.out.size))
  clear b10
  have hne : (newE l == newE l) = true := beq_self_eq_true _
  go_wp2_with fail
  refine (rsame_any A n c xs A3 n3 c3 xs _ (H.out.ext (B4.out.trans (C10.out.mono B4.out.size))) (T3.out.ext C10.out) hn hn3 S1.out S1.out).mono ?_
  rintro e11 w11 ⟨rfl, b11⟩
  rw [sameT_self]
  have B11 := hid ((B4.out.trans (C10.out.mono B4.out.size)).trans (b11.mono (B4.out.trans (C10.out.mono B4.out.size)).size))
  clear b11
  go_wp2_with fail
  go_ret
  exact ⟨rfl, B11.out⟩
end Go.Proofs.YtimdohjlhbpmhaaDoor
