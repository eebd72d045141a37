/- RatchetMay, walked. -/
import Derived.Test.YtimdohjlhbpmhaaDoorQ15
import Derived.Test.YtimdohjlhbpmhaaDoorL4
namespace Go.Proofs.YtimdohjlhbpmhaaDoor
open Go.RowKit Go.KK Go.Shelf
set_option linter.unusedVariables false
set_option linter.unusedSimpArgs false

theorem box_new (w : World) (e : TypeId) (v0 v1 v2 v3 v4 v5 : Value) : (w.alloc (.cells #[v0, v1, v2, v3, v4, v5] e)).ownsRow w.heap.size e 6 (.slice (some ⟨w.heap.size, 0, none⟩) 1 1) 1 [v0, v1, v2, v3, v4, v5] :=
  ⟨by simp, .inr ⟨w.heap.size, 1, _, rfl, Nat.le_refl _, heap_alloc_new w _, Nat.le_refl _, by decide, rfl, by simp⟩⟩
theorem chkE_yes {xs : List TN} (h : chkB xs = true) : chkE xs = 0 := by unfold chkE; rw [h]; rfl
theorem chkE_no {xs : List TN} (h : chkB xs = false) : chkE xs = 1 := by unfold chkE; rw [h]; rfl
set_option maxHeartbeats 4000000 in
theorem may_no (A : Option Addr) (n c : Nat) (xs : List TN) (i : Int) (k i0 e s h : Int) (B : Option Addr) (m d : Nat) (w : World) (ht : Tr w A n c xs) (hw : WfT xs) (hT : Tab w) (hno : fewT xs = false ∨ 0 < m ∨ chkB xs = false) :
    Calls Tryd.prog 5 #[.slice A n c, .int .i64 i, .agg #[.int .i64 k, .int .i64 i0, .int .i64 e, .int .i64 s, .int .i64 h, .slice B m d]] w fun e w' => e = .returned (.bool true) ∧ Below w.heap.size w w' := by
  have H := hid ht; have HW := hid hw; have HT := hid hT
  have B0 := hid (show Below w.heap.size w (w.alloc (.cells #[.int .i64 k, .int .i64 i0, .int .i64 e, .int .i64 s, .int .i64 h, .slice B m d] 25)) from (Below.refl _ _).alloc (Nat.le_refl _) _)
  have X0 := hid (box_new w 25 (.int .i64 k) (.int .i64 i0) (.int .i64 e) (.int .i64 s) (.int .i64 h) (.slice B m d))
  have HNO := hid hno
  clear ht hw hT hno
  go_enter Tryd.func5, Tryd.ntmps5
  go_wp2_with fail
  refine (live_any _ (HT.out.ext B0.out)).mono ?_
  rintro e1 w1 ⟨rfl, b1⟩
  have X1 := hid (own_ext X0.out b1)
  have B1 := hid (below_new (Below.refl _ _) (Nat.le_refl _) b1).1
  have L1 := hid (sla_row (w := w1) (T := 22) #[.slice A n c] (show (1 : Nat) ≤ maxLen by decide))
  have B2 := hid (B1.out.alloc B1.out.size (.cells #[.slice A n c] 22))
  clear b1
  go_wp2_with fail
  refine (few_any _ 1 1 _ [xs] _ L1.out rfl (by omega) (fun j v zs hv hz => ?_)).mono ?_
  · rcases j with _ | j
    · injection hv with hv; injection hz with hz
      subst hv; subst hz
      exact ⟨A, n, c, rfl, H.out.ext B2.out⟩
    · simp at hv
  rintro e2 w2 ⟨rfl, b2⟩
  have X2 := hid (own_ext X1.out (below_one b2))
  have B3 := hid (B1.out.trans ((below_one b2).mono B1.out.size))
  clear b2
  rcases hf0 : [xs].all fewT with _ | _
  · go_wp2_with fail
    go_ret
    exact ⟨rfl, B3.out⟩
  have HF := hid (few_one hf0)
  clear hf0
  obtain ⟨⟨k0, k1, k2, k3, k4, k5⟩, -⟩ := bx6 X2.out
  by_cases hlen : 0 < m
  · have hl1 : (0 : Int) < (m : Int) := by omega
    go_wp2_with fail
    go_ret
    exact ⟨rfl, B3.out⟩
  obtain rfl : m = 0 := by omega
  have HC := hid (show chkB xs = false by
    rcases HNO.out with h | h | h
    · rw [HF.out] at h; cases h
    · omega
    · exact h)
  obtain ⟨s1, a1, o1, hx140⟩ := few_shorts HF.out
  have S1 := hid s1
  have hn : n ≤ 600 := by have := H.out.len; omega
  clear s1 a1 o1 hx140 hlen
  go_wp2_with fail
  refine (rchk_any A n c xs _ (H.out.ext B3.out) hn S1.out HW.out).mono ?_
  rintro e3 w3 ⟨rfl, b3⟩
  rw [chkE_no HC.out]
  have B4 := hid (B3.out.trans (b3.mono B3.out.size))
  clear b3
  go_wp2_with fail
  go_ret
  exact ⟨rfl, B4.out⟩
/-- As far as the first fact. -/
theorem may_rem {A : Option Addr} {n c : Nat} {xs : List TN} {i : Int} {w : World} (ht : Tr w A n c xs) (hf : fewT xs = true) (hT : Tab w) (hc : chkB xs = true) :
    Calls Tryd.prog 17 #[.slice A n c, .int .i64 i] w fun r w' => ∃ v, r = .returned (.tuple #[v, .int .i64 (remE xs i)]) ∧ OwnT w' w.heap.size v (remT xs i) ∧ Below w.heap.size w w' := by
  obtain ⟨s1, a1, o1, hx⟩ := few_shorts hf
  exact (remove_any A n c xs i w ht (by have := ht.len; omega) hT s1 a1).mono fun _ _ h => remS_of h
end Go.Proofs.YtimdohjlhbpmhaaDoor
