/- the law's live: the chapter's examples. -/
import Derived.Test.YtimdohjlhbpmhaaDoorQ7
namespace Go.Proofs.YtimdohjlhbpmhaaDoor
open Go.RowKit Go.KK Go.Shelf
set_option linter.unusedVariables false
set_option linter.unusedSimpArgs false

theorem addP_ok {w w' : World} {xs : List TN} {l : TN} {r : Ending} (h : AddP w xs l r w') (hne : ¬ (freeN xs = 256 ∧ lvN xs.length = 256)) : ∃ g cap qs, r = .returned (.tuple #[.slice (some ⟨g, 0, none⟩) (addL xs l).length cap, .int .i64 (freeN xs), .int .i64 0]) ∧ TrW w' w.heap.size g cap (addL xs l) qs ∧ Below w.heap.size w w' := by
  rcases h with ⟨h1, h2, _⟩ | ⟨_, h⟩
  · exact absurd ⟨h1, h2⟩ hne
  · exact h
def l7 : TN := ⟨1, 7, 0, 0, 0, []⟩
def bl : TN := ⟨0, 0, 0, 0, 0, []⟩
def t1 : List TN := [l7]
def t2 : List TN := [l7, bl, l7]
def t3 : List TN := [l7, bl, l7, bl, l7, bl, bl]
def t4 : List TN := [bl, bl, l7, bl, l7, bl, bl]
theorem live_facts : addL t1 l7 = t2 ∧ freeN t1 = 1 ∧ addL t2 l7 = t3 ∧ freeN t2 = 2 ∧ freeN t4 = 0 ∧ chkB t1 = true ∧ chkB t2 = true ∧ chkB t3 = true ∧ chkB t4 = true ∧ mems t3 = [0, 1, 2] := by decide +kernel
theorem live_rem : pres t3 2 = true ∧ remO t3 2 = some t2 ∧ pres t3 0 = true ∧ remO t3 0 = some t4 := by decide +kernel
theorem few_shorts {xs : List TN} (h : fewT xs = true) : Shorts xs ∧ (chkB xs = true → Bare xs) ∧ (chkB xs = true → Ord 100000 xs) ∧ xs.length ≤ 140 := by
  unfold fewT at h
  simp only [Bool.and_eq_true, decide_eq_true_eq, List.all_eq_true] at h
  have hs : ∀ (j : Nat) x, xs[j]? = some x → x.u.length ≤ 70 := fun j x hx => h.2 x (List.mem_of_getElem? hx)
  exact ⟨fun j x hx => by have := hs j x hx; omega, chk_bare, fun hc => chk_ord hc fun j x hx => by have := hs j x hx; omega, h.1⟩
theorem remP_ok {w w' : World} {xs ys : List TN} {i : Int} {r : Ending} (h : RemP w xs i r w') (h1 : chkB xs = true) (h2 : pres xs i = true) (h3 : remO xs i = some ys) : ∃ g cap qs, r = .returned (.tuple #[.slice (some ⟨g, 0, none⟩) ys.length cap, .int .i64 0]) ∧ TrW w' w.heap.size g cap ys qs ∧ Below w.heap.size w w' := by
  rcases h with ⟨hb, ⟨a, _⟩ | ⟨_, a, _⟩ | ⟨_, _, a, _⟩ | ⟨_, _, zs, a, g, cap, qs, e, ht⟩⟩
  · rw [h1] at a; cases a
  · rw [h2] at a; cases a
  · rw [h3] at a; cases a
  · rw [h3] at a
    injection a with a
    subst a
    exact ⟨g, cap, qs, e, ht, hb⟩
theorem newP_ok {w w' : World} {r : Ending} (h : NewP w l7 r w') : ∃ g cap qs, r = .returned (.tuple #[.slice (some ⟨g, 0, none⟩) 1 cap, .int .i64 0]) ∧ TrW w' w.heap.size g cap t1 qs ∧ Below w.heap.size w w' := by
  rcases h with ⟨hb, ⟨a, _⟩ | ⟨_, g, cap, qs, e, ht⟩⟩
  · exact absurd a (by decide)
  · exact ⟨g, cap, qs, e, ht, hb⟩
theorem bx_step {W w2 : World} {b : Nat} {xs : Array Value} (h : ∀ i, W.cell? ⟨b, i, none⟩ = xs[i]?) (hb : Below W.heap.size W w2) (hlt : b < W.heap.size) : (∀ i, w2.cell? ⟨b, i, none⟩ = xs[i]?) ∧ b < w2.heap.size :=
  ⟨fun i => (hb.cell (p := ⟨b, i, none⟩) hlt).trans (h i), Nat.lt_of_lt_of_le hlt hb.size⟩
theorem step_new (w : World) : Calls Tryd.prog 15 #[.agg #[.int .i64 1, .int .i64 7, .int .i64 0, .int .i64 0, .int .i64 0, .slice none 0 0]] w fun e w' => ∃ g p q, e = .returned (.tuple #[.slice (some ⟨g, 0, none⟩) 1 p, .int .i64 0]) ∧ TrW w' w.heap.size g p t1 q ∧ Below w.heap.size w w' :=
  (new_any l7 none 0 w (by decide)).mono fun e w' h => newP_ok h
theorem step_add1 (g p base : Nat) (q : List Value) (w W : World) (h : TrW W base g p t1 q) (hT : Tab W) (hw : w = W) : Calls Tryd.prog 11 #[.slice (some ⟨g, 0, none⟩) 1 p, .agg #[.int .i64 1, .int .i64 7, .int .i64 0, .int .i64 0, .int .i64 0, .slice none 0 0]] w fun e w' => ∃ g p q, e = .returned (.tuple #[.slice (some ⟨g, 0, none⟩) 3 p, .int .i64 1, .int .i64 0]) ∧ TrW w' w.heap.size g p t2 q ∧ Below w.heap.size w w' := by
  subst hw
  obtain ⟨f1, f2, f3, f4, f5, c1, c2, c3, c4, mm⟩ := live_facts
  obtain ⟨s1, a1, o1, _⟩ := few_shorts (xs := t1) (by decide)
  refine (add_go g 0 1 p t1 7 0 0 0 none 0 w h.tr (by omega) hT s1 (a1 c1) (o1 c1) c1 (by decide)).mono fun e w' h => ?_
  obtain ⟨g, p, q, e1, e2, e3⟩ := addP_ok (l := l7) h (by rw [f2]; decide)
  rw [f1] at e1 e2
  rw [f2] at e1
  exact ⟨g, p, q, e1, e2, e3⟩
theorem step_add2 (g p base : Nat) (q : List Value) (w W : World) (h : TrW W base g p t2 q) (hT : Tab W) (hw : w = W) : Calls Tryd.prog 11 #[.slice (some ⟨g, 0, none⟩) 3 p, .agg #[.int .i64 1, .int .i64 7, .int .i64 0, .int .i64 0, .int .i64 0, .slice none 0 0]] w fun e w' => ∃ g p q, e = .returned (.tuple #[.slice (some ⟨g, 0, none⟩) 7 p, .int .i64 2, .int .i64 0]) ∧ TrW w' w.heap.size g p t3 q ∧ Below w.heap.size w w' := by
  subst hw
  obtain ⟨f1, f2, f3, f4, f5, c1, c2, c3, c4, mm⟩ := live_facts
  obtain ⟨s1, a1, o1, _⟩ := few_shorts (xs := t2) (by decide)
  refine (add_go g 0 3 p t2 7 0 0 0 none 0 w h.tr (by omega) hT s1 (a1 c2) (o1 c2) c2 (by decide)).mono fun e w' h => ?_
  obtain ⟨g, p, q, e1, e2, e3⟩ := addP_ok (l := l7) h (by rw [f4]; decide)
  rw [f3] at e1 e2
  rw [f4] at e1
  exact ⟨g, p, q, e1, e2, e3⟩
theorem step_add0 (g p base : Nat) (q : List Value) (w W : World) (h : TrW W base g p t4 q) (hT : Tab W) (hw : w = W) : Calls Tryd.prog 11 #[.slice (some ⟨g, 0, none⟩) 7 p, .agg #[.int .i64 1, .int .i64 7, .int .i64 0, .int .i64 0, .int .i64 0, .slice none 0 0]] w fun e w' => ∃ v, e = .returned (.tuple #[v, .int .i64 0, .int .i64 0]) ∧ Below w.heap.size w w' := by
  subst hw
  obtain ⟨f1, f2, f3, f4, f5, c1, c2, c3, c4, mm⟩ := live_facts
  obtain ⟨s1, a1, o1, _⟩ := few_shorts (xs := t4) (by decide)
  refine (add_go g 0 7 p t4 7 0 0 0 none 0 w h.tr (by omega) hT s1 (a1 c4) (o1 c4) c4 (by decide)).mono fun e w' h => ?_
  obtain ⟨g, p, q, e1, e2, e3⟩ := addP_ok (l := l7) h (by rw [f5]; decide)
  rw [f5] at e1
  exact ⟨_, e1, e3⟩
theorem step_rem2 (g p base : Nat) (q : List Value) (w W : World) (h : TrW W base g p t3 q) (hT : Tab W) (hw : w = W) : Calls Tryd.prog 17 #[.slice (some ⟨g, 0, none⟩) 7 p, .int .i64 2] w fun e w' => ∃ g p q, e = .returned (.tuple #[.slice (some ⟨g, 0, none⟩) 3 p, .int .i64 0]) ∧ TrW w' w.heap.size g p t2 q ∧ Below w.heap.size w w' := by
  subst hw
  obtain ⟨f1, f2, f3, f4, f5, c1, c2, c3, c4, mm⟩ := live_facts
  obtain ⟨r1, r2, r3, r4⟩ := live_rem
  obtain ⟨s1, a1, o1, _⟩ := few_shorts (xs := t3) (by decide)
  exact (remove_any (some ⟨g, 0, none⟩) 7 p t3 2 w h.tr (by omega) hT s1 a1).mono fun e w' h => remP_ok h c3 r1 r2
theorem step_rem0 (g p base : Nat) (q : List Value) (w W : World) (h : TrW W base g p t3 q) (hT : Tab W) (hw : w = W) : Calls Tryd.prog 17 #[.slice (some ⟨g, 0, none⟩) 7 p, .int .i64 0] w fun e w' => ∃ g p q, e = .returned (.tuple #[.slice (some ⟨g, 0, none⟩) 7 p, .int .i64 0]) ∧ TrW w' w.heap.size g p t4 q ∧ Below w.heap.size w w' := by
  subst hw
  obtain ⟨f1, f2, f3, f4, f5, c1, c2, c3, c4, mm⟩ := live_facts
  obtain ⟨r1, r2, r3, r4⟩ := live_rem
  obtain ⟨s1, a1, o1, _⟩ := few_shorts (xs := t3) (by decide)
  exact (remove_any (some ⟨g, 0, none⟩) 7 p t3 0 w h.tr (by omega) hT s1 a1).mono fun e w' h => remP_ok h c3 r3 r4
theorem step_mem (g p base : Nat) (q : List Value) (w W : World) (h : TrW W base g p t3 q) (hT : Tab W) (hw : w = W) : Calls Tryd.prog 32 #[.slice (some ⟨g, 0, none⟩) 7 p] w fun e w' => ∃ A c, e = .returned (.slice A 3 c) ∧ SlA w' 1 A 3 c (([0, 1, 2] : List Int).map (.int .i64)) ∧ Below w.heap.size w w' := by
  subst hw
  obtain ⟨f1, f2, f3, f4, f5, c1, c2, c3, c4, mm⟩ := live_facts
  obtain ⟨s1, a1, o1, _⟩ := few_shorts (xs := t3) (by decide)
  refine (members_any (some ⟨g, 0, none⟩) 7 p t3 w h.tr (by omega) hT s1).mono fun e w' ⟨v, e1, e2, e3⟩ => ?_
  rw [mm] at e2
  obtain ⟨A, c, rfl, hs⟩ := SlA.owned e2
  exact ⟨A, c, e1, hs, e3⟩
theorem sla_row {w : World} {T : TypeId} (vs : Array Value) (hm : vs.size ≤ maxLen) : SlA (w.alloc (.cells vs T)) 1 (some ⟨w.heap.size, 0, none⟩) vs.size vs.size vs.toList :=
  ⟨Nat.le_refl _, hm, by simp, fun j u hj => ⟨w.heap.size, 0, rfl, by rw [World.cell?_alloc_at _ _ _ _ rfl, Nat.zero_add]; simpa using hj⟩⟩
set_option maxHeartbeats 2000000 in
theorem live_any (w : World) (hT : Tab w) : Calls Tryd.prog 8 #[] w fun e w' => e = .returned (.bool true) ∧ Below w.heap.size w w' := by
  have HT := hid hT
  have HB0 := hid (show Below w.heap.size w (w.alloc (.cells #[.int .i64 1, .int .i64 7, .int .i64 0, .int .i64 0, .int .i64 0, .slice none 0 0] 25)) from (Below.refl _ _).alloc (Nat.le_refl _) _)
  clear hT
  go_enter Tryd.func8, Tryd.ntmps8
  go_wp2_with fail
  refine (step_new _).mono ?_
  rintro e1 w1 ⟨g1, p1, q1, rfl, t1r, b1⟩
  have T1 := hid t1r
  have X1 := hid (show (∀ i, w1.cell? ⟨w.heap.size, i, none⟩ = (#[.int .i64 1, .int .i64 7, .int .i64 0, .int .i64 0, .int .i64 0, .slice none 0 0] : Array Value)[i]?) ∧ w.heap.size < w1.heap.size from ⟨fun i => new_cell b1 i, (below_new (Below.refl _ _) (Nat.le_refl _) b1).2⟩)
  have B1 := hid (below_new (Below.refl _ _) (Nat.le_refl _) b1).1
  clear t1r b1
  have k0 := X1.out.1 0; have k1 := X1.out.1 1; have k2 := X1.out.1 2; have k3 := X1.out.1 3; have k4 := X1.out.1 4; have k5 := X1.out.1 5
  go_wp2_with fail
  refine (step_add1 g1 p1 _ q1 _ w1 T1.out (HT.out.ext B1.out) rfl).mono ?_
  rintro e2 w2 ⟨g2, p2, q2, rfl, t2r, b2⟩
  have T2 := hid t2r
  have X2 := hid (bx_step X1.out.1 b2 X1.out.2)
  have B2 := hid (B1.out.trans (b2.mono B1.out.size))
  clear t2r b2 k0 k1 k2 k3 k4 k5
  have k0 := X2.out.1 0; have k1 := X2.out.1 1; have k2 := X2.out.1 2; have k3 := X2.out.1 3; have k4 := X2.out.1 4; have k5 := X2.out.1 5
  go_wp2_with fail
  refine (step_add2 g2 p2 _ q2 _ w2 T2.out (HT.out.ext B2.out) rfl).mono ?_
  rintro e3 w3 ⟨g3, p3, q3, rfl, t3r, b3⟩
  have T3 := hid t3r
  have X3 := hid (bx_step X2.out.1 b3 X2.out.2)
  have B3 := hid (B2.out.trans (b3.mono B2.out.size))
  clear t3r b3 k0 k1 k2 k3 k4 k5
  go_wp2_with fail
  refine (step_rem2 g3 p3 _ q3 _ w3 T3.out (HT.out.ext B3.out) rfl).mono ?_
  rintro e4 w4 ⟨g4, p4, q4, rfl, t4r, b4⟩
  have T4 := hid (T3.out.ext b4)
  have X4 := hid (bx_step X3.out.1 b4 X3.out.2)
  have B4 := hid (B3.out.trans (b4.mono B3.out.size))
  clear t4r b4
  go_wp2_with fail
  refine (step_rem0 g3 p3 _ q3 _ w4 T4.out (HT.out.ext B4.out) rfl).mono ?_
  rintro e5 w5 ⟨g5, p5, q5, rfl, t5r, b5⟩
  have T5 := hid (T4.out.ext b5)
  have U5 := hid t5r
  have X5 := hid (bx_step X4.out.1 b5 X4.out.2)
  have B5 := hid (B4.out.trans (b5.mono B4.out.size))
  clear t5r b5
  have k0 := X5.out.1 0; have k1 := X5.out.1 1; have k2 := X5.out.1 2; have k3 := X5.out.1 3; have k4 := X5.out.1 4; have k5 := X5.out.1 5
  go_wp2_with fail
  refine (step_add0 g5 p5 _ q5 _ w5 U5.out (HT.out.ext B5.out) rfl).mono ?_
  rintro e6 w6 ⟨v6, rfl, b6⟩
  have T6 := hid (T5.out.ext b6)
  have B6 := hid (B5.out.trans (b6.mono B5.out.size))
  clear b6 k0 k1 k2 k3 k4 k5
  go_wp2_with fail
  refine (step_mem g3 p3 _ q3 _ w6 T6.out (HT.out.ext B6.out) rfl).mono ?_
  rintro e7 w7 ⟨A7, c7, rfl, s7, b7⟩
  have B7 := hid (B6.out.trans (b7.mono B6.out.size))
  have S7 := hid (s7.alloc (.cells #[.int .i64 0, .int .i64 1, .int .i64 2] 3))
  have L7 := hid (sla_row (w := w7) (T := 3) #[.int .i64 0, .int .i64 1, .int .i64 2] (by decide))
  clear b7 s7
  go_wp2_with fail
  refine (same_ints A7 3 c7 [0, 1, 2] (some ⟨w7.heap.size, 0, none⟩) 3 3 [0, 1, 2] _ S7.out L7.out (by omega) (by omega)).mono ?_
  rintro e8 w8 ⟨rfl, q8, rfl⟩
  go_wp2_with fail
  go_ret
  exact ⟨rfl, below_drewN (B7.out.alloc B7.out.size _) _⟩
end Go.Proofs.YtimdohjlhbpmhaaDoor
