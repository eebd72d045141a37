/- the law's others. -/
import Derived.Test.YtimdohjlhbpmhaaDoorP8
import Derived.Deep.CutRange
namespace Go.Proofs.YtimdohjlhbpmhaaDoor
open Go.RowKit Go.KK Go.Shelf
set_option linter.unusedVariables false
set_option linter.unusedSimpArgs false

theorem sla_nil (w : World) : SlA w 1 none 0 0 ((zeroN.u).map (.int .i64)) := ⟨Nat.le_refl _, by decide, rfl, fun j u hj => by simp [zeroN] at hj⟩
theorem oth_no {xs ys : List TN} {but : Int} {k : Nat} (hk : k < max xs.length ys.length / 2 + 1) (hb : ¬ (k : Int) = but) (hs : sameN (ndx xs (2 * k)) (ndx ys (2 * k)) = false) : othB xs ys but = false := by
  unfold othB
  rw [List.all_eq_false]
  exact ⟨k, List.mem_range.2 hk, by rw [hs, beq_eq_false_iff_ne.2 hb]; decide⟩
theorem six_ext {w w' : World} (hb : Below w.heap.size w w') {b o : Nat} {v0 v1 v2 v3 v4 v5 : Value} (h0 : w.cell? ⟨b, o, none⟩ = some v0) (h1 : w.cell? ⟨b, o + 1, none⟩ = some v1) (h2 : w.cell? ⟨b, o + 2, none⟩ = some v2) (h3 : w.cell? ⟨b, o + 3, none⟩ = some v3) (h4 : w.cell? ⟨b, o + 4, none⟩ = some v4) (h5 : w.cell? ⟨b, o + 5, none⟩ = some v5) :
    w'.cell? ⟨b, o, none⟩ = some v0 ∧ w'.cell? ⟨b, o + 1, none⟩ = some v1 ∧ w'.cell? ⟨b, o + 2, none⟩ = some v2 ∧ w'.cell? ⟨b, o + 3, none⟩ = some v3 ∧ w'.cell? ⟨b, o + 4, none⟩ = some v4 ∧ w'.cell? ⟨b, o + 5, none⟩ = some v5 := by
  have hlt := block_lt_of_cell h0
  exact ⟨(hb.cell (p := ⟨b, o, none⟩) hlt).trans h0, (hb.cell (p := ⟨b, o + 1, none⟩) hlt).trans h1, (hb.cell (p := ⟨b, o + 2, none⟩) hlt).trans h2, (hb.cell (p := ⟨b, o + 3, none⟩) hlt).trans h3, (hb.cell (p := ⟨b, o + 4, none⟩) hlt).trans h4, (hb.cell (p := ⟨b, o + 5, none⟩) hlt).trans h5⟩
theorem ndx_at {xs : List TN} {j : Nat} {x : TN} (h : xs[j]? = some x) : ndx xs j = x := by unfold ndx; rw [h]; rfl
theorem bx6 {W : World} {base g : Nat} {e : TypeId} {v0 v1 v2 v3 v4 v5 : Value} (h : W.ownsRow base e 6 (.slice (some ⟨g, 0, none⟩) 1 1) 1 [v0, v1, v2, v3, v4, v5]) :
    (W.cell? ⟨g, 0, none⟩ = some v0 ∧ W.cell? ⟨g, 1, none⟩ = some v1 ∧ W.cell? ⟨g, 2, none⟩ = some v2 ∧ W.cell? ⟨g, 3, none⟩ = some v3 ∧ W.cell? ⟨g, 4, none⟩ = some v4 ∧ W.cell? ⟨g, 5, none⟩ = some v5) ∧
    W.frozen? ⟨g, 0, none⟩ = false ∧ W.frozen? ⟨g, 1, none⟩ = false ∧ W.frozen? ⟨g, 2, none⟩ = false ∧ W.frozen? ⟨g, 3, none⟩ = false ∧ W.frozen? ⟨g, 4, none⟩ = false ∧ W.frozen? ⟨g, 5, none⟩ = false :=
  ⟨⟨h.cellAt 0 (by decide), h.cellAt 1 (by decide), h.cellAt 2 (by decide), h.cellAt 3 (by decide), h.cellAt 4 (by decide), h.cellAt 5 (by decide)⟩, h.frozenAt 0, h.frozenAt 1, h.frozenAt 2, h.frozenAt 3, h.frozenAt 4, h.frozenAt 5⟩
theorem bx_set {W : World} {base g g' : Nat} {e e' : TypeId} {v0 v1 v2 v3 v4 v5 : Value} {L : List Value} (h : W.ownsRow base e 6 (.slice (some ⟨g, 0, none⟩) 1 1) 1 [v0, v1, v2, v3, v4, v5]) (h' : W.ownsRow base e' 6 (.slice (some ⟨g', 0, none⟩) 1 1) 1 L) (hg : g' ≠ g) {B : Nat} {wr : World} (hb : Below B wr W) (hB : B ≤ g) (u0 u1 u2 u3 u4 u5 : Value) :
    ((((((W.setCell ⟨g, 0, none⟩ u0).setCell ⟨g, 1, none⟩ u1).setCell ⟨g, 2, none⟩ u2).setCell ⟨g, 3, none⟩ u3).setCell ⟨g, 4, none⟩ u4).setCell ⟨g, 5, none⟩ u5).ownsRow base e 6 (.slice (some ⟨g, 0, none⟩) 1 1) 1 [u0, u1, u2, u3, u4, u5] ∧
    ((((((W.setCell ⟨g, 0, none⟩ u0).setCell ⟨g, 1, none⟩ u1).setCell ⟨g, 2, none⟩ u2).setCell ⟨g, 3, none⟩ u3).setCell ⟨g, 4, none⟩ u4).setCell ⟨g, 5, none⟩ u5).ownsRow base e' 6 (.slice (some ⟨g', 0, none⟩) 1 1) 1 L ∧
    Below B wr ((((((W.setCell ⟨g, 0, none⟩ u0).setCell ⟨g, 1, none⟩ u1).setCell ⟨g, 2, none⟩ u2).setCell ⟨g, 3, none⟩ u3).setCell ⟨g, 4, none⟩ u4).setCell ⟨g, 5, none⟩ u5) := by
  have g0 := grown_setCell (World.grownBy.refl W (some g)) (p := ⟨g, 0, none⟩) rfl u0
  have g1 := grown_setCell g0 (p := ⟨g, 1, none⟩) rfl u1
  have g2 := grown_setCell g1 (p := ⟨g, 2, none⟩) rfl u2
  have g3 := grown_setCell g2 (p := ⟨g, 3, none⟩) rfl u3
  have g4 := grown_setCell g3 (p := ⟨g, 4, none⟩) rfl u4
  have g5 := grown_setCell g4 (p := ⟨g, 5, none⟩) rfl u5
  have s0 := (h.stored 0 u0).1
  have s1 := (s0.stored 1 u1).1
  have s2 := (s1.stored 2 u2).1
  have s3 := (s2.stored 3 u3).1
  have s4 := (s3.stored 4 u4).1
  have s5 := (s4.stored 5 u5).1
  have hne : ∀ x, (Value.slice (some ⟨g', 0, none⟩) 1 1).ownBlock = some x → x ≠ g := fun x e hx => hg ((Option.some.inj e).trans hx)
  refine ⟨s5, h'.kept (row := some g) g5 (.inr fun e => hne g e rfl), ?_⟩
  exact (((((hb.setCell (p := ⟨g, 0, none⟩) hB u0).setCell (p := ⟨g, 1, none⟩) hB u1).setCell (p := ⟨g, 2, none⟩) hB u2).setCell (p := ⟨g, 3, none⟩) hB u3).setCell (p := ⟨g, 4, none⟩) hB u4).setCell (p := ⟨g, 5, none⟩) hB u5
theorem bx_new (wr : World) (z0 z1 z2 z3 z4 z5 : Value) (e : TypeId) :
    ((wr.alloc (.cells #[z0, z1, z2, z3, z4, z5] e)).alloc (.cells #[z0, z1, z2, z3, z4, z5] e)).ownsRow wr.heap.size e 6 (.slice (some ⟨wr.heap.size, 0, none⟩) 1 1) 1 [z0, z1, z2, z3, z4, z5] ∧
    ((wr.alloc (.cells #[z0, z1, z2, z3, z4, z5] e)).alloc (.cells #[z0, z1, z2, z3, z4, z5] e)).ownsRow wr.heap.size e 6 (.slice (some ⟨wr.heap.size + 1, 0, none⟩) 1 1) 1 [z0, z1, z2, z3, z4, z5] ∧
    Below wr.heap.size wr ((wr.alloc (.cells #[z0, z1, z2, z3, z4, z5] e)).alloc (.cells #[z0, z1, z2, z3, z4, z5] e)) := by
  have one : ∀ w : World, (w.alloc (.cells #[z0, z1, z2, z3, z4, z5] e)).ownsRow w.heap.size e 6 (.slice (some ⟨w.heap.size, 0, none⟩) 1 1) 1 [z0, z1, z2, z3, z4, z5] := fun w =>
    ⟨by simp, .inr ⟨w.heap.size, 1, _, rfl, Nat.le_refl _, heap_alloc_new w _, Nat.le_refl _, by decide, rfl, by simp⟩⟩
  refine ⟨(one wr).alloc _, ?_, ((Below.refl _ _).alloc (Nat.le_refl _) _).alloc (by rw [World.size_alloc]; omega) _⟩
  have := one (wr.alloc (.cells #[z0, z1, z2, z3, z4, z5] e))
  rw [World.size_alloc] at this
  exact own_mono this (by omega)
theorem forget {P : Program} {c : Code} {Q : Exit → Act → World → Prop} {a : Act} {W0 : World} {R : World → Prop} (h : ∀ W, R W → Code.wp P c Q a W) (r : R W0) : Code.wp P c Q a W0 := h W0 r
set_option maxHeartbeats 4000000 in
theorem others_any (A : Option Addr) (n c : Nat) (xs : List TN) (B : Option Addr) (m d : Nat) (ys : List TN) (but : Int) (w : World) (h : Tr w A n c xs) (h' : Tr w B m d ys) (hn : n ≤ 600) (hm : m ≤ 600) (hu : Shorts xs) (hu' : Shorts ys) :
    Calls Tryd.prog 24 #[.slice A n c, .slice B m d, .int .i64 but] w fun e w' => e = .returned (.bool (othB xs ys but)) ∧ Below w.heap.size w w' := by
  have HL := hid h.len; have HL' := hid h'.len; have H := hid h; have H' := hid h'; have HU := hid hu; have HU' := hid hu'
  clear h h' hu hu'
  obtain ⟨X, hX⟩ : ∃ X : Nat, X = max n m := ⟨_, rfl⟩
  obtain ⟨M, hM⟩ : ∃ M : Nat, M = X / 2 := ⟨_, rfl⟩
  have hx : max (n : Int) (m : Int) = (X : Int) := by omega
  have hdv : (X : Int) / 2 = (M : Int) := by omega
  have hM6 : M ≤ 300 := by omega
  have HX := hid (show M = max n m / 2 by omega)
  clear hX hM
  go_enter Tryd.func24, Tryd.ntmps24
  go_wp2
  go_loopw [17] (fun i wr => ∃ j : Nat, i = .int .i64 j ∧ j ≤ M + 1 ∧ Hid (∀ k : Nat, k < j → ((k : Int) == but || sameN (ndx xs (2 * k)) (ndx ys (2 * k))) = true) ∧ Below w.heap.size w wr) (fun i _ => M + 1 - (intOf i).toNat)
  case atStart => exact ⟨0, rfl, by omega, hid (fun k hk => by omega), Below.refl _ _⟩
  case round =>
    obtain ⟨j, hi, hj, HJ, hbr⟩ := hrel
    subst hi
    have HB := hid hbr
    have hzr := hbr.size
    clear hbr
    by_cases hlt : j < M + 1
    · obtain ⟨Y, hY⟩ : ∃ Y : Nat, Y = 2 * j := ⟨_, rfl⟩
      have hy : 2 * (j : Int) = (Y : Int) := by omega
      have HYJ := hid hY
      clear hY
      have HTX := hid (H.out.ext HB.out); have HTY := hid (H'.out.ext HB.out)
      go_upto_region 6 with fail
      refine forget (R := fun W => W.ownsRow wr.heap.size 25 6 (.slice (some ⟨wr.heap.size, 0, none⟩) 1 1) 1 [.int .i64 0, .int .i64 0, .int .i64 0, .int .i64 0, .int .i64 0, .slice none 0 0] ∧ W.ownsRow wr.heap.size 25 6 (.slice (some ⟨wr.heap.size + 1, 0, none⟩) 1 1) 1 [.int .i64 0, .int .i64 0, .int .i64 0, .int .i64 0, .int .i64 0, .slice none 0 0] ∧ Below wr.heap.size wr W) ?_ (bx_new wr _ _ _ _ _ _ _)
      rintro W ⟨r1, r2, bw⟩
      have R1 := hid r1; have R2 := hid r2; have BW := hid bw
      clear r1 r2 bw
      by_cases haY : Y < n
      · obtain ⟨ba, oa, x, A1, c1, rfl, hx, a0, a1, a2, a3, a4, a5, sx⟩ := HTX.out.at haY
        obtain ⟨a0, a1, a2, a3, a4, a5⟩ := six_ext BW.out a0 a1 a2 a3 a4 a5
        have ux := HU.out _ _ hx
        have HNa := hid (ndx_at hx)
        have SX := hid sx
        clear hx sx
        obtain ⟨⟨pc0, pc1, pc2, pc3, pc4, pc5⟩, pf0, pf1, pf2, pf3, pf4, pf5⟩ := bx6 R1.out
        go_upto_region 8 with fail
        refine forget (R := fun W => W.ownsRow wr.heap.size 25 6 (.slice (some ⟨wr.heap.size, 0, none⟩) 1 1) 1 [.int .i64 x.k, .int .i64 x.i, .int .i64 x.e, .int .i64 x.s, .int .i64 x.h, .slice A1 x.u.length c1] ∧ W.ownsRow wr.heap.size 25 6 (.slice (some ⟨wr.heap.size + 1, 0, none⟩) 1 1) 1 [.int .i64 0, .int .i64 0, .int .i64 0, .int .i64 0, .int .i64 0, .slice none 0 0] ∧ Below wr.heap.size wr W) ?_ (bx_set R1.out R2.out (by omega) BW.out (Nat.le_refl _) _ _ _ _ _ _)
        rintro W ⟨r1, r2, bw⟩
        have R1 := hid r1; have R2 := hid r2; have BW := hid bw
        clear r1 r2 bw
        clear a0 a1 a2 a3 a4 a5 pc0 pf0 pc1 pf1 pc2 pf2 pc3 pf3 pc4 pf4 pc5 pf5
        by_cases hbY : Y < m
        · obtain ⟨bb, ob, y, A2, c2, rfl, hy, b0, b1, b2, b3, b4, b5, sy⟩ := HTY.out.at hbY
          obtain ⟨b0, b1, b2, b3, b4, b5⟩ := six_ext BW.out b0 b1 b2 b3 b4 b5
          have uy := HU'.out _ _ hy
          have HNb := hid (ndx_at hy)
          have SY := hid sy
          clear hy sy
          obtain ⟨⟨qc0, qc1, qc2, qc3, qc4, qc5⟩, qf0, qf1, qf2, qf3, qf4, qf5⟩ := bx6 R2.out
          go_upto_region 10 with fail
          refine forget (R := fun W => W.ownsRow wr.heap.size 25 6 (.slice (some ⟨wr.heap.size, 0, none⟩) 1 1) 1 [.int .i64 x.k, .int .i64 x.i, .int .i64 x.e, .int .i64 x.s, .int .i64 x.h, .slice A1 x.u.length c1] ∧ W.ownsRow wr.heap.size 25 6 (.slice (some ⟨wr.heap.size + 1, 0, none⟩) 1 1) 1 [.int .i64 y.k, .int .i64 y.i, .int .i64 y.e, .int .i64 y.s, .int .i64 y.h, .slice A2 y.u.length c2] ∧ Below wr.heap.size wr W) ?_ ⟨(bx_set R2.out R1.out (by omega) BW.out (Nat.le_succ _) _ _ _ _ _ _).2.1, (bx_set R2.out R1.out (by omega) BW.out (Nat.le_succ _) _ _ _ _ _ _).1, (bx_set R2.out R1.out (by omega) BW.out (Nat.le_succ _) _ _ _ _ _ _).2.2⟩
          rintro W ⟨r1, r2, bw⟩
          have R1 := hid r1; have R2 := hid r2; have BW := hid bw
          clear r1 r2 bw
          clear b0 b1 b2 b3 b4 b5 qc0 qf0 qc1 qf1 qc2 qf2 qc3 qf3 qc4 qf4 qc5 qf5
          have HND := hid (show sameN (ndx xs (2 * j)) (ndx ys (2 * j)) = sameN x y by rw [← HYJ.out, HNa.out, HNb.out])
          by_cases hbt : (j : Int) = but
          · have HBT := hid hbt
            have hbt2 : ((j : Int) != but) = false := by rw [hbt]; exact bne_self_eq_false _
            clear hbt
            go_wp2
            go_roundw
            case rel => exact ⟨j + 1, by go_num, by omega, hid (fun k hk => by
              by_cases hkj : k < j
              · exact HJ.out k hkj
              · rw [show k = j by omega, beq_iff_eq.2 HBT.out, Bool.true_or]), HB.out.trans (BW.out.mono hzr)⟩
            case measure => simp [intOf]; omega
          · have HBT := hid hbt
            have hbt2 : ((j : Int) != but) = true := bne_iff_ne.2 hbt
            clear hbt
            rcases hs : sameN x y with _ | _
            · have HS := hid hs
              clear hs
              obtain ⟨⟨pc0, pc1, pc2, pc3, pc4, pc5⟩, pf0, pf1, pf2, pf3, pf4, pf5⟩ := bx6 R1.out
              obtain ⟨⟨qc0, qc1, qc2, qc3, qc4, qc5⟩, qf0, qf1, qf2, qf3, qf4, qf5⟩ := bx6 R2.out
              go_wp2_with (go_at_call 25; refine (samenode_any x y A1 c1 A2 c2 _ (SX.out.ext BW.out) (SY.out.ext BW.out) ux uy).mono ?_; rintro e1 w1 ⟨rfl, hb1⟩; rw [HS.out]; have HB1 := hid (HB.out.trans ((BW.out.trans (hb1.mono BW.out.size)).mono hzr)); clear hb1)
              go_ret
              exact ⟨by rw [oth_no (k := j) (by have := HL.out; have := HL'.out; have := HX.out; omega) HBT.out (by rw [HND.out]; exact HS.out)]; rfl, HB1.out⟩
            · have HS := hid hs
              clear hs
              obtain ⟨⟨pc0, pc1, pc2, pc3, pc4, pc5⟩, pf0, pf1, pf2, pf3, pf4, pf5⟩ := bx6 R1.out
              obtain ⟨⟨qc0, qc1, qc2, qc3, qc4, qc5⟩, qf0, qf1, qf2, qf3, qf4, qf5⟩ := bx6 R2.out
              go_wp2_with (go_at_call 25; refine (samenode_any x y A1 c1 A2 c2 _ (SX.out.ext BW.out) (SY.out.ext BW.out) ux uy).mono ?_; rintro e1 w1 ⟨rfl, hb1⟩; rw [HS.out]; have HB1 := hid (HB.out.trans ((BW.out.trans (hb1.mono BW.out.size)).mono hzr)); clear hb1)
              go_roundw
              case rel => exact ⟨j + 1, by go_num, by omega, hid (fun k hk => by
                by_cases hkj : k < j
                · exact HJ.out k hkj
                · rw [show k = j by omega, HND.out, HS.out, Bool.or_true]), HB1.out⟩
              case measure => simp [intOf]; omega
        · have HNb := hid (ndx_out (xs := ys) (j := Y) (by have := HL'.out; omega))
          go_upto_region 10 with fail
          have HND := hid (show sameN (ndx xs (2 * j)) (ndx ys (2 * j)) = sameN x zeroN by rw [← HYJ.out, HNa.out, HNb.out])
          by_cases hbt : (j : Int) = but
          · have HBT := hid hbt
            have hbt2 : ((j : Int) != but) = false := by rw [hbt]; exact bne_self_eq_false _
            clear hbt
            go_wp2
            go_roundw
            case rel => exact ⟨j + 1, by go_num, by omega, hid (fun k hk => by
              by_cases hkj : k < j
              · exact HJ.out k hkj
              · rw [show k = j by omega, beq_iff_eq.2 HBT.out, Bool.true_or]), HB.out.trans (BW.out.mono hzr)⟩
            case measure => simp [intOf]; omega
          · have HBT := hid hbt
            have hbt2 : ((j : Int) != but) = true := bne_iff_ne.2 hbt
            clear hbt
            rcases hs : sameN x zeroN with _ | _
            · have HS := hid hs
              clear hs
              obtain ⟨⟨pc0, pc1, pc2, pc3, pc4, pc5⟩, pf0, pf1, pf2, pf3, pf4, pf5⟩ := bx6 R1.out
              obtain ⟨⟨qc0, qc1, qc2, qc3, qc4, qc5⟩, qf0, qf1, qf2, qf3, qf4, qf5⟩ := bx6 R2.out
              go_wp2_with (go_at_call 25; refine (samenode_any x zeroN A1 c1 none 0 _ (SX.out.ext BW.out) (sla_nil _) ux (by decide)).mono ?_; rintro e1 w1 ⟨rfl, hb1⟩; rw [HS.out]; have HB1 := hid (HB.out.trans ((BW.out.trans (hb1.mono BW.out.size)).mono hzr)); clear hb1)
              go_ret
              exact ⟨by rw [oth_no (k := j) (by have := HL.out; have := HL'.out; have := HX.out; omega) HBT.out (by rw [HND.out]; exact HS.out)]; rfl, HB1.out⟩
            · have HS := hid hs
              clear hs
              obtain ⟨⟨pc0, pc1, pc2, pc3, pc4, pc5⟩, pf0, pf1, pf2, pf3, pf4, pf5⟩ := bx6 R1.out
              obtain ⟨⟨qc0, qc1, qc2, qc3, qc4, qc5⟩, qf0, qf1, qf2, qf3, qf4, qf5⟩ := bx6 R2.out
              go_wp2_with (go_at_call 25; refine (samenode_any x zeroN A1 c1 none 0 _ (SX.out.ext BW.out) (sla_nil _) ux (by decide)).mono ?_; rintro e1 w1 ⟨rfl, hb1⟩; rw [HS.out]; have HB1 := hid (HB.out.trans ((BW.out.trans (hb1.mono BW.out.size)).mono hzr)); clear hb1)
              go_roundw
              case rel => exact ⟨j + 1, by go_num, by omega, hid (fun k hk => by
                by_cases hkj : k < j
                · exact HJ.out k hkj
                · rw [show k = j by omega, HND.out, HS.out, Bool.or_true]), HB1.out⟩
              case measure => simp [intOf]; omega
      · have HNa := hid (ndx_out (xs := xs) (j := Y) (by have := HL.out; omega))
        go_upto_region 8 with fail
        by_cases hbY : Y < m
        · obtain ⟨bb, ob, y, A2, c2, rfl, hy, b0, b1, b2, b3, b4, b5, sy⟩ := HTY.out.at hbY
          obtain ⟨b0, b1, b2, b3, b4, b5⟩ := six_ext BW.out b0 b1 b2 b3 b4 b5
          have uy := HU'.out _ _ hy
          have HNb := hid (ndx_at hy)
          have SY := hid sy
          clear hy sy
          obtain ⟨⟨qc0, qc1, qc2, qc3, qc4, qc5⟩, qf0, qf1, qf2, qf3, qf4, qf5⟩ := bx6 R2.out
          go_upto_region 10 with fail
          refine forget (R := fun W => W.ownsRow wr.heap.size 25 6 (.slice (some ⟨wr.heap.size, 0, none⟩) 1 1) 1 [.int .i64 0, .int .i64 0, .int .i64 0, .int .i64 0, .int .i64 0, .slice none 0 0] ∧ W.ownsRow wr.heap.size 25 6 (.slice (some ⟨wr.heap.size + 1, 0, none⟩) 1 1) 1 [.int .i64 y.k, .int .i64 y.i, .int .i64 y.e, .int .i64 y.s, .int .i64 y.h, .slice A2 y.u.length c2] ∧ Below wr.heap.size wr W) ?_ ⟨(bx_set R2.out R1.out (by omega) BW.out (Nat.le_succ _) _ _ _ _ _ _).2.1, (bx_set R2.out R1.out (by omega) BW.out (Nat.le_succ _) _ _ _ _ _ _).1, (bx_set R2.out R1.out (by omega) BW.out (Nat.le_succ _) _ _ _ _ _ _).2.2⟩
          rintro W ⟨r1, r2, bw⟩
          have R1 := hid r1; have R2 := hid r2; have BW := hid bw
          clear r1 r2 bw
          clear b0 b1 b2 b3 b4 b5 qc0 qf0 qc1 qf1 qc2 qf2 qc3 qf3 qc4 qf4 qc5 qf5
          have HND := hid (show sameN (ndx xs (2 * j)) (ndx ys (2 * j)) = sameN zeroN y by rw [← HYJ.out, HNa.out, HNb.out])
          by_cases hbt : (j : Int) = but
          · have HBT := hid hbt
            have hbt2 : ((j : Int) != but) = false := by rw [hbt]; exact bne_self_eq_false _
            clear hbt
            go_wp2
            go_roundw
            case rel => exact ⟨j + 1, by go_num, by omega, hid (fun k hk => by
              by_cases hkj : k < j
              · exact HJ.out k hkj
              · rw [show k = j by omega, beq_iff_eq.2 HBT.out, Bool.true_or]), HB.out.trans (BW.out.mono hzr)⟩
            case measure => simp [intOf]; omega
          · have HBT := hid hbt
            have hbt2 : ((j : Int) != but) = true := bne_iff_ne.2 hbt
            clear hbt
            rcases hs : sameN zeroN y with _ | _
            · have HS := hid hs
              clear hs
              obtain ⟨⟨pc0, pc1, pc2, pc3, pc4, pc5⟩, pf0, pf1, pf2, pf3, pf4, pf5⟩ := bx6 R1.out
              obtain ⟨⟨qc0, qc1, qc2, qc3, qc4, qc5⟩, qf0, qf1, qf2, qf3, qf4, qf5⟩ := bx6 R2.out
              go_wp2_with (go_at_call 25; refine (samenode_any zeroN y none 0 A2 c2 _ (sla_nil _) (SY.out.ext BW.out) (by decide) uy).mono ?_; rintro e1 w1 ⟨rfl, hb1⟩; rw [HS.out]; have HB1 := hid (HB.out.trans ((BW.out.trans (hb1.mono BW.out.size)).mono hzr)); clear hb1)
              go_ret
              exact ⟨by rw [oth_no (k := j) (by have := HL.out; have := HL'.out; have := HX.out; omega) HBT.out (by rw [HND.out]; exact HS.out)]; rfl, HB1.out⟩
            · have HS := hid hs
              clear hs
              obtain ⟨⟨pc0, pc1, pc2, pc3, pc4, pc5⟩, pf0, pf1, pf2, pf3, pf4, pf5⟩ := bx6 R1.out
              obtain ⟨⟨qc0, qc1, qc2, qc3, qc4, qc5⟩, qf0, qf1, qf2, qf3, qf4, qf5⟩ := bx6 R2.out
              go_wp2_with (go_at_call 25; refine (samenode_any zeroN y none 0 A2 c2 _ (sla_nil _) (SY.out.ext BW.out) (by decide) uy).mono ?_; rintro e1 w1 ⟨rfl, hb1⟩; rw [HS.out]; have HB1 := hid (HB.out.trans ((BW.out.trans (hb1.mono BW.out.size)).mono hzr)); clear hb1)
              go_roundw
              case rel => exact ⟨j + 1, by go_num, by omega, hid (fun k hk => by
                by_cases hkj : k < j
                · exact HJ.out k hkj
                · rw [show k = j by omega, HND.out, HS.out, Bool.or_true]), HB1.out⟩
              case measure => simp [intOf]; omega
        · have HNb := hid (ndx_out (xs := ys) (j := Y) (by have := HL'.out; omega))
          go_upto_region 10 with fail
          have HND := hid (show sameN (ndx xs (2 * j)) (ndx ys (2 * j)) = sameN zeroN zeroN by rw [← HYJ.out, HNa.out, HNb.out])
          by_cases hbt : (j : Int) = but
          · have HBT := hid hbt
            have hbt2 : ((j : Int) != but) = false := by rw [hbt]; exact bne_self_eq_false _
            clear hbt
            go_wp2
            go_roundw
            case rel => exact ⟨j + 1, by go_num, by omega, hid (fun k hk => by
              by_cases hkj : k < j
              · exact HJ.out k hkj
              · rw [show k = j by omega, beq_iff_eq.2 HBT.out, Bool.true_or]), HB.out.trans (BW.out.mono hzr)⟩
            case measure => simp [intOf]; omega
          · have HBT := hid hbt
            have hbt2 : ((j : Int) != but) = true := bne_iff_ne.2 hbt
            clear hbt
            rcases hs : sameN zeroN zeroN with _ | _
            · have HS := hid hs
              clear hs
              obtain ⟨⟨pc0, pc1, pc2, pc3, pc4, pc5⟩, pf0, pf1, pf2, pf3, pf4, pf5⟩ := bx6 R1.out
              obtain ⟨⟨qc0, qc1, qc2, qc3, qc4, qc5⟩, qf0, qf1, qf2, qf3, qf4, qf5⟩ := bx6 R2.out
              go_wp2_with (go_at_call 25; refine (samenode_any zeroN zeroN none 0 none 0 _ (sla_nil _) (sla_nil _) (by decide) (by decide)).mono ?_; rintro e1 w1 ⟨rfl, hb1⟩; rw [HS.out]; have HB1 := hid (HB.out.trans ((BW.out.trans (hb1.mono BW.out.size)).mono hzr)); clear hb1)
              go_ret
              exact ⟨by rw [oth_no (k := j) (by have := HL.out; have := HL'.out; have := HX.out; omega) HBT.out (by rw [HND.out]; exact HS.out)]; rfl, HB1.out⟩
            · have HS := hid hs
              clear hs
              obtain ⟨⟨pc0, pc1, pc2, pc3, pc4, pc5⟩, pf0, pf1, pf2, pf3, pf4, pf5⟩ := bx6 R1.out
              obtain ⟨⟨qc0, qc1, qc2, qc3, qc4, qc5⟩, qf0, qf1, qf2, qf3, qf4, qf5⟩ := bx6 R2.out
              go_wp2_with (go_at_call 25; refine (samenode_any zeroN zeroN none 0 none 0 _ (sla_nil _) (sla_nil _) (by decide) (by decide)).mono ?_; rintro e1 w1 ⟨rfl, hb1⟩; rw [HS.out]; have HB1 := hid (HB.out.trans ((BW.out.trans (hb1.mono BW.out.size)).mono hzr)); clear hb1)
              go_roundw
              case rel => exact ⟨j + 1, by go_num, by omega, hid (fun k hk => by
                by_cases hkj : k < j
                · exact HJ.out k hkj
                · rw [show k = j by omega, HND.out, HS.out, Bool.or_true]), HB1.out⟩
              case measure => simp [intOf]; omega
    · have HE := hid (show othB xs ys but = true by
        unfold othB
        rw [List.all_eq_true]
        intro k hk
        have hk' := List.mem_range.1 hk
        exact HJ.out k (by have := HL.out; have := HL'.out; have := HX.out; omega))
      go_wp2
      go_ret
      exact ⟨by rw [HE.out]; rfl, HB.out⟩
end Go.Proofs.YtimdohjlhbpmhaaDoor
