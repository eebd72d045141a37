/- crypto: Unblind; token: Ask, Finish. -/
import Derived.Test.YtanakgbhmmemoaaDoorA9
namespace Go.Proofs.YtanakgbhmmemoaaDoor
open Go.RowKit Go.KK Go.Shelf Go.Maps
set_option linter.unusedVariables false
set_option linter.unusedSimpArgs false

/-- A call that goes from one arena to another, with a number and an error. -/
def StpS (w : World) (Z : Nat → Prop) (st : Nat) (r : List ND × Int × Int) (e : Ending) (w' : World) : Prop := e = .returned (.tuple #[.int .i64 r.2.1, .int .i64 r.2.2]) ∧ ArS w Z st r.1 w'
section
variable (Z : Nat → Prop) (st : Nat) (xs : List ND) (B : Nat) (w : World)
theorem two_gen {W : World} {o m d : Int} {A : Option Addr} {c : Nat} (h : AR w Z st xs) (hT : Tb B w) (hB : B ≤ w.heap.size) (ho : I64 o) (hm : I64 m) (hd : I64 d) (hb : Below w.heap.size w W) (hs : SlA W 1 A 2 c [.int .i64 m, .int .i64 d]) :
    Calls Tryd.prog 62 #[.pointer (some ⟨st, 0, none⟩), .int .i64 o, .slice A 2 c] W (MkS w Z st xs (ndN o [m, d])) := by
  refine (of_any Z st xs B _ o [m, d] A c (h.ext hb) hs (hT.on (hb.mono hB)) (Nat.le_trans hB hb.size) ho (fun i hi => ?_)).mono ?_
  · simp only [List.mem_cons, List.mem_nil_iff, or_false] at hi
    rcases hi with rfl | rfl
    · exact hm
    · exact hd
  · rintro e w' ⟨rfl, hs⟩
    exact ⟨rfl, hs.first hb⟩
theorem stay_s {w' : World} (h : AR w Z st xs) (hb : Below w.heap.size w w') {a b : Int} : StpS w Z st (xs, a, b) (.returned (.tuple #[.int .i64 a, .int .i64 b])) w' := ⟨rfl, h.stay hb⟩
set_option maxHeartbeats 4000000 in
set_option maxRecDepth 20000 in
theorem unblind_any (sig draw : Int) (h : AR w Z st xs) (hT : Tb B w) (hB : B ≤ w.heap.size) :
    Calls Tryd.prog 47 #[.pointer (some ⟨st, 0, none⟩), .int .i64 sig, .int .i64 draw] w (StpS w Z st (unblF xs sig draw)) := by
  have H := hid h; have HT := hid hT
  have hok := h.ok
  have B0 := hid (show Below w.heap.size w (w.alloc (.cells #[.int .i64 sig, .int .i64 draw] 3)) from (Below.refl _ _).alloc (Nat.le_refl _) _)
  have HU := hid (show unblF xs sig draw = if kno xs [sig, draw] then if (nodeF xs sig).o == 10 then if (nodeF xs ((nodeF xs sig).l.getD 1 0)).o == 12 && (nodeF xs ((nodeF xs sig).l.getD 1 0)).l.getD 1 0 == draw then mk xs (ndN 10 [(nodeF xs sig).l.getD 0 0, (nodeF xs ((nodeF xs sig).l.getD 1 0)).l.getD 0 0]) else (xs, 0, 40) else (xs, 0, 40) else (xs, 0, 1) from rfl)
  clear h hT
  go_enter Tryd.func47, Tryd.ntmps47
  go_wp2_with fail
  refine (cknown_any st xs _ _ 2 2 [sig, draw] (H.out.vw.ext B0.out) (sla_row #[.int .i64 sig, .int .i64 draw] (by unfold maxLen; simp)) (by decide)).mono ?_
  rintro e1 w1 ⟨rfl, hw1⟩
  subst hw1
  rcases hk : kno xs [sig, draw] with _ | _
  · have HF := hid (show unblF xs sig draw = (xs, 0, 1) by rw [HU.out, hk]; rfl)
    go_wp2_with fail
    go_ret2
    rw [HF.out]
    exact stay_s Z st xs w H.out B0.out
  have hks : hasB xs sig = true := by
    unfold kno at hk
    simp only [List.all_cons, Bool.and_eq_true] at hk
    exact hk.1
  generalize w.alloc (.cells #[.int .i64 sig, .int .i64 draw] 3) = w1 at *
  go_wp2_with fail
  refine (cnode_any st xs _ sig 10 (H.out.vw.ext B0.out)).mono ?_
  rintro e2 w2 ⟨A2, c2, rfl, o2, b2⟩
  have B2 := hid (B0.out.trans (b2.mono B0.out.size))
  have O2 := hid o2
  clear o2 b2
  rcases hi : ndIs xs sig 10 with _ | _
  · have HF := hid (show unblF xs sig draw = (xs, 0, 40) by
      have : ((nodeF xs sig).o == 10) = false := by
        unfold ndIs nodeE at hi
        rw [hks] at hi
        simpa using hi
      rw [HU.out, hk, if_pos rfl, this]; rfl)
    go_wp2_with fail
    go_ret2
    rw [HF.out]
    exact stay_s Z st xs w H.out (B2.out.alloc B2.out.size _)
  obtain ⟨s0, s1, hsl, hs0, hs1⟩ := is_two hok hi rfl
  have ho10 : ((nodeF xs sig).o == 10) = true := by rw [(is_has hi).2]; rfl
  have HU2 := hid (show unblF xs sig draw = if (nodeF xs s1).o == 12 && (nodeF xs s1).l.getD 1 0 == draw then mk xs (ndN 10 [s0, (nodeF xs s1).l.getD 0 0]) else (xs, 0, 40) by
    rw [HU.out, hk, if_pos rfl, ho10, if_pos rfl, hsl]; rfl)
  generalize hx1 : nodeF xs sig = x1 at *
  obtain ⟨x1o, x1n, x1s, x1l⟩ := x1
  simp only at hsl
  subst hsl
  have HSL := hid ((SlA.of_own O2.out).2.alloc (.cells #[.int .i64 x1o, .int .i64 x1n, .string x1s, .slice A2 2 c2] 59))
  have X3 := hid (show (w2.alloc (.cells #[.int .i64 x1o, .int .i64 x1n, .string x1s, .slice A2 2 c2] 59)).ownsRow w2.heap.size 59 4 (.slice (some ⟨w2.heap.size, 0, none⟩) 1 1) 1 [.int .i64 x1o, .int .i64 x1n, .string x1s, .slice A2 2 c2] from
    ⟨by simp, .inr ⟨w2.heap.size, 1, _, rfl, Nat.le_refl _, heap_alloc_new w2 _, Nat.le_refl _, by decide, rfl, by simp⟩⟩)
  have B3 := hid (B2.out.alloc B2.out.size (.cells #[.int .i64 x1o, .int .i64 x1n, .string x1s, .slice A2 2 c2] 59))
  obtain ⟨b2, o2, z2, rfl, hz2, hc2⟩ := HSL.out.elemI (k := 1) (by simp)
  have hz2 : s1 = z2 := by simpa using hz2
  subst hz2
  clear hx1 ho10 hi
  go_wp2_with fail
  refine (cnode_any st xs _ s1 12 (H.out.vw.ext B3.out)).mono ?_
  rintro e4 w4 ⟨A4, c4, rfl, o4, b4⟩
  have B4 := hid (B3.out.trans (b4.mono B3.out.size))
  have O4 := hid o4
  have X4 := hid (own_ext X3.out b4)
  have HSL4 := hid (HSL.out.ext b4)
  clear o4 b4 X3 HSL hc2
  rcases hi : ndIs xs s1 12 with _ | _
  · have HF := hid (show unblF xs sig draw = (xs, 0, 40) by
      have : ((nodeF xs s1).o == 12) = false := by
        unfold ndIs nodeE at hi
        rw [hs1] at hi
        simpa using hi
      rw [HU2.out, this]; rfl)
    go_wp2_with fail
    go_ret2
    rw [HF.out]
    exact stay_s Z st xs w H.out (B4.out.alloc B4.out.size _)
  obtain ⟨t0, t1, htl, ht0, ht1⟩ := is_two hok hi rfl
  have ho12 : ((nodeF xs s1).o == 12) = true := by rw [(is_has hi).2]; rfl
  generalize hx2 : nodeF xs s1 = x2 at *
  obtain ⟨x2o, x2n, x2s, x2l⟩ := x2
  simp only at htl
  subst htl
  have HU3 := hid (show unblF xs sig draw = if t1 == draw then mk xs (ndN 10 [s0, t0]) else (xs, 0, 40) by
    rw [HU2.out, ho12]; rfl)
  have HSL5 := hid ((SlA.of_own O4.out).2.alloc (.cells #[.int .i64 x2o, .int .i64 x2n, .string x2s, .slice A4 2 c4] 59))
  have X5 := hid (show (w4.alloc (.cells #[.int .i64 x2o, .int .i64 x2n, .string x2s, .slice A4 2 c4] 59)).ownsRow w4.heap.size 59 4 (.slice (some ⟨w4.heap.size, 0, none⟩) 1 1) 1 [.int .i64 x2o, .int .i64 x2n, .string x2s, .slice A4 2 c4] from
    ⟨by simp, .inr ⟨w4.heap.size, 1, _, rfl, Nat.le_refl _, heap_alloc_new w4 _, Nat.le_refl _, by decide, rfl, by simp⟩⟩)
  have B5 := hid (B4.out.alloc B4.out.size (.cells #[.int .i64 x2o, .int .i64 x2n, .string x2s, .slice A4 2 c4] 59))
  have X4' := hid (X4.out.alloc (.cells #[.int .i64 x2o, .int .i64 x2n, .string x2s, .slice A4 2 c4] 59))
  have HSL4' := hid (HSL4.out.alloc (.cells #[.int .i64 x2o, .int .i64 x2n, .string x2s, .slice A4 2 c4] 59))
  obtain ⟨b4, o4, z4, rfl, hz4, hc4⟩ := HSL5.out.elemI (k := 1) (by simp)
  have hz4 : t1 = z4 := by simpa using hz4
  subst hz4
  clear hx2 ho12 hi
  by_cases hd : t1 = draw
  · have hd' : (t1 != draw) = false := by rw [hd]; simp
    have HF := hid (show unblF xs sig draw = mk xs (ndN 10 [s0, t0]) by rw [HU3.out, hd]; simp)
    clear hd
    have i1 := has_i64 hok hs0
    have i2 := has_i64 hok ht0
    have I1 := hid i1; have I2 := hid i2
    clear i1 i2
    go_upto_region 9 with fail
    have l3 := X4'.out.cellAt 3 (by decide)
    have m3 := X5.out.cellAt 3 (by decide)
    obtain ⟨b2x, o2x, z2, hA, hz2, l0⟩ := HSL4'.out.elemI (k := 0) (by simp)
    injection hA with hA
    injection hA with e1 e2
    subst e1; subst e2
    have hz2 : s0 = z2 := by simpa using hz2
    subst hz2
    obtain ⟨b4x, o4x, z4, hA, hz4, m0⟩ := HSL5.out.elemI (k := 0) (by simp)
    injection hA with hA
    injection hA with e1 e2
    subst e1; subst e2
    have hz4 : t0 = z4 := by simpa using hz4
    subst hz4
    rw [Nat.add_zero] at l0 m0
    refine forget (R := fun W => W = w4.alloc (.cells #[.int .i64 x2o, .int .i64 x2n, .string x2s, .slice (some ⟨b4, o4, none⟩) 2 c4] 59)) ?_ rfl
    intro W hW
    rw [← hW] at l3 m3 l0 m0 B5
    clear hW hc4 X4' X5 HSL4' HSL5
    change W.cell? ⟨w2.heap.size, 3, none⟩ = some (.slice (some ⟨b2, o2, none⟩) 2 c2) at l3
    change W.cell? ⟨w4.heap.size, 3, none⟩ = some (.slice (some ⟨b4, o4, none⟩) 2 c4) at m3
    have hsl : SlA (W.alloc (.cells #[.int .i64 s0, .int .i64 t0] 3)).drew 1 (some ⟨W.heap.size, 0, none⟩) 2 2 [.int .i64 s0, .int .i64 t0] := (sla_row #[.int .i64 s0, .int .i64 t0] (by unfold maxLen; simp)).drew
    have hbl : Below w.heap.size w (W.alloc (.cells #[.int .i64 s0, .int .i64 t0] 3)).drew := below_drew (B5.out.alloc B5.out.size _)
    have HOF := hid (two_gen Z st xs B w (o := 10) H.out HT.out hB (i64_lit (by decide) (by decide)) I1.out I2.out hbl hsl)
    clear hsl hbl
    go_region_with (go_at_call 62; refine HOF.out.mono ?_; rintro e9 w9 ⟨rfl, s9⟩; have S9 := hid s9; clear s9)
    all_goals
      go_wp2
      go_ret2
      rw [HF.out]
      exact ⟨rfl, S9.out⟩
  · have hd' : (t1 != draw) = true := bne_iff_ne.2 hd
    have HF := hid (show unblF xs sig draw = (xs, 0, 40) by rw [HU3.out, show (t1 == draw) = false from beq_eq_false_iff_ne.2 hd]; rfl)
    clear hd
    go_wp2_with fail
    go_ret2
    rw [HF.out]
    exact stay_s Z st xs w H.out B5.out
end
end Go.Proofs.YtanakgbhmmemoaaDoor
