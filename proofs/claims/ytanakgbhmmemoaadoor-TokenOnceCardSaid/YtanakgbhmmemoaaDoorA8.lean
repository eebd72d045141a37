/- crypto: of, known, node, Fresh, Blind, Sign. -/
import Derived.Test.YtanakgbhmmemoaaDoorA7
import Derived.Deep.RegionHeld3
import Derived.Laws.ResultCell
namespace Go.Proofs.YtanakgbhmmemoaaDoor
open Go.RowKit Go.KK Go.Shelf Go.Maps
set_option linter.unusedVariables false
set_option linter.unusedSimpArgs false

/-- A call that makes the node x. -/
def MkS (w : World) (Z : Nat → Prop) (st : Nat) (xs : List ND) (x : ND) (e : Ending) (w' : World) : Prop := e = .returned (.tuple #[.int .i64 (makI xs x), .int .i64 (makE xs x)]) ∧ ArS w Z st (makT xs x) w'
theorem sla_row {w : World} {T : TypeId} (vs : Array Value) (hm : vs.size ≤ maxLen) : SlA (w.alloc (.cells vs T)) 1 (some ⟨w.heap.size, 0, none⟩) vs.size vs.size vs.toList :=
  ⟨Nat.le_refl _, hm, by simp, fun j u hj => ⟨w.heap.size, 0, rfl, by rw [World.cell?_alloc_at _ _ _ _ rfl, Nat.zero_add]; simpa using hj⟩⟩
theorem i64_lit {n : Int} (h0 : 0 ≤ n) (h1 : n ≤ 200000) : I64 n := ⟨by omega, by omega⟩
theorem ndI_nd {o : Int} {l : List Int} (ho : I64 o) (hl : ∀ i ∈ l, I64 i) : NdI (ndN o l) := ⟨ho, by unfold I64 ndN; simp, hl⟩
theorem ndI_at {n : Int} (h : I64 n) : NdI (atN n) := ⟨by unfold I64 atN; simp, h, fun i hi => by simp [atN] at hi⟩
section
variable (Z : Nat → Prop) (st : Nat) (xs : List ND) (B : Nat) (w : World)
theorem mke_any (x : ND) (A : Option Addr) (c : Nat) (h : AR w Z st xs) (hl : SlA w 1 A x.l.length c (x.l.map (.int .i64))) (hT : Tb B w) (hB : B ≤ w.heap.size) (hx : NdI x) :
    Calls Tryd.prog 28 #[.pointer (some ⟨st, 0, none⟩), .agg #[.int .i64 x.o, .int .i64 x.n, .string x.s, .slice A x.l.length c]] w (MkS w Z st xs x) := by
  obtain ⟨mp, v, qs, h⟩ := h
  exact (make_any Z st mp v xs qs x A c B w h hl hT hB hx).mono fun e w' ⟨h1, h2⟩ => ⟨h1, .of h2⟩
theorem of_any (o : Int) (l : List Int) (A : Option Addr) (c : Nat) (h : AR w Z st xs) (hl : SlA w 1 A l.length c (l.map (.int .i64))) (hT : Tb B w) (hB : B ≤ w.heap.size) (ho : I64 o) (hli : ∀ i ∈ l, I64 i) :
    Calls Tryd.prog 62 #[.pointer (some ⟨st, 0, none⟩), .int .i64 o, .slice A l.length c] w (MkS w Z st xs (ndN o l)) := by
  have HM := hid (mke_any Z st xs B w (ndN o l) A c h hl hT hB (ndI_nd ho hli))
  clear h hl hT
  go_enter Tryd.func62, Tryd.ntmps62
  go_wp2_with fail
  refine HM.out.mono ?_
  rintro e w' ⟨rfl, hs⟩
  have HS := hid hs
  clear hs
  go_wp2_with fail
  go_ret2
  exact ⟨rfl, HS.out⟩
theorem fresh_any (n : Int) (h : AR w Z st xs) (hT : Tb B w) (hB : B ≤ w.heap.size) (hn : I64 n) :
    Calls Tryd.prog 38 #[.pointer (some ⟨st, 0, none⟩), .int .i64 n] w (MkS w Z st xs (atN n)) := by
  have HM := hid (mke_any Z st xs B w (atN n) none 0 h (SlA.nil _ _) hT hB (ndI_at hn))
  clear h hT
  go_enter Tryd.func38, Tryd.ntmps38
  go_wp2_with fail
  refine HM.out.mono ?_
  rintro e w' ⟨rfl, hs⟩
  have HS := hid hs
  clear hs
  go_wp2_with fail
  go_ret2
  exact ⟨rfl, HS.out⟩
theorem two_of {o m d : Int} (h : AR w Z st xs) (hT : Tb B w) (hB : B ≤ w.heap.size) (ho : I64 o) (hm : I64 m) (hd : I64 d) :
    let W := w.alloc (.cells #[.int .i64 m, .int .i64 d] 3)
    Calls Tryd.prog 62 #[.pointer (some ⟨st, 0, none⟩), .int .i64 o, .slice (some ⟨w.heap.size, 0, none⟩) 2 2] W (MkS w Z st xs (ndN o [m, d])) := by
  have hb : Below w.heap.size w (w.alloc (.cells #[.int .i64 m, .int .i64 d] 3)) := (Below.refl _ _).alloc (Nat.le_refl _) _
  refine (of_any Z st xs B _ o [m, d] (some ⟨w.heap.size, 0, none⟩) 2 (h.ext hb) (sla_row #[.int .i64 m, .int .i64 d] (by unfold maxLen; simp)) (hT.on (hb.mono hB)) (by simp; omega) ho (fun i hi => ?_)).mono ?_
  · simp only [List.mem_cons, List.mem_nil_iff, or_false] at hi
    rcases hi with rfl | rfl
    · exact hm
    · exact hd
  · rintro e w' ⟨rfl, hs⟩
    exact ⟨rfl, hs.first hb⟩
theorem blind_any (m d : Int) (h : AR w Z st xs) (hT : Tb B w) (hB : B ≤ w.heap.size) (hm : I64 m) (hd : I64 d) :
    Calls Tryd.prog 39 #[.pointer (some ⟨st, 0, none⟩), .int .i64 m, .int .i64 d] w (MkS w Z st xs (ndN 12 [m, d])) := by
  have HM := hid (two_of Z st xs B w (o := 12) h hT hB (i64_lit (by decide) (by decide)) hm hd)
  clear h hT
  go_enter Tryd.func39, Tryd.ntmps39
  go_wp2_with fail
  refine HM.out.mono ?_
  rintro e w' ⟨rfl, hs⟩
  have HS := hid hs
  clear hs
  go_wp2_with fail
  go_ret2
  exact ⟨rfl, HS.out⟩
theorem sign_any (m d : Int) (h : AR w Z st xs) (hT : Tb B w) (hB : B ≤ w.heap.size) (hm : I64 m) (hd : I64 d) :
    Calls Tryd.prog 42 #[.pointer (some ⟨st, 0, none⟩), .int .i64 m, .int .i64 d] w (MkS w Z st xs (ndN 10 [m, d])) := by
  have HM := hid (two_of Z st xs B w (o := 10) h hT hB (i64_lit (by decide) (by decide)) hm hd)
  clear h hT
  go_enter Tryd.func42, Tryd.ntmps42
  go_wp2_with fail
  refine HM.out.mono ?_
  rintro e w' ⟨rfl, hs⟩
  have HS := hid hs
  clear hs
  go_wp2_with fail
  go_ret2
  exact ⟨rfl, HS.out⟩
/-- Whether a term is of a kind. -/
def ndIs (xs : List ND) (t op : Int) : Bool := nodeE xs t == 0 && (nodeF xs t).o == op
set_option maxHeartbeats 2000000 in
theorem cnode_any (t op : Int) (h : ArV w 93 st xs) :
    Calls Tryd.prog 70 #[.pointer (some ⟨st, 0, none⟩), .int .i64 t, .int .i64 op] w fun e w' => ∃ A c, e = .returned (.tuple #[.agg #[.int .i64 (nodeF xs t).o, .int .i64 (nodeF xs t).n, .string (nodeF xs t).s, .slice A (nodeF xs t).l.length c], .bool (ndIs xs t op)]) ∧ w'.ownsRow w.heap.size 3 1 (.slice A (nodeF xs t).l.length c) (nodeF xs t).l.length ((nodeF xs t).l.map (.int .i64)) ∧ Below w.heap.size w w' := by
  have H := hid h
  have B0 := hid (show Below w.heap.size w (w.alloc (.cells #[.int .i64 0, .int .i64 0, .string ⟨#[]⟩, .slice none 0 0] 59)) from (Below.refl _ _).alloc (Nat.le_refl _) _)
  have X0 := hid (show (w.alloc (.cells #[.int .i64 0, .int .i64 0, .string ⟨#[]⟩, .slice none 0 0] 59)).ownsRow w.heap.size 59 4 (.slice (some ⟨w.heap.size, 0, none⟩) 1 1) 1 [.int .i64 0, .int .i64 0, .string ⟨#[]⟩, .slice none 0 0] from
    ⟨by simp, .inr ⟨w.heap.size, 1, _, rfl, Nat.le_refl _, heap_alloc_new w _, Nat.le_refl _, by decide, rfl, by simp⟩⟩)
  have HN := hid (node_any st xs t _ (H.out.ext B0.out))
  clear h
  unfold ndIs
  generalize nodeF xs t = x at *
  generalize nodeE xs t = ee at *
  go_enter Tryd.func70, Tryd.ntmps70
  go_wp2_with fail
  refine HN.out.mono ?_
  rintro e1 w1 ⟨A, c, rfl, hs, b1⟩
  have HS := hid hs
  have B1 := hid (B0.out.trans (b1.mono B0.out.size))
  have X1 := hid (own_ext X0.out b1)
  have hlt : w.heap.size < w1.heap.size := (X1.out.lt w.heap.size rfl).2
  clear hs b1
  clear HN
  go_upto_region 2 with fail
  have X2 := hid (show (w1.alloc (.cells #[.int .i64 x.o, .int .i64 x.n, .string x.s, .slice A x.l.length c] 59)).ownsRow w1.heap.size 59 4 (.slice (some ⟨w1.heap.size, 0, none⟩) 1 1) 1 [.int .i64 x.o, .int .i64 x.n, .string x.s, .slice A x.l.length c] from
    ⟨by simp, .inr ⟨w1.heap.size, 1, _, rfl, Nat.le_refl _, heap_alloc_new w1 _, Nat.le_refl _, by decide, rfl, by simp⟩⟩)
  have X3 := hid (X1.out.alloc (.cells #[.int .i64 x.o, .int .i64 x.n, .string x.s, .slice A x.l.length c] 59))
  have B2 := hid (B1.out.alloc (by omega) (.cells #[.int .i64 x.o, .int .i64 x.n, .string x.s, .slice A x.l.length c] 59))
  have HS2 := hid (HS.out.alloc (.cells #[.int .i64 x.o, .int .i64 x.n, .string x.s, .slice A x.l.length c] 59))
  refine forget (R := fun W => W = w1.alloc (.cells #[.int .i64 x.o, .int .i64 x.n, .string x.s, .slice A x.l.length c] 59)) ?_ rfl
  intro W hW
  rw [← hW] at X2 X3 B2 HS2
  clear hW
  obtain ⟨⟨k0, k1, k2, k3⟩, f0, f1, f2, f3⟩ := box4 X3.out
  obtain ⟨⟨l0, l1, l2, l3⟩, g0, g1, g2, g3⟩ := box4 X2.out
  have hne1 : ¬ w1.heap.size = w.heap.size := by omega
  have hne2 : ¬ w.heap.size = w1.heap.size := by omega
  have hend : ∀ q : Nat, let W' := ((((W.setCell ⟨w.heap.size, 0, none⟩ (.int .i64 x.o)).setCell ⟨w.heap.size, 1, none⟩ (.int .i64 x.n)).setCell ⟨w.heap.size, 2, none⟩ (.string x.s)).setCell ⟨w.heap.size, 3, none⟩ (.slice A x.l.length c)).drewN q
      (W'.cell? ⟨w.heap.size, 0, none⟩ = some (.int .i64 x.o) ∧ W'.cell? ⟨w.heap.size, 1, none⟩ = some (.int .i64 x.n) ∧ W'.cell? ⟨w.heap.size, 2, none⟩ = some (.string x.s) ∧ W'.cell? ⟨w.heap.size, 3, none⟩ = some (.slice A x.l.length c)) ∧ W'.ownsRow w.heap.size 3 1 (.slice A x.l.length c) x.l.length (x.l.map (.int .i64)) ∧ Below w.heap.size w W' := fun q => by
    have r1 := ((((X3.out.stored 0 (.int .i64 x.o)).1.stored 1 (.int .i64 x.n)).1.stored 2 (.string x.s)).1.stored 3 (.slice A x.l.length c)).1
    refine ⟨(box4 r1).1, ?_, below_drewN ((((B2.out.setCell (p := ⟨w.heap.size, 0, none⟩) (Nat.le_refl _) _).setCell (p := ⟨w.heap.size, 1, none⟩) (Nat.le_refl _) _).setCell (p := ⟨w.heap.size, 2, none⟩) (Nat.le_refl _) _).setCell (p := ⟨w.heap.size, 3, none⟩) (Nat.le_refl _) _) q⟩
    refine own_mono (own_block (w' := ((((W.setCell ⟨w.heap.size, 0, none⟩ (.int .i64 x.o)).setCell ⟨w.heap.size, 1, none⟩ (.int .i64 x.n)).setCell ⟨w.heap.size, 2, none⟩ (.string x.s)).setCell ⟨w.heap.size, 3, none⟩ (.slice A x.l.length c)).drewN q) HS2.out fun b hb => ?_) (by simp)
    have hb1 := (HS2.out.lt b hb).1
    have hb2 : b ≠ w.heap.size := by simp at hb1; omega
    show ((((W.setCell ⟨w.heap.size, 0, none⟩ (.int .i64 x.o)).setCell ⟨w.heap.size, 1, none⟩ (.int .i64 x.n)).setCell ⟨w.heap.size, 2, none⟩ (.string x.s)).setCell ⟨w.heap.size, 3, none⟩ (.slice A x.l.length c)).heap[b]? = _
    rw [Below.heap_setCell _ _ _ b hb2, Below.heap_setCell _ _ _ b hb2, Below.heap_setCell _ _ _ b hb2, Below.heap_setCell _ _ _ b hb2]
  have HEND := hid hend
  clear hend
  rcases he : (ee == 0) with _ | _
  all_goals
    go_region
    obtain ⟨⟨m0, m1, m2, m3⟩, m4, m5⟩ := HEND.out 1
    rw [show ((((W.setCell ⟨w.heap.size, 0, none⟩ (.int .i64 x.o)).setCell ⟨w.heap.size, 1, none⟩ (.int .i64 x.n)).setCell ⟨w.heap.size, 2, none⟩ (.string x.s)).setCell ⟨w.heap.size, 3, none⟩ (.slice A x.l.length c)).drew = ((((W.setCell ⟨w.heap.size, 0, none⟩ (.int .i64 x.o)).setCell ⟨w.heap.size, 1, none⟩ (.int .i64 x.n)).setCell ⟨w.heap.size, 2, none⟩ (.string x.s)).setCell ⟨w.heap.size, 3, none⟩ (.slice A x.l.length c)).drewN 1 from rfl]
    generalize ((((W.setCell ⟨w.heap.size, 0, none⟩ (.int .i64 x.o)).setCell ⟨w.heap.size, 1, none⟩ (.int .i64 x.n)).setCell ⟨w.heap.size, 2, none⟩ (.string x.s)).setCell ⟨w.heap.size, 3, none⟩ (.slice A x.l.length c)).drewN 1 = W9 at *
    have M4 := hid m4; have M5 := hid m5
    clear m4 m5
    go_wp2
  · refine bodyPost_ret (v := .tuple #[.agg #[.int .i64 x.o, .int .i64 x.n, .string x.s, .slice A x.l.length c], .bool false]) ?_ rfl ⟨A, c, rfl, M4.out, M5.out⟩
    rw [results_cell_tmp rfl]
    go_simp
  · refine bodyPost_ret (v := .tuple #[.agg #[.int .i64 x.o, .int .i64 x.n, .string x.s, .slice A x.l.length c], .bool (x.o == op)]) ?_ rfl ⟨A, c, rfl, M4.out, M5.out⟩
    rw [results_cell_tmp rfl]
    go_simp
end
end Go.Proofs.YtanakgbhmmemoaaDoor
