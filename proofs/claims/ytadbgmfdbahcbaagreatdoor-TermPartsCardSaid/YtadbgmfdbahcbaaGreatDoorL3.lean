/- term's law: TermMakes walked. -/
import Derived.Test.YtadbgmfdbahcbaaGreatDoorL2
import Derived.Test.YtadbgmfdbahcbaaGreatDoorM2
import Derived.Test.YtadbgmfdbahcbaaGreatDoorM4
namespace Go.Proofs.YtadbgmfdbahcbaaGreatDoor
open Go.RowKit Go.KK Go.Shelf Go.Maps
set_option linter.unusedVariables false
set_option linter.unusedSimpArgs false

theorem rlen_any (st : Nat) (xs : List ND) (w : World) (h : ArV w 58 st xs) :
    Calls Tryz.prog 17 #[.pointer (some ⟨st, 0, none⟩)] w fun e w' => e = .returned (.int .i64 xs.length) ∧ w' = w := by
  obtain ⟨A, c, m, h0, h1, hn⟩ := h.parts
  clear hn h
  go_enter Tryz.func17, Tryz.ntmps17
  go_wp2
  go_ret
  exact ⟨rfl, rfl⟩
set_option maxHeartbeats 2000000 in
theorem rnode_any (st : Nat) (xs : List ND) (t : Int) (w : World) (h : ArV w 58 st xs) :
    Calls Tryz.prog 19 #[.pointer (some ⟨st, 0, none⟩), .int .i64 t] w fun e w' => ∃ A c, e = .returned (.tuple #[.agg #[.int .i64 (nodeF xs t).o, .int .i64 (nodeF xs t).n, .string (nodeF xs t).s, .slice A (nodeF xs t).l.length c], .int .i64 (nodeE xs t)]) ∧ SlA w' 1 A (nodeF xs t).l.length c ((nodeF xs t).l.map (.int .i64)) ∧ Below w.heap.size w w' := by
  have up : ∀ {p : Addr} {u : Value}, w.cell? p = some u → (w.alloc (.cells #[.int .i64 0, .int .i64 0, .string ⟨#[]⟩, .slice none 0 0] 29)).cell? p = some u := fun hc => (((Below.refl w.heap.size w).alloc (Nat.le_refl _) _).cell (p := _) (block_lt_of_cell hc)).trans hc
  obtain ⟨A, c, m, h0', h1', hn⟩ := h.parts
  have h0 := up h0'; have h1 := up h1'
  have HN := hid hn
  clear h hn h0' h1'
  rcases hh : hasB xs t with _ | _
  · have HF := hid (show nodeF xs t = nd0 by unfold nodeF; rw [hh]; rfl)
    have HE := hid (show nodeE xs t = 4 by unfold nodeE; rw [hh]; rfl)
    have hno : t < 0 ∨ (0 ≤ t ∧ (xs.length : Int) ≤ t) := by
      rcases Int.lt_or_le t 0 with h | h
      · exact .inl h
      · refine .inr ⟨h, ?_⟩
        rcases Int.lt_or_le t (xs.length : Int) with h2 | h2
        · rw [has_iff.2 ⟨h, h2⟩] at hh; cases hh
        · exact h2
    clear hh
    rcases hno with hneg | ⟨h0', hge⟩
    all_goals
      go_enter Tryz.func19, Tryz.ntmps19
      go_wp2_with fail
      refine bodyPost_ret (v := .tuple #[.agg #[.int .i64 0, .int .i64 0, .string ⟨#[]⟩, .slice none 0 0], .int .i64 4]) ?_ rfl ⟨none, 0, ?_, ?_, (Below.refl _ _).alloc (Nat.le_refl _) _⟩
      · rw [results_cell_tmp rfl]
        go_simp
      · rw [HF.out, HE.out]; rfl
      · rw [HF.out]; exact SlA.nil _ _
  · have HF := hid (show nodeE xs t = 0 by unfold nodeE; rw [hh]; rfl)
    have h2 := has_iff.1 hh
    obtain ⟨j, rfl⟩ := Int.eq_ofNat_of_zero_le h2.1
    have hjn : j < xs.length := by omega
    have hjn' : ¬ (xs.length : Int) ≤ (j : Int) := by omega
    have hj0' : ¬ (j : Int) < 0 := by omega
    obtain ⟨bn, on, y, Ay, cy, rfl, hy, y0', y1', y2', y3', hsy⟩ := HN.out.at hjn
    have y0 := up y0'; have y1 := up y1'; have y2 := up y2'; have y3 := up y3'
    have HY := hid (show nodeF xs (j : Int) = y by
      unfold nodeF
      rw [hh, if_pos rfl, Int.toNat_natCast, List.getD, hy]; rfl)
    have HSY := hid hsy
    clear hh hy hsy h2 up y0' y1' y2' y3'
    go_enter Tryz.func19, Tryz.ntmps19
    go_wp2_with fail
    refine bodyPost_ret (v := .tuple #[.agg #[.int .i64 y.o, .int .i64 y.n, .string y.s, .slice Ay y.l.length cy], .int .i64 0]) ?_ rfl ⟨Ay, cy, ?_, ?_, (Below.refl _ _).alloc (Nat.le_refl _) _⟩
    · rw [results_cell_tmp rfl]
      go_simp
    · rw [HY.out, HF.out]
    · rw [HY.out]; exact HSY.out.alloc _
section
variable {w W W' : World} {sa sb : Nat} {Z Z' : Nat → Prop} {xs : List ND}
theorem Tw.turn (h : Tw w W sa sb Z Z' xs) {F : Nat → Prop} (ht : Turn F W W') (hz : ∀ b, Z b → ¬ F b) (hz' : ∀ b, Z' b → ¬ F b) (hf : ∀ b, F b → w.heap.size ≤ b) : Tw w W' sa sb Z Z' xs :=
  ⟨h.a.turn ht hz, h.b.turn ht hz', h.d, h.za, h.zb, h.bl.trans (ht.below hf h.bl.size)⟩
end
/-- The two variables of a round: the node that came in, and its copy with a list of its own. -/
structure Two9 (W : World) (nb : Nat) (x : ND) (q v : Value) : Prop where
  a : W.ownsRow nb 29 4 (.slice (some ⟨nb, 0, none⟩) 1 1) 1 [.int .i64 x.o, .int .i64 x.n, .string x.s, q]
  b : W.ownsRow (nb + 1) 29 4 (.slice (some ⟨nb + 1, 0, none⟩) 1 1) 1 [.int .i64 x.o, .int .i64 x.n, .string x.s, v]
  v : W.ownsRow (nb + 2) 3 1 v x.l.length (x.l.map (.int .i64))
section
variable {W W' : World} {nb : Nat} {x : ND} {q v : Value}
theorem Two9.turn (h : Two9 W nb x q v) {F : Nat → Prop} (ht : Turn F W W') (hf : ∀ b, F b → b < nb) : Two9 W' nb x q v :=
  ⟨own_block h.a fun b hb => ht.block b (h.a.lt b hb).2 fun k => by have := hf b k; have := (h.a.lt b hb).1; omega,
   own_block h.b fun b hb => ht.block b (h.b.lt b hb).2 fun k => by have := hf b k; have := (h.b.lt b hb).1; omega,
   own_block h.v fun b hb => ht.block b (h.v.lt b hb).2 fun k => by have := hf b k; have := (h.v.lt b hb).1; omega⟩
theorem two9_new {W2 w3 : World} {W : World} (hW : W2 = (W.alloc (.cells #[.int .i64 x.o, .int .i64 x.n, .string x.s, q] 29)).alloc (.cells #[.int .i64 x.o, .int .i64 x.n, .string x.s, q] 29))
    (h3 : w3.ownsRow W2.heap.size 3 1 v x.l.length (x.l.map (.int .i64))) (b3 : Below W2.heap.size W2 w3) : Two9 (w3.setCell ⟨W.heap.size + 1, 3, none⟩ v) W.heap.size x q v := by
  have s1 : (W.alloc (.cells #[.int .i64 x.o, .int .i64 x.n, .string x.s, q] 29)).heap.size = W.heap.size + 1 := by simp
  have s2 : W2.heap.size = W.heap.size + 2 := by rw [hW]; simp
  have a2 : W2.ownsRow W.heap.size 29 4 (.slice (some ⟨W.heap.size, 0, none⟩) 1 1) 1 [.int .i64 x.o, .int .i64 x.n, .string x.s, q] := by
    rw [hW]; exact own_ext box_new ((Below.refl _ _).alloc (Nat.le_refl _) _)
  have b2 : W2.ownsRow (W.heap.size + 1) 29 4 (.slice (some ⟨W.heap.size + 1, 0, none⟩) 1 1) 1 [.int .i64 x.o, .int .i64 x.n, .string x.s, q] := by
    rw [hW]
    have := box_new (w := W.alloc (.cells #[.int .i64 x.o, .int .i64 x.n, .string x.s, q] 29)) (v0 := .int .i64 x.o) (v1 := .int .i64 x.n) (v2 := .string x.s) (v3 := q) (T := 29)
    rw [s1] at this
    exact this
  refine ⟨own_block (own_ext a2 b3) fun b hb => Below.heap_setCell _ _ _ b ?_, ((own_ext b2 b3).stored 3 v).1, own_mono (own_block h3 fun b hb => Below.heap_setCell _ _ _ b ?_) (by omega)⟩
  · injection hb with hb
    simp only at hb
    show b ≠ W.heap.size + 1
    omega
  · have := (h3.lt b hb).1
    show b ≠ W.heap.size + 1
    omega
end
theorem boxes_at {W w3 : World} {x : ND} {q : Value} (b3 : Below ((W.alloc (.cells #[.int .i64 x.o, .int .i64 x.n, .string x.s, q] 29)).alloc (.cells #[.int .i64 x.o, .int .i64 x.n, .string x.s, q] 29)).heap.size ((W.alloc (.cells #[.int .i64 x.o, .int .i64 x.n, .string x.s, q] 29)).alloc (.cells #[.int .i64 x.o, .int .i64 x.n, .string x.s, q] 29)) w3) :
    (w3.cell? ⟨W.heap.size + 1, 0, none⟩ = some (.int .i64 x.o) ∧ w3.cell? ⟨W.heap.size + 1, 1, none⟩ = some (.int .i64 x.n) ∧ w3.cell? ⟨W.heap.size + 1, 2, none⟩ = some (.string x.s) ∧ w3.cell? ⟨W.heap.size + 1, 3, none⟩ = some q) ∧ w3.frozen? ⟨W.heap.size + 1, 0, none⟩ = false ∧ w3.frozen? ⟨W.heap.size + 1, 1, none⟩ = false ∧ w3.frozen? ⟨W.heap.size + 1, 2, none⟩ = false ∧ w3.frozen? ⟨W.heap.size + 1, 3, none⟩ = false := by
  have h := own_ext (box_new (w := W.alloc (.cells #[.int .i64 x.o, .int .i64 x.n, .string x.s, q] 29)) (v0 := .int .i64 x.o) (v1 := .int .i64 x.n) (v2 := .string x.s) (v3 := q) (T := 29)) b3
  rw [show (W.alloc (.cells #[.int .i64 x.o, .int .i64 x.n, .string x.s, q] 29)).heap.size = W.heap.size + 1 by simp] at h
  exact box4 h
set_option maxHeartbeats 8000000 in
set_option maxRecDepth 100000 in
theorem makes_go (A : Option Addr) (n c : Nat) (l : List ND) (t : Int) (w : World) (hl : NdA w A n c l) (hI : ∀ x ∈ l, NdW x) (hT : Tb w.heap.size w) : Calls Tryz.prog 4 #[.slice A n c, .int .i64 t] w fun e w' => e = .returned (.bool true) ∧ Below w.heap.size w w' := by
  have hln := hl.len
  have HT := hid hT; have HL := hid hl; have HI := hid hI
  have HLV := hid (live_any w hT)
  clear hT hl hI
  obtain ⟨i0, hi, hz0, hz1, hz2⟩ := info_parts Tryz.infoInt
  go_enter Tryz.func4, Tryz.ntmps4
  go_wp2_with fail
  refine HLV.out.mono ?_
  rintro e w1 ⟨rfl, b1⟩
  have HB1 := hid b1
  clear b1
  go_wp2_with fail
  refine (few_any A n c l _ (HL.out.ext HB1.out)).mono ?_
  rintro e w2 ⟨rfl, b2⟩
  have HB2 := hid (HB1.out.trans (b2.mono HB1.out.size))
  clear b2 HB1
  rcases hf : fewB l with _ | _
  · go_wp2_with fail
    go_ret
    exact ⟨rfl, HB2.out⟩
  have HFW := hid (few_iff.1 hf).2
  have hn300 : n ≤ 300 := by have := (few_iff.1 hf).1; omega
  clear hf
  go_wp2_with fail
  refine (new_any _).mono ?_
  rintro e w3 ⟨Z0, sa, rfl, h1, h2, h3⟩
  go_wp2_with fail
  refine (rnew_any _).mono ?_
  rintro e w4 ⟨Z1, sb, rfl, k1, k2, k3⟩
  have LC := hid (show Tw w w4 sa sb Z0 Z1 [] from ⟨h1.ext k3, k1, fun b hb hb' => by have := h1.zlt b hb; have := k2 b hb'; omega, fun b hb => Nat.le_trans HB2.out.size (h2 b hb), fun b hb => Nat.le_trans (Nat.le_trans HB2.out.size h3.size) (k2 b hb), (HB2.out.trans (h3.mono HB2.out.size)).trans (k3.mono (Nat.le_trans HB2.out.size h3.size))⟩)
  clear h1 h2 h3 k1 k2 k3 HB2
  go_wp2_with fail
  go_loopw [34] (fun v wr => ∃ (j : Nat) (Z Z' : Nat → Prop), v = .int .i64 j ∧ j ≤ n ∧ Tw w wr sa sb Z Z' (mksT [] (l.take j))) (fun v _ => n - (intOf v).toNat)
  case atStart => exact ⟨0, Z0, Z1, rfl, Nat.zero_le _, LC.out⟩
  case round =>
    clear LC
    obtain ⟨j, Z, Z', hv, hj, ht⟩ := hrel
    subst hv
    have HTT := hid ht
    clear ht
    by_cases hlt : j < n
    · obtain ⟨b, off, x, A', c', rfl, hx, y0', y1', y2', y3', ys⟩ := HL.out.at hlt
      have up : ∀ {p : Addr} {u : Value}, w.cell? p = some u → wr.cell? p = some u := fun h => (HTT.out.bl.cell (p := _) (block_lt_of_cell h)).trans h
      have y0 := up y0'; have y1 := up y1'; have y2 := up y2'; have y3 := up y3'
      clear up y0' y1' y2' y3'
      have HS := hid ys
      have HXI := hid (ndI_w (HI.out x (List.mem_of_getElem? hx)))
      have HM1 := hid (mksT_take (xs := []) hx)
      have HXL := hid (show x.l.length ≤ 80 from (HFW.out x (List.mem_of_getElem? hx)).2)
      clear hx ys
      have hlt' : (j : Int) < (n : Int) := by omega
      have HZ1 := hid HTT.out.a.zlt
      have HZ2 := hid HTT.out.b.zlt
      have hbe : Below wr.heap.size wr ((wr.alloc (.cells #[.int .i64 x.o, .int .i64 x.n, .string x.s, .slice A' x.l.length c'] 29)).alloc (.cells #[.int .i64 x.o, .int .i64 x.n, .string x.s, .slice A' x.l.length c'] 29)) := ((Below.refl _ _).alloc (Nat.le_refl _) _).alloc (by simp) _
      have HBE := hid hbe
      clear hbe
      have h3w : w.heap.size ≤ wr.heap.size := HTT.out.sz
      go_upto_region 10 with fail
      go_upto_region 11 with (first
        | (at_builtin; refine wpList_append_new _ rfl _ _ 27 rfl 3 i0 (.int .i64 0) 1 8 Tryz.underlying27 hi hz0 hz1 hz2 rfl (by decide) rfl A' x.l.length c' _ rfl ((HS.out.ext HTT.out.bl).ext HBE.out) (ints_one _ _) (by have := HXL.out; unfold maxLen; omega) (by have := HXL.out; omega) ?_; intro v5 w5 own5 b5; obtain ⟨A5, c5, rfl, -⟩ := SlA.owned own5; have HW5 := hid (two9_new rfl own5 b5); have HB5 := hid (HBE.out.trans (b5.mono HBE.out.size)); have hb5 := boxes_at b5; obtain ⟨⟨p0, p1, p2, p3⟩, f0, f1, f2, f3⟩ := hb5; clear own5 b5)
        | fail)
      have HTW := (HTT.out.ext HB5.out).turn (Turn.setCell (F := fun b => b = wr.heap.size + 1) (w := w5) (a := ⟨wr.heap.size + 1, 3, none⟩) (.slice A5 x.l.length c5) (.inl rfl)) (fun b h e => by have := HZ1.out b h; omega) (fun b h e => by have := HZ2.out b h; omega) (fun b e => by omega)
      refine forget (R := fun W => Two9 W wr.heap.size x (.slice A' x.l.length c') (.slice A5 x.l.length c5) ∧ Tw w W sa sb Z Z' (mksT [] (l.take j))) ?_ ⟨HW5.out, HTW⟩
      clear HW5 HTW HB5 HTT HBE p0 p1 p2 p3 f0 f1 f2 f3 y0 y1 y2 y3
      rintro W6 ⟨h6, t6⟩
      have H6 := hid h6; have T6 := hid t6
      clear h6 t6
      obtain ⟨⟨p0, p1, p2, p3⟩, -⟩ := box4 H6.out.b
      go_wp2_with fail
      refine (mke_any Z sa _ w.heap.size W6 x A5 c5 T6.out.a (SlA.of_own H6.out.v).2 (HT.out.on T6.out.bl) T6.out.sz HXI.out).mono ?_
      rintro e W7 ⟨rfl, hs7⟩
      obtain ⟨Z7, a7, q7, d7, z7, n7, t7, b7⟩ := T6.out.mkA hs7
      have H7 := hid (H6.out.turn t7 (fun b hb => HZ1.out b hb))
      have A7 := hid a7; have Q7 := hid q7; have D7 := hid d7; have ZZ7 := hid z7; have B7 := hid b7
      have ZB := hid T6.out.zb
      have HN7 := hid n7
      have HVL := hid (show ∀ b, (Value.slice A5 x.l.length c5).ownBlock = some b → b < W6.heap.size from fun b hb => (H6.out.v.lt b hb).2)
      clear a7 q7 d7 z7 n7 t7 b7 hs7 p0 p1 p2 p3 H6 T6
      obtain ⟨⟨p0, p1, p2, p3⟩, -⟩ := box4 H7.out.a
      go_wp2_with fail
      refine (rmke_any Z' sb _ W7 x A' c' Q7.out (HS.out.ext B7.out) HXI.out).mono ?_
      rintro e W8 ⟨rfl, hs8⟩
      obtain ⟨Z8, t8, u8, n8⟩ := Tw.mkB A7.out Q7.out D7.out ZZ7.out ZB.out B7.out hs8
      have H8 := hid (H7.out.turn u8 (fun b hb => HZ2.out b hb))
      have HV8 := hid (show ∀ b, (Value.slice A5 x.l.length c5).ownBlock = some b → ¬ Z7 b ∧ ¬ Z8 b ∧ w.heap.size ≤ b from fun b hb => by
        have h1 := (H7.out.v.lt b hb).1
        have h2 := (H7.out.v.lt b hb).2
        refine ⟨fun hz => ?_, fun hz => ?_, by omega⟩
        · rcases HN7.out b hz with h | h
          · have := HZ1.out b h; omega
          · have := HVL.out b hb; omega
        · rcases n8 b hz with h | h
          · have := HZ2.out b h; omega
          · omega)
      rw [← HM1.out] at t8
      have T8 := hid t8
      clear t8 u8 n8 hs8 p0 p1 p2 p3 H7 A7 Q7 D7 ZZ7 B7 ZB HN7
      obtain ⟨⟨p0, p1, p2, p3⟩, -⟩ := box4 H8.out.b
      generalize makI (mksT [] (l.take j)) x = mi at *
      generalize makE (mksT [] (l.take j)) x = me at *
      go_wp2_with fail
      go_loopw [58] (fun v wq => ∃ (q : Nat) (u : List Value), v = .int .i64 q ∧ q ≤ x.l.length ∧ Turn (fun b => (Value.slice A5 x.l.length c5).ownBlock = some b) W8 wq ∧ wq.ownsRow (wr.heap.size + 2) 3 1 (.slice A5 x.l.length c5) x.l.length u) (fun v _ => x.l.length - (intOf v).toNat)
      case atStart => exact ⟨0, _, rfl, Nat.zero_le _, Turn.refl _ _, H8.out.v⟩
      case round =>
        clear p0 p1 p2 p3
        obtain ⟨q, u, hv, hq, htu, hou⟩ := hrel
        subst hv
        have TU := hid htu; have OU := hid hou
        clear htu hou
        have hxl80 := HXL.out
        have T9 := hid (T8.out.turn TU.out (fun b hz e => (HV8.out b e).1 hz) (fun b hz e => (HV8.out b e).2.1 hz) (fun b e => (HV8.out b e).2.2))
        have B9 := hid (own_block H8.out.b (w' := wr) fun b hb => TU.out.block b (H8.out.b.lt b hb).2 fun e => by
          injection hb with hb
          have := (H8.out.v.lt b e).1
          simp only at hb
          omega)
        by_cases hlq : q < x.l.length
        · have hlq' : (q : Int) < (x.l.length : Int) := by omega
          obtain ⟨⟨p0, p1, p2, p3⟩, -⟩ := box4 B9.out
          obtain ⟨g, rfl⟩ : ∃ g, A5 = some ⟨g, 0, none⟩ := by
            rcases OU.out.2 with ⟨_, h0⟩ | ⟨g, cap, cur, e, _⟩
            · omega
            · injection e with e _; exact ⟨g, e⟩
          have hul : u.length = x.l.length := by have := OU.out.1; omega
          have hcq := OU.out.cells rfl q (u[q]'(by omega)) (List.getElem?_eq_getElem (by omega))
          have hfq := OU.out.frozenAt q
          rw [add_lit, Nat.zero_add] at hcq
          go_wp2_with fail
          go_roundw
          case rel => exact ⟨q + 1, _, by go_num, by omega, TU.out.trans (Turn.setCell (F := fun b => (Value.slice (some ⟨g, 0, none⟩) x.l.length c5).ownBlock = some b) (a := ⟨g, q, none⟩) _ (.inl rfl)) (fun b h => .inl h), (OU.out.stored q _).1⟩
          case measure => simp [intOf]; omega
        · obtain rfl : q = x.l.length := by omega
          have hlq' : ¬ (x.l.length : Int) < (x.l.length : Int) := by omega
          have h1 : (mi != mi) = false := by simp
          have h2 : (me != me) = false := by simp
          go_wp2_with fail
          refine (len_any sa _ _ T9.out.a.vw).mono ?_
          rintro e W10 ⟨rfl, hw⟩
          subst hw
          go_wp2_with fail
          refine (rlen_any sb _ _ T9.out.b.vw).mono ?_
          rintro e W10 ⟨rfl, hw⟩
          subst hw
          have h3 : (((mksT [] (l.take (j + 1))).length : Int) != ((mksT [] (l.take (j + 1))).length : Int)) = false := by simp
          go_wp2_with fail
          go_roundw
          case rel => exact ⟨j + 1, Z7, Z8, by go_num, by omega, T9.out⟩
          case measure => simp [intOf]; omega
    · obtain rfl : j = n := by omega
      have hlt' : ¬ (j : Int) < (j : Int) := by omega
      rw [show l.take j = l from List.take_of_length_le (by omega)] at HTT
      have hXl : (mksT [] l).length ≤ 300 := by have := mks_len [] l; simp at this; omega
      generalize mksT [] l = X at *
      go_wp2_with fail
      refine (rlen_any sb _ _ HTT.out.b.vw).mono ?_
      rintro e W10 ⟨rfl, hw⟩
      subst hw
      go_wp2_with fail
      go_loopw [84] (fun v wq => ∃ i : Nat, v = .int .i64 i ∧ i ≤ X.length ∧ Tw w wq sa sb Z Z' X) (fun v _ => X.length - (intOf v).toNat)
      case atStart => exact ⟨0, rfl, Nat.zero_le _, HTT.out⟩
      case round =>
        clear HTT
        obtain ⟨i, hv, hi', ht⟩ := hrel
        subst hv
        have HTT := hid ht
        clear ht
        by_cases hlt : i < X.length
        · have hlt' : (i : Int) < (X.length : Int) := by omega
          have hxl64 : (nodeF X (i : Int)).l.length ≤ 64 := by
            have hh : hasB X (i : Int) = true := has_iff.2 ⟨by omega, by omega⟩
            have := HTT.out.a.ok.may _ _ (nodeF_get hh)
            unfold mayB shB at this
            simp only [Bool.and_eq_true, decide_eq_true_eq] at this
            exact this.1.1.1.1.1.1.2
          have HX64 := hid hxl64
          clear hxl64
          have HNA := hid (fun (W : World) (h : Tw w W sa sb Z Z' X) => node_any sa X (i : Int) W h.a.vw)
          have HNB := hid (fun (W : World) (h : Tw w W sa sb Z Z' X) => rnode_any sb X (i : Int) W h.b.vw)
          generalize nodeF X (i : Int) = x at *
          generalize nodeE X (i : Int) = ee at *
          go_wp2_with fail
          refine (HNA.out _ HTT.out).mono ?_
          rintro e W1 ⟨A1, c1, rfl, o1, b1⟩
          have S1 := hid (SlA.of_own o1).2
          have X1 := hid (box_new (w := W1) (v0 := .int .i64 x.o) (v1 := .int .i64 x.n) (v2 := .string x.s) (v3 := .slice A1 x.l.length c1) (T := 29))
          have T1 := hid (HTT.out.ext (b1.alloc b1.size (.cells #[.int .i64 x.o, .int .i64 x.n, .string x.s, .slice A1 x.l.length c1] 29)))
          have S1' := hid (S1.out.alloc (.cells #[.int .i64 x.o, .int .i64 x.n, .string x.s, .slice A1 x.l.length c1] 29))
          clear o1 b1 HTT S1
          go_upto_region 25 with fail
          refine forget (R := fun W => W.ownsRow W1.heap.size 29 4 (.slice (some ⟨W1.heap.size, 0, none⟩) 1 1) 1 [.int .i64 x.o, .int .i64 x.n, .string x.s, .slice A1 x.l.length c1] ∧ Tw w W sa sb Z Z' X ∧ SlA W 1 A1 x.l.length c1 (x.l.map (.int .i64))) ?_ ⟨X1.out, T1.out, S1'.out⟩
          clear X1 T1 S1'
          rintro W2 ⟨x2, t2, s2⟩
          have X2 := hid x2; have T2 := hid t2; have S2 := hid s2
          clear x2 t2 s2
          go_wp2_with fail
          refine (HNB.out _ T2.out).mono ?_
          rintro e W3 ⟨A3, c3, rfl, s3, b3⟩
          have S3 := hid s3
          have X3 := hid (own_ext X2.out b3); have T3 := hid (T2.out.ext b3); have S2' := hid (S2.out.ext b3)
          clear s3 b3 X2 T2 S2
          have hw13 : W1.heap.size < W3.heap.size := (X3.out.lt _ rfl).2
          go_upto_region 26 with fail
          have Y4 := box_new (w := W3) (v0 := .int .i64 x.o) (v1 := .int .i64 x.n) (v2 := .string x.s) (v3 := .slice A3 x.l.length c3) (T := 29)
          have hb4 : Below W3.heap.size W3 (W3.alloc (.cells #[.int .i64 x.o, .int .i64 x.n, .string x.s, .slice A3 x.l.length c3] 29)) := (Below.refl _ _).alloc (Nat.le_refl _) _
          obtain ⟨⟨p0, p1, p2, p3⟩, -⟩ := box4 (own_ext X3.out hb4)
          obtain ⟨⟨q0, q1, q2, q3⟩, -⟩ := box4 Y4
          have T4 := hid (T3.out.ext hb4); have S4 := hid (S2'.out.ext hb4); have S5 := hid (S3.out.ext hb4)
          clear Y4 hb4 X3 T3 S2' S3
          have h1 : (ee != ee) = false := by simp
          go_wp2_with fail
          refine (same_node x x A1 A3 c1 c3 _ S4.out S5.out (by have := HX64.out; omega) (by have := HX64.out; omega)).mono ?_
          rintro e W5 ⟨rfl, b5⟩
          have T5 := hid (T4.out.ext b5)
          rw [show decide (x = x) = true from decide_eq_true rfl]
          clear b5 T4 S4 S5 p0 p1 p2 p3 q0 q1 q2 q3
          go_wp2_with fail
          go_roundw
          case rel => exact ⟨i + 1, by go_num, by omega, T5.out⟩
          case measure => simp [intOf]; omega
        · obtain rfl : i = X.length := by omega
          have hlt' : ¬ (X.length : Int) < (X.length : Int) := by omega
          have HNA := hid (fun (W : World) (h : Tw w W sa sb Z Z' X) => node_any sa X t W h.a.vw)
          have HNB := hid (fun (W : World) (h : Tw w W sa sb Z Z' X) => rnode_any sb X t W h.b.vw)
          generalize nodeF X t = x at *
          generalize nodeE X t = ee at *
          have h1 : (ee == ee) = true := by simp
          go_wp2_with fail
          refine (HNA.out _ HTT.out).mono ?_
          rintro e W1 ⟨A1, c1, rfl, o1, b1⟩
          have T1 := hid (HTT.out.ext (b1.alloc b1.size (.cells #[.int .i64 x.o, .int .i64 x.n, .string x.s, .slice A1 x.l.length c1] 29)))
          clear o1 b1 HTT
          go_wp2_with fail
          refine (HNB.out _ T1.out).mono ?_
          rintro e W3 ⟨A3, c3, rfl, s3, b3⟩
          have T3 := hid (T1.out.ext (b3.alloc b3.size (.cells #[.int .i64 x.o, .int .i64 x.n, .string x.s, .slice A3 x.l.length c3] 29)))
          clear s3 b3 T1
          go_wp2_with fail
          go_ret
          exact ⟨rfl, T3.out.bl⟩
end Go.Proofs.YtadbgmfdbahcbaaGreatDoor
