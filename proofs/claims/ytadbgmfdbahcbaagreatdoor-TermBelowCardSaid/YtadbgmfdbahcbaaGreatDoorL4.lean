/- term's law: TermBelow walked. -/
import Derived.Test.YtadbgmfdbahcbaaGreatDoorL2
import Derived.Test.YtadbgmfdbahcbaaGreatDoorP1
namespace Go.KK
open Go.RowKit Classical
set_option linter.unusedVariables false
set_option linter.unusedSimpArgs false

/-- How many terms one is made of. -/
noncomputable def sizeF (xs : List ND) (t : Int) : Nat := ((List.range xs.length).filter fun j => decide (Rch xs t ((j : Nat) : Int))).length
theorem size_is {xs : List ND} (ok : Okay xs) (t : Int) : SizeIs xs t (sizeF xs t) := by
  refine ⟨((List.range xs.length).filter fun j => decide (Rch xs t ((j : Nat) : Int))).map fun j => ((j : Nat) : Int), ?_, fun y => ?_, by rw [List.length_map]; rfl⟩
  · exact List.Pairwise.map _ (fun a b h e => h (by have e' : (a : Int) = (b : Int) := e; omega)) (List.Pairwise.filter _ List.nodup_range)
  · simp only [List.mem_map, List.mem_filter, List.mem_range, decide_eq_true_eq]
    constructor
    · rintro ⟨j, ⟨_, h⟩, rfl⟩; exact h
    · intro h
      have h1 := (h.has ok).2.1
      have h2 := has_iff.1 h1
      have e : ((y.toNat : Nat) : Int) = y := by omega
      exact ⟨y.toNat, ⟨by omega, by rw [e]; exact h⟩, e⟩
theorem sizeF_app {xs : List ND} (ok : Okay xs) (m : List ND) (ok2 : Okay (xs ++ m)) {t : Int} (h : hasB xs t = true) : sizeF (xs ++ m) t = sizeF xs t :=
  size_uniq ((size_app ok m h).1 (size_is ok2 t)) (size_is ok t)
end Go.KK
namespace Go.Proofs.YtadbgmfdbahcbaaGreatDoor
open Go.RowKit Go.KK Go.Shelf Go.Maps

theorem size_anyF (sa : Nat) (xs : List ND) (t : Int) (w : World) (hA : ArV w 53 sa xs) : Calls Tryz.prog 21 #[.pointer (some ⟨sa, 0, none⟩), .int .i64 t] w fun e w' => e = .returned (.int .i64 (sizeF xs t)) ∧ Below w.heap.size w w' := by
  refine (size_any sa xs t w hA).mono ?_
  rintro e w' ⟨n, rfl, hn, hb⟩
  rw [size_uniq hn (size_is hA.ok t)]
  exact ⟨rfl, hb⟩
/-- Two arenas of the program's. -/
structure T2 (w W : World) (sa sb : Nat) (Z Z' : Nat → Prop) (xs ys : List ND) : Prop where
  a : AR W Z sa xs
  b : AR W Z' sb ys
  d : ∀ b, Z b → ¬ Z' b
  za : ∀ b, Z b → w.heap.size ≤ b
  zb : ∀ b, Z' b → w.heap.size ≤ b
  bl : Below w.heap.size w W
section
variable {w W W' : World} {sa sb : Nat} {Z Z' : Nat → Prop} {xs ys zs : List ND}
theorem T2.ext (h : T2 w W sa sb Z Z' xs ys) (hb : Below W.heap.size W W') : T2 w W' sa sb Z Z' xs ys :=
  ⟨h.a.ext hb, h.b.ext hb, h.d, h.za, h.zb, h.bl.trans (hb.mono h.bl.size)⟩
theorem T2.sz (h : T2 w W sa sb Z Z' xs ys) : w.heap.size ≤ W.heap.size := h.bl.size
theorem T2.mkA (h : T2 w W sa sb Z Z' xs ys) (hs : ArS W Z sa zs W') : ∃ Z2, T2 w W' sa sb Z2 Z' zs ys ∧ Mv Z W Z2 W' := by
  obtain ⟨Z2, h1, h2, h3⟩ := hs
  refine ⟨Z2, ⟨h1, h.b.turn h2 (fun b h' k => h.d b k h'), fun b h2' h' => ?_, fun b h' => (h3 b h').elim (h.za b) fun h'' => Nat.le_trans h.sz h'', h.zb, h.bl.trans (h2.below h.za h.sz)⟩, ⟨h2, h3⟩⟩
  rcases h3 b h2' with h'' | h''
  · exact h.d b h'' h'
  · have := h.b.zlt b h'; omega
theorem T2.mkB (h : T2 w W sa sb Z Z' xs ys) (hs : ArS W Z' sb zs W') : ∃ Z2, T2 w W' sa sb Z Z2 xs zs ∧ Mv Z' W Z2 W' := by
  obtain ⟨Z2, h1, h2, h3⟩ := hs
  refine ⟨Z2, ⟨h.a.turn h2 (fun b h' k => h.d b h' k), h1, fun b h' h2' => ?_, h.za, fun b h' => (h3 b h').elim (h.zb b) fun h'' => Nat.le_trans h.sz h'', h.bl.trans (h2.below h.zb h.sz)⟩, ⟨h2, h3⟩⟩
  rcases h3 b h2' with h'' | h''
  · exact h.d b h' h''
  · have := h.a.zlt b h'; omega
end
set_option maxHeartbeats 8000000 in
set_option maxRecDepth 100000 in
theorem below_go (A : Option Addr) (n c : Nat) (l : List ND) (A2 : Option Addr) (n2 c2 : Nat) (l2 : List ND) (w : World) (hl : NdA w A n c l) (hI : ∀ x ∈ l, NdW x) (hl2 : NdA w A2 n2 c2 l2) (hI2 : ∀ x ∈ l2, NdW x) (hT : Tb w.heap.size w) :
    Calls Tryz.prog 6 #[.slice A n c, .slice A2 n2 c2] w fun e w' => e = .returned (.bool true) ∧ Below w.heap.size w w' := by
  have hln := hl.len
  have hln2 := hl2.len
  have HT := hid hT; have HL := hid hl; have HI := hid hI; have HL2 := hid hl2; have HI2 := hid hI2
  have HLV := hid (live_any w hT)
  clear hT hl hI hl2 hI2
  go_enter Tryz.func6, Tryz.ntmps6
  go_wp2_with fail
  refine HLV.out.mono ?_
  rintro e w1 ⟨rfl, b1⟩
  have HB1 := hid b1
  clear b1
  go_wp2_with fail
  refine (few_any A n c l _ (HL.out.ext HB1.out)).mono ?_
  rintro e w2 ⟨rfl, b2⟩
  have HB2 := hid (HB1.out.trans (b2.mono HB1.out.size))
  clear b2 HB1
  rcases hf : fewB l with _ | _
  · go_wp2_with fail
    go_ret
    exact ⟨rfl, HB2.out⟩
  go_wp2_with fail
  refine (few_any A2 n2 c2 l2 _ (HL2.out.ext HB2.out)).mono ?_
  rintro e w3 ⟨rfl, b3⟩
  have HB3 := hid (HB2.out.trans (b3.mono HB2.out.size))
  clear b3 HB2
  rcases hf2 : fewB l2 with _ | _
  · go_wp2_with fail
    go_ret
    exact ⟨rfl, HB3.out⟩
  have hn300 : n ≤ 300 := by have := (few_iff.1 hf).1; omega
  have hn302 : n2 ≤ 300 := by have := (few_iff.1 hf2).1; omega
  clear hf hf2
  go_wp2_with fail
  refine (new_any _).mono ?_
  rintro e w4 ⟨Z0, sa, rfl, h1, h2, h3⟩
  go_wp2_with fail
  refine (new_any _).mono ?_
  rintro e w5 ⟨Z1, sb, rfl, k1, k2, k3⟩
  have LC := hid (show T2 w w5 sa sb Z0 Z1 [] [] from ⟨h1.ext k3, k1, fun b hb hb' => by have := h1.zlt b hb; have := k2 b hb'; omega, fun b hb => Nat.le_trans HB3.out.size (h2 b hb), fun b hb => Nat.le_trans (Nat.le_trans HB3.out.size h3.size) (k2 b hb), (HB3.out.trans (h3.mono HB3.out.size)).trans (k3.mono (Nat.le_trans HB3.out.size h3.size))⟩)
  clear h1 h2 h3 k1 k2 k3 HB3
  go_wp2_with fail
  go_loopw [33] (fun v wr => ∃ (j : Nat) (Z Z' : Nat → Prop), v = .int .i64 j ∧ j ≤ n ∧ T2 w wr sa sb Z Z' (mksT [] (l.take j)) (mksT [] (l.take j))) (fun v _ => n - (intOf v).toNat)
  case atStart => exact ⟨0, Z0, Z1, rfl, Nat.zero_le _, LC.out⟩
  case round =>
    clear LC
    obtain ⟨j, Z, Z', hv, hj, ht⟩ := hrel
    subst hv
    have HTT := hid ht
    clear ht
    by_cases hlt : j < n
    · obtain ⟨b, off, x, A', c', rfl, hx, y0', y1', y2', y3', ys⟩ := HL.out.at hlt
      have up : ∀ {p : Addr} {u : Value}, w.cell? p = some u → wr.cell? p = some u := fun h => (HTT.out.bl.cell (p := _) (block_lt_of_cell h)).trans h
      have y0 := up y0'; have y1 := up y1'; have y2 := up y2'; have y3 := up y3'
      clear up y0' y1' y2' y3'
      have HS := hid ys
      have HXI := hid (ndI_w (HI.out x (List.mem_of_getElem? hx)))
      have HM1 := hid (mksT_take (xs := []) hx)
      clear hx ys
      have hlt' : (j : Int) < (n : Int) := by omega
      have hal : Below wr.heap.size wr (wr.alloc (.cells #[.int .i64 x.o, .int .i64 x.n, .string x.s, .slice A' x.l.length c'] 29)) := (Below.refl _ _).alloc (Nat.le_refl _) _
      have HT1 := hid (HTT.out.ext hal)
      have HXB := hid (box_new (w := wr) (v0 := .int .i64 x.o) (v1 := .int .i64 x.n) (v2 := .string x.s) (v3 := .slice A' x.l.length c') (T := 29))
      have HZ1 := hid HTT.out.a.zlt
      clear hal HTT
      go_wp2_with fail
      refine (mke_any Z sa _ w.heap.size _ x A' c' HT1.out.a (HS.out.ext HT1.out.bl) (HT.out.on HT1.out.bl) HT1.out.sz HXI.out).mono ?_
      rintro e W2 ⟨rfl, hs2⟩
      obtain ⟨Z2, t2, v2⟩ := HT1.out.mkA hs2
      have HT2 := hid t2
      have HX2 := hid (box_mv HXB.out (fun b hb => HZ1.out b hb) v2)
      clear t2 v2 hs2 HT1 HXB y0 y1 y2 y3
      obtain ⟨⟨p0, p1, p2, p3⟩, -⟩ := box4 HX2.out
      go_wp2_with fail
      refine (mke_any Z' sb _ w.heap.size _ x A' c' HT2.out.b (HS.out.ext HT2.out.bl) (HT.out.on HT2.out.bl) HT2.out.sz HXI.out).mono ?_
      rintro e W3 ⟨rfl, hs3⟩
      obtain ⟨Z3, t3, -⟩ := HT2.out.mkB hs3
      rw [← HM1.out] at t3
      have HT3 := hid t3
      clear t3 hs3 HT2 HX2 p0 p1 p2 p3
      go_wp2_with fail
      go_roundw
      case rel => exact ⟨j + 1, Z2, Z3, by go_num, by omega, HT3.out⟩
      case measure => simp [intOf]; omega
    · obtain rfl : j = n := by omega
      have hlt' : ¬ (j : Int) < (j : Int) := by omega
      rw [show l.take j = l from List.take_of_length_le (by omega)] at HTT
      have hXl : (mksT [] l).length ≤ 300 := by have := mks_len [] l; simp at this; omega
      generalize mksT [] l = X at *
      go_wp2_with fail
      go_loopw [46] (fun v wr => ∃ (j2 : Nat) (Z' : Nat → Prop), v = .int .i64 j2 ∧ j2 ≤ n2 ∧ T2 w wr sa sb Z Z' X (mksT X (l2.take j2))) (fun v _ => n2 - (intOf v).toNat)
      case atStart => exact ⟨0, Z', rfl, Nat.zero_le _, HTT.out⟩
      case round =>
        clear HTT
        obtain ⟨j2, Z', hv, hj, ht⟩ := hrel
        subst hv
        have HTT := hid ht
        clear ht
        by_cases hlt : j2 < n2
        · obtain ⟨b, off, x, A', c', rfl, hx, y0', y1', y2', y3', ys⟩ := HL2.out.at hlt
          have up : ∀ {p : Addr} {u : Value}, w.cell? p = some u → wr.cell? p = some u := fun h => (HTT.out.bl.cell (p := _) (block_lt_of_cell h)).trans h
          have y0 := up y0'; have y1 := up y1'; have y2 := up y2'; have y3 := up y3'
          clear up y0' y1' y2' y3'
          have HS := hid ys
          have HXI := hid (ndI_w (HI2.out x (List.mem_of_getElem? hx)))
          have HM1 := hid (mksT_take (xs := X) hx)
          clear hx ys
          have hlt' : (j2 : Int) < (n2 : Int) := by omega
          have HT1 := hid (HTT.out.ext ((Below.refl _ _).alloc (Nat.le_refl _) (.cells #[.int .i64 x.o, .int .i64 x.n, .string x.s, .slice A' x.l.length c'] 29)))
          clear HTT
          go_wp2_with fail
          refine (mke_any Z' sb _ w.heap.size _ x A' c' HT1.out.b (HS.out.ext HT1.out.bl) (HT.out.on HT1.out.bl) HT1.out.sz HXI.out).mono ?_
          rintro e W3 ⟨rfl, hs3⟩
          obtain ⟨Z3, t3, -⟩ := HT1.out.mkB hs3
          rw [← HM1.out] at t3
          have HT3 := hid t3
          clear t3 hs3 HT1 y0 y1 y2 y3
          go_wp2_with fail
          go_roundw
          case rel => exact ⟨j2 + 1, Z3, by go_num, by omega, HT3.out⟩
          case measure => simp [intOf]; omega
        · obtain rfl : j2 = n2 := by omega
          have hlt' : ¬ (j2 : Int) < (j2 : Int) := by omega
          rw [show l2.take j2 = l2 from List.take_of_length_le (by omega)] at HTT
          obtain ⟨Y, hY⟩ := mks_pre l2 X
          rw [hY] at HTT
          clear hY
          have hge : ¬ (((X ++ Y).length : Nat) : Int) < ((X.length : Nat) : Int) := by rw [List.length_append]; omega
          have hokX := hid HTT.out.a.ok
          have hokY := hid HTT.out.b.ok
          generalize hXY : X ++ Y = V at *
          have HXY := hid hXY
          clear hXY
          go_wp2_with fail
          refine (len_any sb _ _ HTT.out.b.vw).mono ?_
          rintro e W4 ⟨rfl, hw⟩
          subst hw
          go_wp2_with fail
          refine (len_any sa _ _ HTT.out.a.vw).mono ?_
          rintro e W4 ⟨rfl, hw⟩
          subst hw
          go_wp2_with fail
          refine (len_any sa _ _ HTT.out.a.vw).mono ?_
          rintro e W4 ⟨rfl, hw⟩
          subst hw
          go_wp2_with fail
          go_loopw [61] (fun v wr => ∃ i : Nat, v = .int .i64 i ∧ i ≤ X.length ∧ T2 w wr sa sb Z Z' X V) (fun v _ => X.length - (intOf v).toNat)
          case atStart => exact ⟨0, rfl, Nat.zero_le _, HTT.out⟩
          case round =>
            clear HTT
            obtain ⟨i, hv, hi', ht⟩ := hrel
            subst hv
            have HTT := hid ht
            clear ht
            by_cases hlt : i < X.length
            · have hlt' : (i : Int) < (X.length : Int) := by omega
              have hh : hasB X (i : Int) = true := has_iff.2 ⟨by omega, by omega⟩
              obtain ⟨e1, e2⟩ := nodeF_app Y hh
              rw [HXY.out] at e1 e2
              have HNA := hid (fun (W : World) (h : T2 w W sa sb Z Z' X V) => node_any sa X (i : Int) W h.a.vw)
              have HNB := hid (fun (W : World) (h : T2 w W sa sb Z Z' X V) => node_any sb V (i : Int) W h.b.vw)
              have HSA := hid (fun (t : Int) (W : World) (h : T2 w W sa sb Z Z' X V) => size_anyF sa X t W h.a.vw)
              have HSB := hid (fun (W : World) (h : T2 w W sa sb Z Z' X V) => size_anyF sb V (i : Int) W h.b.vw)
              rw [show nodeE X (i : Int) = 0 by unfold nodeE; rw [hh]; rfl] at HNA
              rw [e1, show nodeE V (i : Int) = 0 by unfold nodeE; rw [e2]; rfl] at HNB
              rw [show sizeF V (i : Int) = sizeF X (i : Int) by rw [← HXY.out]; exact sizeF_app hokX.out Y (by rw [HXY.out]; exact hokY.out) hh] at HSB
              have hsl := size_le hokX.out (size_is hokX.out (i : Int)) hh
              have HLS := hid (fun x (hx : x ∈ (nodeF X (i : Int)).l) => (show x < (i : Int) ∧ sizeF X x < sizeF X (i : Int) from ⟨(part_lt hokX.out hh hx).2.1, size_lt hokX.out (size_is hokX.out _) (size_is hokX.out x) hh hx⟩))
              have HX64 := hid (show (nodeF X (i : Int)).l.length ≤ 64 by
                have := hokX.out.may _ _ (nodeF_get hh)
                unfold mayB shB at this
                simp only [Bool.and_eq_true, decide_eq_true_eq] at this
                exact this.1.1.1.1.1.1.2)
              generalize nodeF X (i : Int) = x at *
              clear e1 e2 hh
              go_wp2_with fail
              refine (HNA.out _ HTT.out).mono ?_
              rintro e W1 ⟨A1, c1, rfl, o1, b1⟩
              have S1 := hid ((SlA.of_own o1).2.alloc (.cells #[.int .i64 x.o, .int .i64 x.n, .string x.s, .slice A1 x.l.length c1] 29))
              have X1 := hid (box_new (w := W1) (v0 := .int .i64 x.o) (v1 := .int .i64 x.n) (v2 := .string x.s) (v3 := .slice A1 x.l.length c1) (T := 29))
              have T1 := hid (HTT.out.ext (b1.alloc b1.size (.cells #[.int .i64 x.o, .int .i64 x.n, .string x.s, .slice A1 x.l.length c1] 29)))
              clear o1 b1 HTT
              go_upto_region 23 with fail
              refine forget (R := fun W => W.ownsRow W1.heap.size 29 4 (.slice (some ⟨W1.heap.size, 0, none⟩) 1 1) 1 [.int .i64 x.o, .int .i64 x.n, .string x.s, .slice A1 x.l.length c1] ∧ T2 w W sa sb Z Z' X V ∧ SlA W 1 A1 x.l.length c1 (x.l.map (.int .i64))) ?_ ⟨X1.out, T1.out, S1.out⟩
              clear X1 T1 S1
              rintro W2 ⟨x2, t2, s2⟩
              have X2 := hid x2; have HT2 := hid t2; have S2 := hid s2
              clear x2 t2 s2
              go_wp2_with fail
              refine (HNB.out _ HT2.out).mono ?_
              rintro e W3 ⟨A3, c3, rfl, o3, b3⟩
              have hb4 : Below W2.heap.size W2 (W3.alloc (.cells #[.int .i64 x.o, .int .i64 x.n, .string x.s, .slice A3 x.l.length c3] 29)) := b3.alloc b3.size _
              have X3 := hid (own_ext X2.out hb4); have T3 := hid (HT2.out.ext hb4); have S3 := hid (S2.out.ext hb4)
              have S4 := hid ((SlA.of_own o3).2.alloc (.cells #[.int .i64 x.o, .int .i64 x.n, .string x.s, .slice A3 x.l.length c3] 29))
              have Y4 := hid (box_new (w := W3) (v0 := .int .i64 x.o) (v1 := .int .i64 x.n) (v2 := .string x.s) (v3 := .slice A3 x.l.length c3) (T := 29))
              clear o3 b3 hb4 X2 HT2 S2
              go_upto_region 24 with fail
              obtain ⟨⟨p0, p1, p2, p3⟩, -⟩ := box4 X3.out
              obtain ⟨⟨q0, q1, q2, q3⟩, -⟩ := box4 Y4.out
              clear Y4
              go_wp2_with fail
              refine (same_node x x A1 A3 c1 c3 _ S3.out S4.out (by have := HX64.out; omega) (by have := HX64.out; omega)).mono ?_
              rintro e W5 ⟨rfl, b5⟩
              have T5 := hid (T3.out.ext b5); have X5 := hid (own_ext X3.out b5); have S5 := hid (S3.out.ext b5)
              rw [show decide (x = x) = true from decide_eq_true rfl]
              clear b5 T3 X3 S3 S4 p0 p1 p2 p3 q0 q1 q2 q3
              obtain ⟨sn, hsn⟩ : ∃ sn : Nat, sn = sizeF X (i : Int) := ⟨_, rfl⟩
              rw [← hsn] at hsl HLS HSB
              have HSN := hid hsn
              clear hsn
              have hs1 : ((sn : Int) != (sn : Int)) = false := by simp
              have hs2 : ¬ ((i : Int) + 1 < (sn : Int)) := by omega
              have hs3 : ¬ ((sn : Int) < 1) := by omega
              clear hsl
              go_wp2_with fail
              refine (HSA.out (i : Int) _ T5.out).mono ?_
              rintro e W6 ⟨rfl, b6⟩
              rw [← HSN.out]
              have T6 := hid (T5.out.ext b6); have X6 := hid (own_ext X5.out b6); have S6 := hid (S5.out.ext b6)
              clear b6 T5 X5 S5
              go_wp2_with fail
              refine (HSB.out _ T6.out).mono ?_
              rintro e W7 ⟨rfl, b7⟩
              have T7 := hid (T6.out.ext b7); have X7 := hid (own_ext X6.out b7); have S7 := hid (S6.out.ext b7)
              clear b7 T6 X6 S6
              go_wp2_with fail
              refine (HSA.out (i : Int) _ T7.out).mono ?_
              rintro e W8 ⟨rfl, b8⟩
              rw [← HSN.out]
              have T8 := hid (T7.out.ext b8); have X8 := hid (own_ext X7.out b8); have S8 := hid (S7.out.ext b8)
              clear b8 T7 X7 S7
              go_wp2_with fail
              refine (HSA.out (i : Int) _ T8.out).mono ?_
              rintro e W9 ⟨rfl, b9⟩
              rw [← HSN.out]
              have T9 := hid (T8.out.ext b9); have X9 := hid (own_ext X8.out b9); have S9 := hid (S8.out.ext b9)
              clear b9 T8 X8 S8
              obtain ⟨⟨p0, p1, p2, p3⟩, -⟩ := box4 X9.out
              go_wp2_with fail
              go_loopw [114] (fun v wq => ∃ q : Nat, v = .int .i64 q ∧ q ≤ x.l.length ∧ Below W9.heap.size W9 wq) (fun v _ => x.l.length - (intOf v).toNat)
              case atStart => exact ⟨0, rfl, Nat.zero_le _, Below.refl _ _⟩
              case round =>
                clear p0 p1 p2 p3
                obtain ⟨q, hv, hq, hbq⟩ := hrel
                subst hv
                have BQ := hid hbq
                clear hbq
                have TQ := hid (T9.out.ext BQ.out)
                have hx64 := HX64.out
                by_cases hlq : q < x.l.length
                · obtain ⟨b6, o6, y, rfl, hy, hcy⟩ := (S9.out.ext BQ.out).elemI hlq
                  obtain ⟨hyr, hys⟩ := HLS.out y (List.mem_of_getElem? hy)
                  have hyr' : ¬ (i : Int) ≤ y := by omega
                  have hlq' : (q : Int) < (x.l.length : Int) := by omega
                  obtain ⟨sy, hsy⟩ : ∃ sy : Nat, sy = sizeF X y := ⟨_, rfl⟩
                  rw [← hsy] at hys
                  have HSY := hid hsy
                  have hys' : ¬ ((sn : Int) ≤ (sy : Int)) := by omega
                  clear hy hsy hys hyr
                  go_wp2_with fail
                  refine (HSA.out y _ TQ.out).mono ?_
                  rintro e W10 ⟨rfl, b10⟩
                  rw [← HSY.out]
                  have T10 := hid (TQ.out.ext b10); have B10 := hid (BQ.out.trans (b10.mono BQ.out.size))
                  clear b10
                  go_wp2_with fail
                  refine (HSA.out (i : Int) _ T10.out).mono ?_
                  rintro e W11 ⟨rfl, b11⟩
                  rw [← HSN.out]
                  have B11 := hid (B10.out.trans (b11.mono B10.out.size))
                  clear b11
                  go_wp2_with fail
                  go_roundw
                  case rel => exact ⟨q + 1, by go_num, by omega, B11.out⟩
                  case measure => simp [intOf]; omega
                · obtain rfl : q = x.l.length := by omega
                  have hlq' : ¬ (x.l.length : Int) < (x.l.length : Int) := by omega
                  go_wp2_with fail
                  go_roundw
                  case rel => exact ⟨i + 1, by go_num, by omega, TQ.out⟩
                  case measure => simp [intOf]; omega
            · obtain rfl : i = X.length := by omega
              have hlt' : ¬ (X.length : Int) < (X.length : Int) := by omega
              go_wp2_with fail
              go_ret
              exact ⟨rfl, HTT.out.bl⟩
end Go.Proofs.YtadbgmfdbahcbaaGreatDoor
