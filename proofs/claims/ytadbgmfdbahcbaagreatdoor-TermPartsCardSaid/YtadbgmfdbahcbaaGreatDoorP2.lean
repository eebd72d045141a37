/- term: the atoms of a term (Atoms). -/
import Derived.Test.YtadbgmfdbahcbaaGreatDoorP1
import Derived.Test.YtadbgmfdbahcbaaGreatDoorM8
import Derived.Test.YtadbgmfdbahcbaaGreatDoorShelf
import Derived.Maps.RangeWalk
import Derived.Sort.OwnSortedInts
import Derived.Lib.AppendIntMem
namespace Go.Proofs.YtadbgmfdbahcbaaGreatDoor
open Go.RowKit Go.KK Go.Shelf Go.Maps Go.Sort
set_option linter.unusedVariables false
set_option linter.unusedSimpArgs false

/-- The map's round: what has come is what is no more to come. -/
structure AtR (left : Lit → Bool) (M ks : List Int) : Prop where
  nd : ks.Nodup
  m : ∀ y ∈ M, (y ∈ ks ↔ left (.int .i64 y) = false)
  s : ∀ y ∈ ks, y ∈ M
  l : ∀ y, left (.int .i64 y) = true → y ∈ M
theorem atR_start {D : MD} {M : List Int} (h : SB D M) : AtR (Maps.has D) M [] :=
  ⟨List.nodup_nil, fun y hy => by rw [h.h]; simp [hy], fun y hy => by simp at hy, fun y hy => by rw [h.h] at hy; simpa using hy⟩
theorem AtR.next {left : Lit → Bool} {M ks : List Int} {x : Int} (h : AtR left M ks) (hx : left (.int .i64 x) = true) : AtR (fun z => left z && !z.sameKey (.int .i64 x)) M (ks ++ [x]) ∧ x ∈ M := by
  have hm := h.l x hx
  have hk : x ∉ ks := fun e => by have := (h.m x hm).1 e; rw [hx] at this; cases this
  have hsk : ∀ y : Int, (Lit.int .i64 y).sameKey (.int .i64 x) = decide (y = x) := fun y => by
    by_cases e : y = x
    · subst e; simp [Lit.sameKey]
    · simp [Lit.sameKey, e]
  refine ⟨⟨?_, fun y hy => ?_, fun y hy => ?_, fun y hy => ?_⟩, hm⟩
  · rw [List.nodup_append]
    exact ⟨h.nd, by simp, fun a ha b hb e => by rw [List.mem_singleton] at hb; subst hb; subst e; exact hk ha⟩
  · rw [List.mem_append, List.mem_singleton, h.m y hy, hsk]
    by_cases e : y = x
    · subst e; simp
    · simp [e]
  · rw [List.mem_append, List.mem_singleton] at hy
    exact hy.elim (h.s y) fun e => e ▸ hm
  · simp only [Bool.and_eq_true] at hy
    exact h.l y hy.1
theorem AtR.done {left : Lit → Bool} {M ks : List Int} (h : AtR left M ks) (hl : ∀ kl, left kl = false) (y : Int) : y ∈ ks ↔ y ∈ M :=
  ⟨h.s y, fun hy => (h.m y hy).2 (hl _)⟩
/-- What Atoms has on its way. -/
structure AtW (w0 W : World) (xs : List ND) (mb r : Nat) (D : MD) (M ks : List Int) (left : Lit → Bool) (cnt : Nat) (v : Value) : Prop where
  rg : W.ranges Tryz.prog 3 (plainElem Tryz.prog 4) mb r M.length D left cnt
  o : RowI W w0.heap.size v (atL xs ks)
  a : AtR left M ks
  b : Below w0.heap.size w0 W
section
variable {w0 W W' : World} {xs : List ND} {mb r cnt cnt' : Nat} {D : MD} {M ks ks' : List Int} {left left' : Lit → Bool} {v v' : Value}
theorem row_iter {b0 : Nat} {l : List Int} {n : Nat} (h : RowI W b0 v l) (h2 : W.ranges Tryz.prog 3 (plainElem Tryz.prog 4) mb r n D left cnt) : v.ownBlock ≠ some r := by
  intro e
  obtain ⟨es, clock, since, seen, c0, _, _, _, _, hr, _⟩ := h2
  rcases h.2 with ⟨rfl, _⟩ | ⟨g, cap, cur, rfl, _, hg, _⟩
  · cases e
  · injection e with e
    simp only at e
    subst e
    rw [hg] at hr
    injection hr with hr
    cases hr
/-- A number has come. -/
theorem AtW.turn (h : AtW w0 W xs mb r D M ks left cnt v) (hr : w0.heap.size ≤ r) (hg : W.grownBy W' (some r)) (hrg : W'.ranges Tryz.prog 3 (plainElem Tryz.prog 4) mb r M.length D left' cnt') : RowI W' w0.heap.size v (atL xs ks) ∧ Below w0.heap.size w0 W' :=
  ⟨h.o.kept hg (by
    cases hob : v.ownBlock with
    | none => exact Or.inl rfl
    | some g => exact Or.inr (fun e => row_iter h.o h.rg (by rw [hob]; exact e))), h.b.grown hg h.b.size (fun k hk => by injection hk with hk; omega)⟩
/-- The row has grown. -/
theorem at_app {l : List Int} (hrg : W.ranges Tryz.prog 3 (plainElem Tryz.prog 4) mb r M.length D left cnt) (ho : RowI W w0.heap.size v l) (hb : Below w0.heap.size w0 W) (o : Obj) (hn : RowI W' w0.heap.size v' (atL xs ks)) (ha : AtR left M ks) (hg : (W.alloc o).grownBy W' v.ownBlock) : AtW w0 W' xs mb r D M ks left cnt v' :=
  ⟨(hrg.alloc o).kept hg (fun e => row_map (ho.alloc o) (hrg.alloc o).owns e.symm) (fun e => row_iter (ho.alloc o) (hrg.alloc o) e.symm), hn, ha, (hb.alloc hb.size o).grown hg (hb.alloc hb.size o).size (fun k hk => (ho.lt k hk).1)⟩
end
theorem atL_len (xs : List ND) (ks : List Int) : (atL xs ks).length ≤ ks.length := by
  unfold atL
  rw [List.length_map]
  exact List.length_filter_le _ _
set_option maxHeartbeats 8000000 in
set_option maxRecDepth 100000 in
theorem atoms_any (sa : Nat) (xs : List ND) (t : Int) (w : World) (hA : ArV w 53 sa xs) : Calls Tryz.prog 25 #[.pointer (some ⟨sa, 0, none⟩), .int .i64 t] w fun e w' => ∃ v, e = .returned v ∧ RowI w' w.heap.size v (atF xs t) ∧ Below w.heap.size w w' := by
  obtain ⟨i0, hi, hz0, hz1, hz2⟩ := info_parts Tryz.infoInt
  have HP := hid (parts_any sa xs t w hA)
  have H := hid hA
  have HOK := hid hA.ok
  clear hA
  go_enter Tryz.func25, Tryz.ntmps25
  go_wp2_with fail
  refine HP.out.mono ?_
  rintro e w1 ⟨mb, M, D, rfl, hm, hs, hn, hr, hmb, hb⟩
  have HM := hid hm; have HS := hid hs; have HN := hid hn; have HR := hid hr; have HB := hid hb
  have HML := hid (show M.length ≤ 100000 from Nat.le_trans (nodup_le xs.length M hn fun y hy => by
    have := ((hr y).1 hy).has HOK.out
    have := has_iff.1 this.2.1
    omega) HOK.out.len)
  clear hm hs hn hr hb HP
  go_wp2_with (first
    | (at_range; refine wpList_range_own _ rfl _ 69 rfl 3 4 lawIn Tryz.underlying69 (plainElem Tryz.prog 4) mb M.length D rfl HM.out ?_; intro w2 hrg0 hg0 hs0; have HA0 := hid (show AtW w w2 xs mb w1.heap.size D M [] (Maps.has D) (Maps.size D) (.slice none 0 0) from ⟨hrg0, World.ownsRow_nil _ _ _ _, atR_start HS.out, HB.out.grown hg0 HB.out.size (fun k hk => by cases hk)⟩); clear hrg0 hg0 hs0)
    | fail)
  go_frame
  have hwr := HB.out.size
  generalize w1.heap.size = r at *
  go_loopw [5] (fun v wr => ∃ (left : Lit → Bool) (cnt : Nat) (ks : List Int), Hid (AtW w wr xs mb r D M ks left cnt v)) (fun _ wr => wr.rangeLeft mb r)
  case atStart => exact ⟨_, _, [], HA0⟩
  case round =>
    clear HA0 HM HS HB
    obtain ⟨left, cnt, ks, HA⟩ := hrel
    go_wp2_with (first
      | (at_next; refine wpList_next_ranges _ rfl _ rfl 3 lawIn (plainElem Tryz.prog 4) (Value.int .i64) Value.bool (fun key kl hk => by obtain ⟨x, rfl, _⟩ := Maps.keyOf_int_inv Tryz.underlying3 hk; exact ⟨x, rfl⟩) (fun v y hv => by obtain ⟨c, rfl, _⟩ := plain_bool_inv Tryz.underlying4 hv; exact ⟨c, rfl⟩) mb r M.length D left cnt rfl HA.out.rg ?_ ?_
         intro hc0 hl0
         rotate_left
         intro x c kl y w2 cnt2 hkx hlx hwc hat hrg2 hlt hg2 hs2 hen
         obtain ⟨x', e, rfl, hwx⟩ := Maps.keyOf_int_inv Tryz.underlying3 hkx
         cases e
         clear hkx hat hwc
         obtain ⟨hAN, hxM⟩ := HA.out.a.next hlx
         obtain ⟨hO2, hB2⟩ := HA.out.turn hwr hg2 hrg2
         have HAN := hid hAN
         have HO2 := hid hO2; have HB2 := hid hB2; have HRG := hid hrg2
         have hm0 : wr.rangeLeft mb r = cnt := HA.out.rg.left_eq
         have hxr := ((HR.out x).1 hxM).has HOK.out
         have hgz := nodeF_get hxr.2.1
         have hkl : (atL xs ks).length ≤ 100000 := Nat.le_trans (atL_len xs ks) (Nat.le_trans (sub_le ks M HA.out.a.nd HA.out.a.s) HML.out)
         have HSN := hid (atL_snoc xs ks x)
         obtain ⟨jz, rfl⟩ := Int.eq_ofNat_of_zero_le hxr.2.2.1
         rw [Int.toNat_natCast] at hgz
         have hjz := (List.getElem?_eq_some_iff.1 hgz).1
         obtain ⟨A2, c2, m2, h0', -, hnd⟩ := H.out.parts
         obtain ⟨bn, on, nz, A3, c3, rfl, hnz, n0', n1', -, -, -⟩ := hnd.at hjz
         rw [hgz] at hnz
         injection hnz with hnz
         subst hnz
         have up : ∀ {p : Addr} {u : Value}, w.cell? p = some u → w2.cell? p = some u := fun h => (HB2.out.cell (p := _) (block_lt_of_cell h)).trans h
         have h0 := up h0'; have n0 := up n0'; have n1 := up n1'
         have hjz' : (jz : Int) < (xs.length : Int) := by omega
         have hj0 : (0 : Int) ≤ (jz : Int) := by omega
         clear up h0' n0' n1' hnd hgz hxr hxM hlx hO2 hB2 hrg2 hg2 hs2 HA hjz
         generalize nodeF xs (jz : Int) = z at *
         by_cases ho : z.o = 1
         rotate_left
         have ho' : (z.o == 1) = false := beq_eq_false_iff_ne.2 ho
         rotate_left
         rotate_left
         have ho' : (z.o == 1) = true := beq_iff_eq.2 ho
         rotate_left
         rotate_left)
      | (at_builtin; refine wpList_append_sl _ rfl _ _ 27 rfl w.heap.size 3 i0 (.int .i64 0) 1 8 Tryz.underlying27 hi hz0 hz1 hz2 rfl (by decide) u5 (atL xs ks).length ((atL xs ks).map (.int .i64)) rfl (HO2.out.alloc _) _ 1 1 [.int .i64 z.n] rfl (SlA.lit1 _) (one_int _ _) (by unfold maxLen; omega) (by omega) (by have := HB2.out.size; simp; omega) ?_; intro v4 w4 own4 gr4 loc4; have HR4 := hid (rowI_snoc own4); have HGR := hid gr4; clear own4 gr4 loc4)
      | fail)
    · have HSO := hid (at_sorted HOK.out HA.out.a.nd fun y => (HA.out.a.done hl0 y).trans (HR.out y))
      have hkl : (atL xs ks).length ≤ 100000 := Nat.le_trans (atL_len xs ks) (Nat.le_trans (sub_le ks M HA.out.a.nd HA.out.a.s) HML.out)
      have HO := hid HA.out.o
      have HB := hid HA.out.b
      clear HA
      generalize atL xs ks = L at *
      rcases HO.out.2 with ⟨hnil, hk0⟩ | ⟨g, cap, cur, hv, hbase, hb, h1, h2, h3, h4⟩
      · subst hnil
        obtain rfl : L = [] := List.eq_nil_of_length_eq_zero hk0
        go_wp2_with (go_at_call 42; refine (Tryz.slices_Sort_int_none none 0 _).mono ?_; rintro e w' ⟨rfl, rfl⟩)
        go_ret
        have hso := HSO.out
        rw [List.mergeSort_nil] at hso
        rw [← hso]
        exact ⟨_, rfl, HO.out, HB.out⟩
      · subst hv
        have hH : Holds (Value.int .i64) wr g 0 L.toArray := holds_of_blockI hb (by simpa using h4)
        have hgl : g < wr.heap.size := (Array.getElem?_eq_some_iff.1 hb).1
        have hsort := Tryz.slices_Sort_int g 0 cap L wr hH hgl (by omega)
        have hl2 : (L.mergeSort fun x y => decide (x ≤ y)).length = L.length := List.length_mergeSort L
        clear hH
        have HHB := hid hb
        clear hb
        go_wp2_with (go_at_call 42; refine hsort.mono ?_; rintro e w' ⟨rfl, nn, os, rfl⟩)
        go_ret
        have hg := grownBy_sortedI (w := wr) (g := g) (n := nn) (os := os) (L.mergeSort fun x y => decide (x ≤ y)).toArray
        have hro := ownsRow_sortedI (n := nn) (os := os) (ts := L.mergeSort fun x y => decide (x ≤ y)) hl2 hbase HHB.out h1 h2 h3
        refine ⟨_, rfl, ?_, HB.out.grown hg HB.out.size (fun k hk => by injection hk with hk; omega)⟩
        rw [← HSO.out]
        unfold RowI
        rw [hl2]
        exact hro
    · have hsn := HSN.out
      rw [if_pos ho] at hsn
      have HAT := hid (at_app (xs := xs) HRG.out HO2.out HB2.out _ (by rw [hsn]; exact HR4.out) HAN.out HGR.out)
      go_roundw
      case rel => exact ⟨_, cnt2, ks ++ [(jz : Int)], HAT⟩
      case measure => rw [HAT.out.rg.left_eq, hm0]; exact hlt
    · have hsn := HSN.out
      rw [if_neg ho] at hsn
      go_roundw
      case rel => exact ⟨_, cnt2, ks ++ [(jz : Int)], hid ⟨HRG.out, by rw [hsn]; exact HO2.out, HAN.out, HB2.out⟩⟩
      case measure => rw [HRG.out.left_eq, hm0]; exact hlt
end Go.Proofs.YtadbgmfdbahcbaaGreatDoor
