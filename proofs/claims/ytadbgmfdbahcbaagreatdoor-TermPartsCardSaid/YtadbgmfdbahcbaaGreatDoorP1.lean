/- term: what a term is made of (parts), and how many terms (Size). -/
import Derived.Test.YtadbgmfdbahcbaaGreatDoorM6
import Derived.Deep.LoopGhost
import Derived.Maps.OwnSet
namespace Go.Proofs.YtadbgmfdbahcbaaGreatDoor
open Go.RowKit Go.KK Go.Shelf Go.Maps
set_option linter.unusedVariables false
set_option linter.unusedSimpArgs false

theorem hasI {xs : List ND} {t : Int} (hok : Okay xs) (h : hasB xs t = true) : I64 t := by
  have h2 := has_iff.1 h
  have := hok.len
  exact ⟨by omega, by omega⟩
theorem run_cut_to {P : Program} {A : Option Addr} {n c : Nat} {t e : TypeId} (ht : P.underlying t = some (.slice e)) (hs : ∀ W : World, (sizeOf e).run P W = .ok 1 W) {p : Nat} (hp : p ≤ c) :
    ∀ W : World, (Instr.slice t (.slice A n c) none (some (.int .i64 (p : Int))) none).run P W = .ok (.slice A p c) W := by
  intro W
  have he : P.elem t = e := by simp [Program.elem, ht]
  rw [run_slice_h W t A n c (by rw [he]; exact ht) .i64 p (by omega) (by omega), he, hs W]
  have hz : ∀ a : Addr, a.add 0 = a := fun a => by simp [Addr.add]
  simp [Result.andThen, sliced, hz]
theorem sizeI (W : World) : (sizeOf 3).run Tryz.prog W = .ok 1 W := by kernel_rfl
/-- What 'parts' has on its way. -/
structure PtW (w0 W : World) (xs : List ND) (t : Int) (mb : Nat) (M O : List Int) (x : Option Int) (k : Nat) (v : Value) (D : MD) : Prop where
  p : Pt xs t M O x k
  o : RowI W w0.heap.size v O
  m : MapB W mb M.length D
  s : SB D M
  b : Below w0.heap.size w0 W
  mb0 : w0.heap.size ≤ mb
section
variable {w0 W W' : World} {xs : List ND} {t : Int} {mb : Nat} {M O : List Int} {x : Option Int} {k : Nat} {v : Value} {D : MD}
theorem map_lt {n : Nat} (h : MapB W mb n D) : mb < W.heap.size := h.lt
theorem row_map {n : Nat} (h : RowI W w0.heap.size v O) (hm : MapB W mb n D) : v.ownBlock ≠ some mb := by
  intro e
  obtain ⟨es, clock, h1, _⟩ := hm
  rcases h.2 with ⟨rfl, _⟩ | ⟨g, cap, cur, rfl, _, hg, _⟩
  · cases e
  · injection e with e
    simp only at e
    subst e
    rw [hg] at h1
    injection h1 with h1
    cases h1
theorem PtW.ext (h : PtW w0 W xs t mb M O x k v D) (hb : Below W.heap.size W W') : PtW w0 W' xs t mb M O x k v D :=
  ⟨h.p, own_ext h.o hb, map_block h.m (hb.block mb h.m.lt), h.s, h.b.trans (hb.mono h.b.size), h.mb0⟩
/-- A number more in the map. -/
theorem PtW.upd (h : PtW w0 W xs t mb M O x k v D) {y : Int} {D' : MD} {O' : List Int} {x' : Option Int} {k' : Nat} (hm : MapB W' mb (M.length + 1) D') (hs : SB D' (M ++ [y])) (hg : W.grownBy W' (some mb)) (hp : Pt xs t (M ++ [y]) O' x' k') (hO : RowI W' w0.heap.size v O') : PtW w0 W' xs t mb (M ++ [y]) O' x' k' v D' :=
  ⟨hp, hO, by rw [List.length_append]; exact hm, hs, h.b.grown hg h.b.size (fun k hk => by injection hk with hk; have := h.mb0; omega), h.mb0⟩
end
set_option maxHeartbeats 8000000 in
set_option maxRecDepth 100000 in
theorem parts_any (sa : Nat) (xs : List ND) (t : Int) (w : World) (hA : ArV w 53 sa xs) : Calls Tryz.prog 39 #[.pointer (some ⟨sa, 0, none⟩), .int .i64 t] w fun e w' => ∃ mb M D, e = .returned (.map (some mb)) ∧ MapB w' mb M.length D ∧ SB D M ∧ M.Nodup ∧ (∀ y, y ∈ M ↔ Rch xs t y) ∧ w.heap.size ≤ mb ∧ Below w.heap.size w w' := by
  have H := hid hA
  have hmm := @run_makeMap Tryz.prog
  obtain ⟨i0, hi, hz0, hz1, hz2⟩ := info_parts Tryz.infoInt
  have HM0 := hid (World.ownsMap_made (H := Unit) w Tryz.prog 3 (plainElem Tryz.prog 4))
  have HB0 := hid (show Below w.heap.size w (w.alloc (.map #[] 0)) from (Below.refl _ _).alloc (Nat.le_refl _) _)
  have HNO := hid (show hasB xs t = false → ∀ y, ¬ Rch xs t y from fun hh y hr => by have := (hr.has hA.ok).1; rw [hh] at this; cases this)
  have hok := hid hA.ok
  clear hA
  go_enter Tryz.func39, Tryz.ntmps39
  go_wp2_with fail
  refine (has_any sa xs t _ (H.out.ext HB0.out)).mono ?_
  rintro e w1 ⟨rfl, hw⟩
  subst hw
  rcases hh : hasB xs t with _ | _
  · have HF := hid (HNO.out hh)
    go_wp2_with fail
    go_ret
    exact ⟨w.heap.size, [], _, rfl, HM0.out, sb_nil, List.nodup_nil, fun y => ⟨fun h => by simp at h, fun h => absurd h (HF.out y)⟩, Nat.le_refl _, HB0.out⟩
  · have HH := hid hh
    have HTI := hid (hasI hok.out hh)
    have HK0 := hid (key_i64 HTI.out)
    clear hh HNO
    have hxn : xs.length ≤ 100000 := hok.out.len
    go_upto_region 5 with fail
    have hB1 := HB0.out.alloc HB0.out.size (.cells #[.int .i64 t] 3)
    have HB1 := hid hB1
    have HO1 := hid (show RowI ((w.alloc (.map #[] 0)).alloc (.cells #[.int .i64 t] 3)) w.heap.size (.slice (some ⟨w.heap.size + 1, 0, none⟩) 1 1) [t] from by
      have e : (w.alloc (.map #[] 0)).heap.size = w.heap.size + 1 := by simp
      rw [← e]
      exact own_mono (World.ownsRow_lit (e := 3) (base := w.heap.size) (size := 1) _ #[.int .i64 t] 1 HB0.out.size (by unfold maxLen; omega) rfl) (Nat.le_refl _))
    have HM1 := hid (HM0.out.alloc (.cells #[.int .i64 t] 3))
    clear hB1
    go_wp2_with (first
      | (at_mapUpdate; refine wpList_mapUpdate_own _ rfl _ _ _ 69 rfl 3 4 lawIn Tryz.underlying69 _ w.heap.size 0 _ rfl HM1.out (by unfold maxLen; omega) _ _ (.int .i64 t) rfl rfl HK0.out (.lit (.bool true)) [] (plainElem_bool Tryz.underlying4 true) ?_; intro w2 ho2 hg2)
      | fail)
    have HP := hid (show PtW w w2 xs t w.heap.size [t] [t] none 0 (.slice (some ⟨w.heap.size + 1, 0, none⟩) 1 1) _ from ⟨pt_start HH.out, HO1.out.kept hg2 (.inr (by intro e; simp [Value.ownBlock] at e)), ho2, sb_nil.put (by simp), HB1.out.grown hg2 HB1.out.size (fun k hk => by injection hk with hk; omega), Nat.le_refl _⟩)
    dsimp only [Act.put]
    clear HO1 HM1 HB1 HB0 HM0 ho2 hg2
    go_loopg [6] (2 * xs.length) (fun k v wr => ∃ M O D, Hid (PtW w wr xs t w.heap.size M O none 0 v D) ∧ Hid (2 * (xs.length - M.length) + O.length ≤ k ∧ O.length ≤ M.length))
    case atStart => exact ⟨[t], [t], _, HP, hid (by have := (has_iff.1 HH.out); simp; omega)⟩
    case round =>
      clear HP
      obtain ⟨M, O, D, HP, HK⟩ := hrel
      rcases List.eq_nil_or_concat O with rfl | ⟨O', x, rfl⟩
      · obtain ⟨A, c, rfl, -⟩ := SlA.owned HP.out.o
        go_wp2_with fail
        go_ret
        exact ⟨w.heap.size, M, D, rfl, HP.out.m, HP.out.s, HP.out.p.nd, HP.out.p.size, Nat.le_refl _, HP.out.b⟩
      · rw [List.concat_eq_append] at HP HK
        obtain ⟨A, c, rfl, hs⟩ := SlA.owned HP.out.o
        have HP2 := hid (HP.out.p.pop)
        have HC2 := hid (show RowI wr w.heap.size (.slice A O'.length c) O' by
          have := row_cut HP.out.o (m := O'.length) (by simp)
          rwa [List.take_left' rfl] at this)
        have hO1 : (O' ++ [x]).length = O'.length + 1 := by simp
        have hOb : O'.length ≤ c := by have := hs.nc; omega
        have hMl := HP.out.p.len hok.out
        have HK2 := hid (show 2 * (xs.length - M.length) + O'.length + 1 ≤ gk ∧ O'.length ≤ M.length by have := HK.out; omega)
        have hOl : O'.length ≤ 100000 := by have := HK2.out; omega
        obtain ⟨g, off, z, rfl, hz, hcz⟩ := hs.elemI (k := O'.length) (by omega)
        have hzx : z = x := by
          rw [List.getElem?_append_right (Nat.le_refl _), Nat.sub_self] at hz
          injection hz with hz
          exact hz.symm
        subst hzx
        have hxr := (HP.out.p.r z (HP.out.p.o z (by simp))).has hok.out
        have hgz := nodeF_get hxr.2.1
        obtain ⟨jz, rfl⟩ := Int.eq_ofNat_of_zero_le hxr.2.2.1
        rw [Int.toNat_natCast] at hgz
        have hjz := (List.getElem?_eq_some_iff.1 hgz).1
        obtain ⟨A2, c2, m2, h0', -, hnd⟩ := H.out.parts
        obtain ⟨bn, on, nz, A3, c3, rfl, hnz, -, -, -, n3', hn3⟩ := hnd.at hjz
        have h0 := (HP.out.b.cell (p := _) (block_lt_of_cell h0')).trans h0'
        have n3 := (HP.out.b.cell (p := _) (block_lt_of_cell n3')).trans n3' 
        rw [hgz] at hnz
        injection hnz with hnz
        subst hnz
        have HL3 := hid (show SlA w 1 A3 (nodeF xs (jz : Int)).l.length c3 ((nodeF xs (jz : Int)).l.map (.int .i64)) from hn3)
        have HPW := hid (show PtW w wr xs t w.heap.size M O' (some (jz : Int)) 0 (.slice (some ⟨g, off, none⟩) O'.length c) D from ⟨HP2.out, HC2.out, HP.out.m, HP.out.s, HP.out.b, HP.out.mb0⟩)
        have hcut := run_cut_to Tryz.underlying27 sizeI (A := some ⟨g, off, none⟩) (n := (O' ++ [(jz : Int)]).length) (c := c) (p := O'.length) hOb
        generalize hm : (O' ++ [(jz : Int)]).length = m at *
        have hsub : IntKind.i64.wrap ((m : Int) - 1) = (O'.length : Int) := by rw [IntKind.wrap_i64]; omega
        have hm0 : (0 : Int) < (m : Int) := by omega
        have hm0n : 0 < m := by omega
        have hm0d : decide (0 < m) = true := decide_eq_true hm0n
        have hlm : (O'.length : Int) < (m : Int) := by omega
        have hl0 : (0 : Int) ≤ (O'.length : Int) := by omega
        have hjz' : (jz : Int) < (xs.length : Int) := by omega
        have HPAR := hid (fun y (hy : y ∈ (nodeF xs (jz : Int)).l) => (part_lt hok.out hxr.2.1 hy).2.2)
        generalize hL : (nodeF xs (jz : Int)).l = L at *
        have HL := hid hL
        have HLL := hid (show L.length ≤ 64 by
          rw [← HL.out]
          have := hok.out.may _ _ hgz
          unfold mayB shB at this
          simp only [Bool.and_eq_true, decide_eq_true_eq] at this
          exact this.1.1.1.1.1.1.2)
        clear hs hz hxr hgz hnd hn3 hm hMl HP HK HP2 HC2 hO1 hL h0' n3'
        go_wp2_with fail
        go_loopw [43, 6] (fun v v6 wq => ∃ (q : Nat) (M O : List Int) (D : MD), v = .int .i64 q ∧ q ≤ L.length ∧ Hid (PtW w wq xs t w.heap.size M O (some (jz : Int)) q v6 D) ∧ Hid (2 * (xs.length - M.length) + O.length + 1 ≤ gk ∧ O.length ≤ M.length)) (fun v _ _ => L.length - (intOf v).toNat)
        case atStart => exact ⟨0, M, O', D, rfl, Nat.zero_le _, HPW, HK2⟩
        case round =>
          clear HPW HK2 hcut hsub hm0 hm0d hm0n hlm hl0 h0 n3 hcz
          obtain ⟨q, M, O, D, hv, hq, HP, HK⟩ := hrel
          subst hv
          have hLL := HLL.out
          by_cases hlq : q < L.length
          · have hlq' : (q : Int) < (L.length : Int) := by omega
            obtain ⟨b5, o5, y, rfl, hy, hcy⟩ := (HL3.out.ext HP.out.b).elemI hlq
            have HY := hid (show (nodeF xs (jz : Int)).l[q]? = some y by rw [HL.out]; exact hy)
            have hyh := HPAR.out y (List.mem_of_getElem? hy)
            have HYI := hid (hasI hok.out hyh)
            have HYK := hid (key_i64 HYI.out)
            have hlk := look_set HP.out.m HP.out.s HYI.out
            have hMl := HP.out.p.len hok.out
            clear hy
            by_cases hyM : y ∈ M
            · rw [decide_eq_true hyM] at hlk
              have HPN := hid (HP.out.p.old HY.out hyM)
              clear hyM hyh
              go_wp2_with fail
              go_roundw
              case rel => exact ⟨q + 1, M, O, D, by go_num, by omega, hid ⟨HPN.out, HP.out.o, HP.out.m, HP.out.s, HP.out.b, HP.out.mb0⟩, HK⟩
              case measure => simp [intOf]; omega
            · rw [decide_eq_false hyM] at hlk
              have HPN := hid (HP.out.p.new HY.out hyM)
              have HSN := hid (HP.out.s.put hyM)
              have hM1 : M.length < xs.length := by
                have := HPN.out.len hok.out
                rw [List.length_append] at this
                simp at this
                omega
              have hOl : O.length ≤ 100000 := by have := HK.out; omega
              have hRM := row_map (w0 := w) HP.out.o HP.out.m
              clear hyM hyh
              go_wp2_with (first
                | (at_mapUpdate; refine wpList_mapUpdate_own _ rfl _ _ _ 69 rfl 3 4 lawIn Tryz.underlying69 _ w.heap.size M.length D rfl HP.out.m (by unfold maxLen; omega) _ _ (.int .i64 y) rfl rfl HYK.out (.lit (.bool true)) [] (plainElem_bool Tryz.underlying4 true) ?_; intro w3 ho3 hg3; have HO3 := hid (show RowI w3 w.heap.size u6 O from HP.out.o.kept hg3 (.inr hRM)); have HM3 := hid ho3; have HB3 := hid (HP.out.b.grown hg3 HP.out.b.size (fun k hk => by injection hk with hk; omega)); have hsz3 := HB3.out.size; clear ho3 hg3 hlk)
                | (at_builtin; refine wpList_append_sl _ rfl _ _ 27 rfl w.heap.size 3 i0 (.int .i64 0) 1 8 Tryz.underlying27 hi hz0 hz1 hz2 rfl (by decide) u6 O.length (O.map (.int .i64)) rfl (HO3.out.alloc _) _ 1 1 [.int .i64 y] rfl (SlA.lit1 _) (one_int _ _) (by unfold maxLen; omega) (by omega) (by simp; omega) ?_; intro v4 w4 own4 gr4 loc4; have HR4 := hid (rowI_snoc own4); have HM4 := hid (map_block (HM3.out.alloc (.cells #[.int .i64 y] 3)) (gr4.block w.heap.size (HM3.out.alloc (.cells #[.int .i64 y] 3)).lt (fun e => hRM e.symm))); have HB4 := hid ((HB3.out.alloc hsz3 (.cells #[.int .i64 y] 3)).grown gr4 (by simp; omega) (fun k hk => (HO3.out.lt k hk).1)); clear own4 gr4 loc4)
                | fail)
              go_roundw
              case rel => exact ⟨q + 1, M ++ [y], O ++ [y], _, by go_num, by omega, hid ⟨HPN.out, HR4.out, by rw [List.length_append]; exact HM4.out, HSN.out, HB4.out, Nat.le_refl _⟩, hid (by have := HK.out; simp; omega)⟩
              case measure => simp [intOf]; omega
          · obtain rfl : q = L.length := by omega
            have hlq' : ¬ (L.length : Int) < (L.length : Int) := by omega
            have HPD := hid (HP.out.p.done (by rw [HL.out]; exact Nat.le_refl _))
            go_wp2_with fail
            go_roundg (gk - 1)
            case rel => exact ⟨M, O, D, hid ⟨HPD.out, HP.out.o, HP.out.m, HP.out.s, HP.out.b, HP.out.mb0⟩, hid (by have := HK.out; omega)⟩
            case measure => have := HK.out; omega
theorem size_any (sa : Nat) (xs : List ND) (t : Int) (w : World) (hA : ArV w 53 sa xs) : Calls Tryz.prog 21 #[.pointer (some ⟨sa, 0, none⟩), .int .i64 t] w fun e w' => ∃ n : Nat, e = .returned (.int .i64 n) ∧ SizeIs xs t n ∧ Below w.heap.size w w' := by
  have HP := hid (parts_any sa xs t w hA)
  clear hA
  go_enter Tryz.func21, Tryz.ntmps21
  go_wp2_with fail
  refine HP.out.mono ?_
  rintro e w1 ⟨mb, M, D, rfl, hm, hs, hn, hr, -, hb⟩
  have HB := hid hb; have HN := hid hn; have HR := hid hr
  have hlen := fun ty => hm.len Tryz.underlying69 ty
  rw [hs.z] at hlen
  clear hm hs hn hr hb
  go_wp2_with fail
  go_ret
  exact ⟨M.length, rfl, ⟨M, HN.out, HR.out, rfl⟩, HB.out⟩
end Go.Proofs.YtadbgmfdbahcbaaGreatDoor
