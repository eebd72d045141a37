/- the document's layer 3: Parts. -/
import Derived.Test.YtadbgmfdbahcbaaGreatDoorY1
namespace Go.KK
open Go.RowKit
set_option linter.unusedVariables false
set_option linter.unusedSimpArgs false
theorem inB_take {I : List Bool} {M k : Nat} (h : k < M) : inB (I.take M) (k : Int) = inB I (k : Int) := by
  unfold inB
  rw [Int.toNat_natCast, List.getD, List.getD, List.getElem?_take, if_pos h]
/-- The numbers below k that are in. -/
def oneB (I : List Bool) (k : Nat) : List Int := ((List.range k).filter fun (t : Nat) => inB I (t : Int)).map fun (t : Nat) => (t : Int)
theorem oneB_succ (I : List Bool) (k : Nat) : oneB I (k + 1) = if inB I (k : Int) then oneB I k ++ [(k : Int)] else oneB I k := by
  unfold oneB
  rw [List.range_succ, List.filter_append, List.map_append]
  by_cases h : inB I (k : Int) = true
  · rw [if_pos h]; simp [h]
  · rw [if_neg h]; simp [h]
theorem oneB_le (I : List Bool) (k : Nat) : (oneB I k).length ≤ k := by
  unfold oneB
  rw [List.length_map]
  exact Nat.le_trans (List.length_filter_le _ _) (by simp)
theorem oneB_rise (I : List Bool) (k : Nat) : (oneB I k).Pairwise (· < ·) := by
  unfold oneB
  exact List.Pairwise.map _ (fun a b h => by omega) (List.Pairwise.filter _ List.pairwise_lt_range)
theorem oneB_mem {I : List Bool} {k : Nat} {x : Int} : x ∈ oneB I k ↔ 0 ≤ x ∧ x < k ∧ inB I x = true := by
  unfold oneB
  simp only [List.mem_map, List.mem_filter, List.mem_range]
  constructor
  · rintro ⟨j, ⟨h1, h2⟩, rfl⟩
    exact ⟨by omega, by omega, h2⟩
  · rintro ⟨h1, h2, h3⟩
    exact ⟨x.toNat, ⟨by omega, by rw [show ((x.toNat : Nat) : Int) = x by omega]; exact h3⟩, by omega⟩
theorem mt_one {xs : List ND} {t : Nat} (ht : t < xs.length) : Mt xs [(t : Int)] ((List.replicate xs.length false).set t true) (t + 1) := by
  have hin : ∀ u : Int, 0 ≤ u → (inB ((List.replicate xs.length false).set t true) u = true ↔ u = (t : Int)) := fun u hu => by
    have := inB_set (I := List.replicate xs.length false) (t := (t : Int)) (u := u) (by omega) hu (by simp; exact ht)
    rw [Int.toNat_natCast] at this
    rw [this, inB_rep, Bool.or_false, decide_eq_true_eq]
  refine ⟨by simp, fun u hu hi => ?_, fun u hu => ?_, fun j h1 h2 hi => ?_⟩
  · have h0 := has_iff.1 hu
    have := (hin u h0.1).1 hi
    subst this
    exact met_self (by simp) hu
  · rw [List.mem_singleton] at hu
    subst hu
    exact (hin _ (by omega)).2 rfl
  · have := (hin (j : Int) (by omega)).1 hi
    omega
end Go.KK
namespace Go.Proofs.YtadbgmfdbahcbaaGreatDoor
open Go.RowKit Go.KK Go.Shelf Go.Maps

/-- What Parts leaves. -/
def PrtP (w : World) (xs : List ND) (t : Int) (e : Ending) (w' : World) : Prop := ∃ (A : Option Addr) (c : Nat) (PL : List Int), e = .returned (.slice A PL.length c) ∧ SlA w' 1 A PL.length c (PL.map (.int .i64)) ∧ (∀ x, x ∈ PL ↔ KK.Met xs [t] x) ∧ PL.Pairwise (· < ·) ∧ PL.length ≤ xs.length ∧ Below w.heap.size w w'
set_option maxHeartbeats 8000000 in
set_option maxRecDepth 100000 in
theorem rparts_any (sb : Nat) (xs : List ND) (w : World) (hA : ArV w 58 sb xs) (hok : Okay xs) (t : Nat) (ht : t < xs.length) :
    Calls Tryz.prog 41 #[.pointer (some ⟨sb, 0, none⟩), .int .i64 t] w fun e w' => PrtP w xs (t : Int) e w' := by
  obtain ⟨i0, hi, hz0, hz1, hz2⟩ := info_parts Tryz.infoInt
  obtain ⟨Al, cl, ml, h0, -, hnd⟩ := hA.parts
  have HOK := hid hok; have HND := hid hnd
  have hxn : xs.length ≤ 100000 := hok.len
  have htx : ¬ (xs.length : Int) ≤ (t : Int) := by omega
  have ht0 : ¬ (t : Int) < 0 := by omega
  have hd0 : decide ((t : Int) < 0) = false := decide_eq_false ht0
  have hd1 : decide ((xs.length : Int) ≤ (t : Int)) = false := decide_eq_false htx
  obtain ⟨bn, on, An, cn, rfl, -⟩ := rnode_cells xs hnd ht
  have HC0 := hid (fun (U : World) (hb : Below w.heap.size w U) => (show U.cell? ⟨sb, 0, none⟩ = some (.slice (some ⟨bn, on, none⟩) xs.length cl) from (hb.cell (p := _) (block_lt_of_cell h0)).trans h0))
  have hmk1 : ∀ U : World, (Instr.makeSlice 88 (.int .i64 ((t : Int) + 1)) (.int .i64 ((t : Int) + 1))).run Tryz.prog U = .ok (.slice (some ⟨U.heap.size, 0, none⟩) (t + 1) (t + 1)) (U.alloc (.cells (madeCells #[.bool false] (t + 1)) 4)) := by
    obtain ⟨b0, b1, b2, b3, b4⟩ := info_parts infoBool
    exact make1 Tryz.underlying88 b1 b2 b3 b4 (by decide) rfl (n := t + 1) (by omega)
  have HBC := hid (made1 (.bool false) (t + 1))
  generalize madeCells #[Value.bool false] (t + 1) = bc at *
  have hw1 : IntKind.i64.wrap ((t : Int) + 1) = (t : Int) + 1 := by rw [IntKind.wrap_i64]; omega
  clear hA hok hnd
  go_enter Tryz.func41, Tryz.ntmps41
  go_upto_region 4 with fail
  refine forget (R := fun V => BlR V w.heap.size (t + 1) (List.replicate (t + 1) false) ∧ Below w.heap.size w V) ?_ ⟨⟨by rw [List.map_replicate]; exact own_mono (own_new HBC.out (by omega)) (Nat.zero_le _), by simp⟩, (Below.refl _ _).alloc (Nat.le_refl _) _⟩
  clear hmk1 HBC h0
  rintro V ⟨hv, hbv⟩
  obtain ⟨d0, d1, -⟩ := bool_cell hv.1 hv.2 (t := t) (by omega)
  have htt : (t : Int) < (t : Int) + 1 := by omega
  have HST := hid (show BlR (V.setCell ⟨w.heap.size, t, none⟩ (.bool true)) w.heap.size (t + 1) (((List.replicate xs.length false).set t true).take (t + 1)) ∧ Below w.heap.size w (V.setCell ⟨w.heap.size, t, none⟩ (.bool true)) from by
    refine ⟨?_, hbv.setCell (p := ⟨w.heap.size, t, none⟩) (Nat.le_refl _) _⟩
    have := hv.put (t := t) (by omega)
    rwa [List.take_set, List.take_replicate, Nat.min_eq_left (by omega)])
  have HM1 := hid (mt_one ht)
  clear hv hbv
  generalize hmb : w.heap.size = mb at *
  have HMB := hid hmb
  clear hmb
  generalize (List.replicate xs.length false).set t true = I0 at *
  go_wp2_with fail
  go_loopw [6] (fun v wr => ∃ (k : Nat) (I : List Bool), v = .int .i64 ((k : Int) - 1) ∧ k ≤ t + 1 ∧ Hid (BlR wr mb (t + 1) (I.take (t + 1)) ∧ Below mb w wr ∧ Mt xs [(t : Int)] I k)) (fun v _ => (intOf v + 1).toNat)
  case atStart => exact ⟨t + 1, I0, by first | rfl | (congr 1; omega), Nat.le_refl _, hid ⟨HST.out.1, HST.out.2, HM1.out⟩⟩
  case round =>
    clear HST HM1 d0 d1
    obtain ⟨k, I, hv, hk, HR⟩ := hrel
    have HBW := hid (show Below w.heap.size w wr by rw [HMB.out]; exact HR.out.2.1)
    rcases k with _ | k
    · have hv' : u6 = .int .i64 (-1) := by rw [hv]; rfl
      clear hv
      subst hv'
      have HDN := hid (show ∀ x, x ∈ oneB I (t + 1) ↔ KK.Met xs [(t : Int)] x from fun x => by
        have hth : hasB xs (t : Int) = true := has_iff.2 ⟨by omega, by omega⟩
        have hl : ∀ y ∈ [(t : Int)], hasB xs y = true := fun y hy => by rw [List.mem_singleton] at hy; subst hy; exact hth
        rw [oneB_mem]
        constructor
        · rintro ⟨h1, h2, h3⟩
          exact (HR.out.2.2.done HOK.out hl (has_iff.2 ⟨h1, by omega⟩)).1 h3
        · intro h
          obtain ⟨z, hz, hr⟩ := h
          rw [List.mem_singleton] at hz
          subst hz
          have h2 := hr.has HOK.out
          exact ⟨h2.2.2.1, by omega, (HR.out.2.2.done HOK.out hl h2.2.1).2 ⟨_, by simp, hr⟩⟩)
      have HRO := hid (fun (w2 : World) (hb : Below wr.heap.size wr w2) => HR.out.1.ext hb)
      have HW := hid HR.out.2.1
      have hszw : w.heap.size ≤ wr.heap.size := HBW.out.size
      clear HR
      go_wp2_with fail
      go_loopw [58, 9] (fun v o wq => ∃ j : Nat, v = .int .i64 j ∧ j ≤ t + 1 ∧ Hid (wq.ownsRow wr.heap.size 3 1 o (oneB I j).length ((oneB I j).map (.int .i64)) ∧ Below wr.heap.size wr wq)) (fun v _ _ => t + 1 - (intOf v).toNat)
      case atStart => exact ⟨0, rfl, Nat.zero_le _, hid ⟨World.ownsRow_nil _ _ _ _, Below.refl _ _⟩⟩
      case round =>
        obtain ⟨j, hv, hj, HQ⟩ := hrel
        subst hv
        obtain ⟨Ao, co, rfl, -⟩ := SlA.owned HQ.out.1
        by_cases hlt : j < t + 1
        · have hlt' : (j : Int) < (t : Int) + 1 := by omega
          have d0 := (HRO.out _ HQ.out.2).at (t := j) hlt
          rw [inB_take hlt] at d0
          have HPS := hid (oneB_succ I j)
          have HPL := hid (oneB_le I j)
          rcases hin : inB I (j : Int) with _ | _
          · rw [hin] at d0
            have HP1 := hid (show oneB I (j + 1) = oneB I j by rw [HPS.out, hin]; rfl)
            clear hin
            go_wp2_with fail
            go_roundw
            case rel => exact ⟨j + 1, by go_num, by omega, hid ⟨by rw [HP1.out]; exact HQ.out.1, HQ.out.2⟩⟩
            case measure => simp [intOf]; omega
          · rw [hin] at d0
            have HP1 := hid (show oneB I (j + 1) = oneB I j ++ [(j : Int)] by rw [HPS.out, hin]; rfl)
            have HOW := hid HQ.out.1
            have HBL := hid HQ.out.2
            clear hin HPS HQ
            generalize oneB I j = pj at *
            go_wp2_with (first
              | (at_builtin; refine wpList_append_sl _ rfl _ _ 27 rfl _ 3 i0 (.int .i64 0) 1 8 Tryz.underlying27 hi hz0 hz1 hz2 rfl (by decide) (.slice Ao pj.length co) pj.length (pj.map (.int .i64)) rfl (HOW.out.alloc _) _ 1 1 [.int .i64 j] rfl (SlA.lit1 _) (one_int _ _) (by have := HPL.out; unfold maxLen; omega) (by have := HPL.out; omega) (by have := HBL.out.size; simp; omega) ?_; intro v5 w5 own5 gr5 loc5; have HO5 := hid own5; have HB5 := hid (below_append (HBL.out.alloc HBL.out.size (.cells #[.int .i64 j] 3)) gr5 (HOW.out.alloc _) (Nat.le_refl _) (by have := HBL.out.size; simp; omega)); clear own5 gr5 loc5)
              | fail)
            go_roundw
            case rel => exact ⟨j + 1, by go_num, by omega, hid ⟨by rw [HP1.out, List.length_append, List.map_append]; exact HO5.out, HB5.out⟩⟩
            case measure => simp [intOf]; omega
        · have hjn : j = t + 1 := by omega
          subst hjn
          have hlt' : ¬ ((t : Int) + 1 < (t : Int) + 1) := by omega
          have HSO := hid (SlA.of_own HQ.out.1).2
          have HLE := hid (oneB_le I (t + 1))
          have HBZ := hid (HBW.out.trans (HQ.out.2.mono hszw))
          clear hlt HQ
          go_wp2_with fail
          go_ret
          exact (show PrtP _ _ _ _ _ from ⟨Ao, co, oneB I (t + 1), rfl, HSO.out, HDN.out, oneB_rise I (t + 1), by have := HLE.out; omega, HBZ.out⟩)
    · rw [show ((k + 1 : Nat) : Int) - 1 = (k : Int) by omega] at hv
      subst hv
      have hkx : (k : Int) < (xs.length : Int) := by omega
      have hkt : (k : Int) < (t : Int) + 1 := by omega
      have hth : hasB xs (k : Int) = true := has_iff.2 ⟨by omega, hkx⟩
      have hsub2 : IntKind.i64.wrap ((k : Int) - 1) = (k : Int) - 1 := by rw [IntKind.wrap_i64]; omega
      have HST := hid (HR.out.2.2.step HOK.out (by omega))
      have d0 := HR.out.1.at (t := k) (by omega)
      rw [inB_take (by omega)] at d0
      rcases hin : inB I (k : Int) with _ | _
      · rw [hin] at d0
        have HS2 := hid (show Mt xs [(t : Int)] I k by have := HST.out; rw [hin] at this; exact this)
        clear hth hin HST
        go_wp2_with fail
        go_roundw
        case rel => exact ⟨k, I, by first | rfl | go_num, by omega, hid ⟨HR.out.1, HR.out.2.1, HS2.out⟩⟩
        case measure => simp [intOf]
      · rw [hin] at d0
        have HS2 := hid (show Mt xs [(t : Int)] (setsB I (nodeF xs (k : Int)).l) k by have := HST.out; rw [hin] at this; exact this)
        have HXH := hid (fun x (hx : x ∈ (nodeF xs (k : Int)).l) => (show 0 ≤ x ∧ x < (k : Int) from by
          have := part_lt HOK.out hth hx
          exact ⟨this.1, this.2.1⟩))
        have hxb := nd_le HOK.out hth
        obtain ⟨bz, oz, Az, cz, e, hcz⟩ := rnode_cells xs HND.out (t := k) (by omega)
        injection e with e
        injection e with e e'
        subst e; subst e'
        obtain ⟨y0, y1, y2, y3, -⟩ := hcz wr HBW.out
        have HKL := hid (fun (U : World) (hb : Below mb w U) => (hcz U (by rw [HMB.out]; exact hb)).2.2.2.2)
        have c0 := HC0.out wr HR.out.2.1
        generalize nodeF xs (k : Int) = x at *
        clear hth hin HST hcz
        go_wp2_with fail
        go_loopw [48] (fun v wq => ∃ j : Nat, v = .int .i64 j ∧ j ≤ x.l.length ∧ Hid (BlR wq mb (t + 1) ((setsB I (x.l.take j)).take (t + 1)) ∧ Below mb w wq)) (fun v _ => x.l.length - (intOf v).toNat)
        case atStart => exact ⟨0, rfl, Nat.zero_le _, hid ⟨HR.out.1, HR.out.2.1⟩⟩
        case round =>
          clear c0 y0 y1 y2 y3 d0
          obtain ⟨j, hv, hj, HQ⟩ := hrel
          subst hv
          by_cases hlt : j < x.l.length
          · obtain ⟨b1, o1, u, rfl, huj, hcu⟩ := (HKL.out wr HQ.out.2).elemI hlt
            have huh := HXH.out u (List.mem_of_getElem? huj)
            obtain ⟨q, rfl⟩ := Int.eq_ofNat_of_zero_le huh.1
            have hqt : (q : Int) < (t : Int) + 1 := by omega
            have hlt' : (j : Int) < (x.l.length : Int) := by omega
            have HTK := hid (show (setsB I (x.l.take (j + 1))).take (t + 1) = ((setsB I (x.l.take j)).take (t + 1)).set q true by rw [take_one huj, setsB_snoc, Int.toNat_natCast, List.take_set])
            obtain ⟨d0, d1, -⟩ := bool_cell HQ.out.1.1 HQ.out.1.2 (t := q) (by omega)
            have HD := hid (HQ.out.1.put (t := q) (by omega))
            clear huj huh
            go_wp2_with fail
            go_roundw
            case rel => exact ⟨j + 1, by go_num, by omega, hid ⟨by rw [HTK.out]; exact HD.out, HQ.out.2.setCell (p := ⟨mb, q, none⟩) (Nat.le_refl _) _⟩⟩
            case measure => simp [intOf]; omega
          · have hjn : j = x.l.length := by omega
            have HTK := hid (show x.l.take j = x.l from List.take_of_length_le (by omega))
            have HQ2 := hid (show BlR wr mb (t + 1) ((setsB I x.l).take (t + 1)) from by have := HQ.out.1; rwa [HTK.out] at this)
            have HQB := hid HQ.out.2
            subst hjn
            have hlt' : ¬ ((x.l.length : Nat) : Int) < (x.l.length : Int) := by omega
            clear hlt HQ
            go_wp2_with fail
            go_roundw
            case rel => exact ⟨k, _, by first | rfl | go_num, by omega, hid ⟨HQ2.out, HQB.out, HS2.out⟩⟩
            case measure => simp [intOf]
end Go.Proofs.YtadbgmfdbahcbaaGreatDoor
