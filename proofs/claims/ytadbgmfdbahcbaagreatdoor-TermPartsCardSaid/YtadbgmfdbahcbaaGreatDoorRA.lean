/- the document's layer 3: In, SameInts, Rising. -/
import Derived.Test.YtadbgmfdbahcbaaGreatDoorMA
import Derived.Test.YtadbgmfdbahcbaaGreatDoorK2
import Derived.Test.YtadbgmfdbahcbaaGreatDoorK6
import Derived.Deep.RegionLaw
import Derived.BigQuiet
namespace Go.Proofs.YtadbgmfdbahcbaaGreatDoor
open Go.RowKit Go.KK Go.Shelf Go.Maps
set_option linter.unusedVariables false
set_option linter.unusedSimpArgs false

theorem take_get {α : Type} {l : List α} {k : Nat} {x : α} (h : l[k]? = some x) : l.take (k + 1) = l.take k ++ [x] := by
  obtain ⟨hk, rfl⟩ := List.getElem?_eq_some_iff.1 h
  exact List.take_succ_eq_append_getElem hk
theorem run_cut_to6 {P : Program} {A : Option Addr} {n c sz : Nat} {t e : TypeId} (ht : P.underlying t = some (.slice e)) (hs : ∀ W : World, (sizeOf e).run P W = .ok sz W) {p : Nat} (hp : p ≤ c) :
    ∀ W : World, (Instr.slice t (.slice A n c) none (some (.int .i64 (p : Int))) none).run P W = .ok (.slice A p c) W := by
  intro W
  have he : P.elem t = e := by simp [Program.elem, ht]
  rw [run_slice_h W t A n c (by rw [he]; exact ht) .i64 p (by omega) (by omega), he, hs W]
  have hz : ∀ a : Addr, a.add 0 = a := fun a => by simp [Addr.add]
  simp [Result.andThen, sliced, hz]
theorem take_eq_step {l m : List Int} {j : Nat} {x : Int} (h : l.take j = m.take j) (h1 : l[j]? = some x) (h2 : m[j]? = some x) : l.take (j + 1) = m.take (j + 1) := by
  rw [take_get h1, take_get h2, h]
theorem ne_of_at {l m : List Int} {j : Nat} {x y : Int} (h1 : l[j]? = some x) (h2 : m[j]? = some y) (h : x ≠ y) : (l == m) = false := by
  refine beq_eq_false_iff_ne.2 fun e => h ?_
  rw [e, h2] at h1
  injection h1 with h1
  exact h1.symm
theorem same_ints (A : Option Addr) (n c : Nat) (l : List Int) (B : Option Addr) (m d : Nat) (l' : List Int) (w : World) (h : SlA w 1 A n c (l.map (.int .i64))) (h' : SlA w 1 B m d (l'.map (.int .i64))) (hn : n ≤ 2147483648) (hm : m ≤ 2147483648) :
    Calls Tryz.prog 24 #[.slice A n c, .slice B m d] w fun e w' => e = .returned (.bool (l == l')) ∧ ∃ q, w' = w.drewN q := by
  have HL := hid h.lenI; have HS := hid h; have HL' := hid h'.lenI; have HS' := hid h'
  clear h h'
  by_cases hnm : n = m
  · subst hnm
    go_enter Tryz.func24, Tryz.ntmps24
    go_wp2
    go_loopw [13, 4] (fun i _ wr => ∃ j q : Nat, i = .int .i64 j ∧ j ≤ n ∧ Hid (l.take j = l'.take j) ∧ wr = w.drewN q) (fun i _ _ => n - (intOf i).toNat)
    case atStart => exact ⟨0, 0, rfl, by omega, hid rfl, rfl⟩
    case round =>
      obtain ⟨j, q, hi, hj, HJ, hw⟩ := hrel
      subst hi; subst hw
      by_cases hlt : j < n
      · obtain ⟨b, o, z, rfl, hz, hc⟩ := HS.out.elemI hlt
        obtain ⟨b', o', z', rfl, hz', hc'⟩ := HS'.out.elemI hlt
        have hj0 : (0 : Int) ≤ (j : Int) := by omega
        have hj1 : (j : Int) < (n : Int) := by omega
        have HZ := hid hz; have HZ' := hid hz'
        clear hz hz'
        by_cases hzx : z = z'
        · have HF := hid (take_eq_step HJ.out HZ.out (hzx ▸ HZ'.out))
          have hzx' : (z != z') = false := by rw [hzx]; simp
          clear hzx
          go_wp2
          go_quiet (fail)
          go_wp2
          go_roundw
          case rel => exact ⟨j + 1, _, by go_num, by omega, HF, rfl⟩
          case measure => simp [intOf]; omega
        · have HF := hid (ne_of_at HZ.out HZ'.out hzx)
          have hzx' : (z != z') = true := bne_iff_ne.2 hzx
          clear hzx
          go_wp2
          go_quiet (fail)
          go_wp2
          go_ret
          exact ⟨by rw [HF.out]; rfl, _, World.drewN_drewN _ _ _⟩
      · have HF := hid (show (l == l') = true from beq_iff_eq.2 (by
          have := HJ.out
          rwa [List.take_of_length_le (by have := HL.out; omega), List.take_of_length_le (by have := HL'.out; omega)] at this))
        go_wp2
        go_ret
        exact ⟨by rw [HF.out]; rfl, q, rfl⟩
  · have HF := hid (show (l == l') = false from beq_eq_false_iff_ne.2 fun e => hnm (by rw [← HL.out, ← HL'.out, e]))
    have hnm' : ((n : Int) != (m : Int)) = true := bne_iff_ne.2 (by omega)
    clear hnm
    go_enter Tryz.func24, Tryz.ntmps24
    go_wp2
    go_ret
    exact ⟨by rw [HF.out]; rfl, 0, rfl⟩
/-- Where a number goes in a list: behind all that are not greater, from the end. -/
def posF (acc : List Int) (n : Int) : Nat → Nat
  | 0 => 0
  | k + 1 => if n < acc.getD k 0 then posF acc n k else k + 1
theorem posF_le (acc : List Int) (n : Int) : ∀ k, posF acc n k ≤ k
  | 0 => Nat.le_refl _
  | k + 1 => by
    rw [posF]
    split
    · have := posF_le acc n k; omega
    · exact Nat.le_refl _
def insR (acc : List Int) (n : Int) : List Int :=
  if 0 < posF acc n acc.length ∧ acc.getD (posF acc n acc.length - 1) 0 = n then acc else acc.take (posF acc n acc.length) ++ n :: acc.drop (posF acc n acc.length)
/-- Numbers in order, each once. -/
def risL (l : List Int) : List Int := l.foldl insR []
theorem insR_le (acc : List Int) (n : Int) : (insR acc n).length ≤ acc.length + 1 := by
  unfold insR
  split
  · omega
  · simp; omega
theorem risL_le : ∀ (l acc : List Int), (l.foldl insR acc).length ≤ acc.length + l.length
  | [], acc => by simp
  | x :: l, acc => by
    have := risL_le l (insR acc x)
    have := insR_le acc x
    simp; omega
theorem risL_take {l : List Int} {j : Nat} {x : Int} (h : l[j]? = some x) : risL (l.take (j + 1)) = insR (risL (l.take j)) x := by
  unfold risL
  rw [take_get h, List.foldl_append]; rfl
theorem risL_take_le (l : List Int) (j : Nat) : (risL (l.take j)).length ≤ j := by
  have := risL_le (l.take j) []
  unfold risL
  have h2 : (l.take j).length ≤ j := List.length_take_le _ _
  simp at this
  omega

theorem sla_take {w : World} {A : Option Addr} {n c : Nat} {l : List Int} (h : SlA w 1 A n c (l.map (.int .i64))) {p : Nat} (hp : p ≤ n) : SlA w 1 A p c ((l.take p).map (.int .i64)) := by
  have h1 := h.nc
  have h3 := h.lenI
  refine ⟨by omega, h.cm, by simp; omega, fun j u hj => ?_⟩
  rw [List.map_take, List.getElem?_take] at hj
  split at hj
  · exact h.cells j u hj
  · cases hj
theorem run_cut_from1 {P : Program} {A A' : Option Addr} {n c : Nat} {t e : TypeId} (ht : P.underlying t = some (.slice e)) (hs : ∀ W : World, (sizeOf e).run P W = .ok 1 W) {p : Nat} (hp : p ≤ n) (hA : sliced A p n c 1 = .slice A' (n - p) (c - p)) :
    ∀ W : World, (Instr.slice t (.slice A n c) (some (.int .i64 (p : Int))) none none).run P W = .ok (.slice A' (n - p) (c - p)) W := by
  intro W
  have he : P.elem t = e := by simp [Program.elem, ht]
  rw [run_slice_l W t A n c (by rw [he]; exact ht) .i64 p (by omega) (by omega), he, hs W]
  simp [Result.andThen, hA]
theorem own_fin {W : World} {base b2 K : Nat} {v : Value} {acc : List Int} {x : Int} (h : W.ownsRow b2 3 1 v (0 + K + 1 + (acc.length - K)) ((([] ++ (acc.take K).map (Value.int .i64)) ++ [Value.int .i64 x]) ++ (acc.map (Value.int .i64)).drop K)) (hb : base ≤ b2) (hK : K ≤ acc.length) :
    W.ownsRow base 3 1 v (acc.take K ++ x :: acc.drop K).length ((acc.take K ++ x :: acc.drop K).map (.int .i64)) := by
  have e1 : (acc.take K ++ x :: acc.drop K).length = 0 + K + 1 + (acc.length - K) := by simp; omega
  have e2 : (acc.take K ++ x :: acc.drop K).map (Value.int .i64) = (([] ++ (acc.take K).map (Value.int .i64)) ++ [Value.int .i64 x]) ++ (acc.map (Value.int .i64)).drop K := by simp
  rw [e1, e2]
  exact own_mono h hb
set_option maxHeartbeats 4000000 in
theorem rising_any (A : Option Addr) (n c : Nat) (l : List Int) (w : World) (h : SlA w 1 A n c (l.map (.int .i64))) (hn : n ≤ 100000) :
    Calls Tryz.prog 29 #[.slice A n c] w fun e w' => ∃ v, e = .returned v ∧ w'.ownsRow w.heap.size 3 1 v (risL l).length ((risL l).map (.int .i64)) ∧ Below w.heap.size w w' := by
  have HL := hid h.lenI; have HS := hid h
  clear h
  obtain ⟨i0, hi, hz0, hz1, hz2⟩ := info_parts Tryz.infoInt
  go_enter Tryz.func29, Tryz.ntmps29
  go_wp2
  go_loopw [9, 3] (fun i v wr => ∃ j : Nat, i = .int .i64 j ∧ j ≤ n ∧ wr.ownsRow w.heap.size 3 1 v (risL (l.take j)).length ((risL (l.take j)).map (.int .i64)) ∧ Below w.heap.size w wr) (fun i _ _ => n - (intOf i).toNat)
  case atStart => exact ⟨0, rfl, by omega, World.ownsRow_nil _ _ _ _, Below.refl _ _⟩
  case round =>
    obtain ⟨j, hi1, hj, hown, hbr⟩ := hrel
    subst hi1
    have HB := hid hbr; clear hbr
    by_cases hlt : j < n
    · obtain ⟨b, o, x, rfl, hx, hc⟩ := (HS.out.ext HB.out).elemI hlt
      have HR := hid (risL_take hx)
      have hle := risL_take_le l j
      clear hx
      have HO := hid hown
      obtain ⟨A2, c2, rfl, hs2⟩ := SlA.owned hown
      have HS2 := hid hs2
      clear hown hs2
      generalize hacc : risL (l.take j) = acc at *
      have HA := hid hacc; clear hacc
      have hzr := HB.out.size
      go_wp2
      go_loop [6] (fun i => ∃ k : Nat, i = .int .i64 k ∧ k ≤ acc.length ∧ Hid (posF acc x acc.length = posF acc x k)) (fun i => (intOf i).toNat)
      case atStart => exact ⟨acc.length, rfl, Nat.le_refl _, hid rfl⟩
      case round =>
        obtain ⟨k, hi2, hk, HK⟩ := hrel
        subst hi2
        by_cases hk0 : 0 < k
        · obtain ⟨k', rfl⟩ : ∃ k', k = k' + 1 := ⟨k - 1, by omega⟩
          obtain ⟨b2, o2, y, rfl, hy, hcy⟩ := HS2.out.elemI (show k' < acc.length by omega)
          have hidx : ((k' + 1 : Nat) : Int) - 1 = (k' : Int) := by omega
          have HY := hid (show acc.getD k' 0 = y by rw [List.getD, hy]; rfl)
          clear hy
          by_cases hyx : x < y
          · have HK2 := hid (show posF acc x acc.length = posF acc x k' by rw [HK.out, posF, HY.out, if_pos hyx])
            go_wp2
            go_round
            case rel => exact ⟨k', by go_num, by omega, HK2⟩
            case measure => simp [intOf]
          · have HP := hid (show posF acc x acc.length = k' + 1 by rw [HK.out, posF, HY.out, if_neg hyx])
            by_cases hye : y = x
            · have HI := hid (show risL (l.take (j + 1)) = acc by rw [HR.out]; unfold insR; rw [HP.out, Nat.add_sub_cancel, HY.out, if_pos ⟨by omega, hye⟩])
              have hye' : (y == x) = true := beq_iff_eq.2 hye
              clear hye
              go_wp2
              go_roundw
              case rel => exact ⟨j + 1, by go_num, by omega, by rw [HI.out]; exact HO.out, HB.out⟩
              case measure => simp [intOf]; omega
            · have HI := hid (show risL (l.take (j + 1)) = acc.take (k' + 1) ++ x :: acc.drop (k' + 1) by rw [HR.out]; unfold insR; rw [HP.out, Nat.add_sub_cancel, HY.out, if_neg (fun h => hye h.2)])
              have hye' : (y == x) = false := beq_eq_false_iff_ne.2 hye
              clear hye
              have HTk := hid (sla_take HS2.out (show k' + 1 ≤ acc.length by omega))
              obtain ⟨A4, hA4, hdr⟩ := HS2.out.cut_from (show k' + 1 ≤ acc.length by omega)
              have HDr := hid hdr; clear hdr
              have hsH := run_cut_to6 (P := Tryz.prog) (A := (some ⟨b2, o2, none⟩)) (n := acc.length) (c := c2) Tryz.underlying27 (fun W => Tryz.sizeOf3 W) (p := k' + 1) (by have := HS2.out.nc; omega)
              have hsL := run_cut_from1 (P := Tryz.prog) (A := (some ⟨b2, o2, none⟩)) (n := acc.length) (c := c2) Tryz.underlying27 (fun W => Tryz.sizeOf3 W) (p := k' + 1) (by omega) hA4
              clear hA4
              rw [show ((k' + 1 : Nat) : Int) = (k' : Int) + 1 by omega] at hsH hsL
              go_wp2
              go_region_law (first
                | (refine step_append_sl _ rfl (.const (.slice none 0 0)) (.tmp 41) 27 rfl wr.heap.size 3 i0 (.int .i64 0) 1 8 Tryz.underlying27 hi hz0 hz1 hz2 rfl (by decide) _ 0 [] (by rfl) (World.ownsRow_nil _ _ _ _) (some ⟨b2, o2, none⟩) (k' + 1) c2 ((acc.take (k' + 1)).map (.int .i64)) (by rfl) ?s1 (ints_one _ _) (by unfold maxLen; omega) (by omega) (by simp) ?_; (case s1 => first | exact HTk.out.drew | exact HTk.out.drew.alloc _); intro v1 w1 own1 gr1 _; have hb1 : Below wr.heap.size wr w1 := (by first | exact below_append (below_drew (Below.refl _ _)) gr1 (World.ownsRow_nil _ wr.heap.size 3 1) (Nat.le_refl _) (by simp) | exact below_append ((below_drew (Below.refl _ _)).alloc (Nat.le_refl _) _) gr1 (World.ownsRow_nil _ wr.heap.size 3 1) (Nat.le_refl _) (by simp)))
                | (refine step_append_sl _ rfl (.tmp 42) (.tmp 44) 27 rfl wr.heap.size 3 i0 (.int .i64 0) 1 8 Tryz.underlying27 hi hz0 hz1 hz2 rfl (by decide) v1 (0 + (k' + 1)) ([] ++ (acc.take (k' + 1)).map (.int .i64)) (by rfl) ?s2 _ 1 1 [.int .i64 x] (by rfl) ?s3 (one_int _ _) (by unfold maxLen; omega) (by omega) ?s4 ?_; (case s2 => first | exact own1 | exact own1.alloc _); (case s3 => first | exact SlA.lit1 _ | exact (SlA.lit1 (w := wr.drew) (T := 3) (.int .i64 x)).ext (below_grown gr1)); (case s4 => first | exact hb1.size | exact (hb1.alloc hb1.size _).size); intro v2 w2 own2 gr2 _; have hb2 : Below wr.heap.size wr w2 := (by first | exact below_append hb1 gr2 own1 (Nat.le_refl _) hb1.size | exact below_append (hb1.alloc hb1.size _) gr2 (own1.alloc _) (Nat.le_refl _) (hb1.alloc hb1.size _).size))
                | (refine step_append_sl _ rfl (.tmp 45) (.tmp 48) 27 rfl wr.heap.size 3 i0 (.int .i64 0) 1 8 Tryz.underlying27 hi hz0 hz1 hz2 rfl (by decide) v2 (0 + (k' + 1) + 1) (([] ++ (acc.take (k' + 1)).map (.int .i64)) ++ [.int .i64 x]) (by rfl) own2 A4 (acc.length - (k' + 1)) (c2 - (k' + 1)) ((acc.map (.int .i64)).drop (k' + 1)) (by rfl) ?s5 ?s6 (by unfold maxLen; omega) (by omega) hb2.size ?_; (case s5 => exact HDr.out.ext hb2); (case s6 => intro u hu; exact ints_one _ _ u (List.mem_of_mem_drop hu)); intro v3 w3 own3 gr3 _; have hb3 : Below wr.heap.size wr w3 := below_append hb2 gr3 own2 (Nat.le_refl _) hb2.size))
              all_goals
                have HO3 := hid own3; have HB3 := hid hb3
                clear own1 own2 own3 gr1 gr2 gr3 hb1 hb2 hb3
                go_wp2
                go_roundw
                case rel =>
                  refine ⟨j + 1, by go_num, by omega, ?_, HB.out.trans (HB3.out.mono hzr)⟩
                  rw [HI.out]
                  exact own_fin HO3.out hzr (by omega)
                case measure => simp [intOf]; omega
        · have hk00 : k = 0 := by omega
          subst hk00
          have HI := hid (show risL (l.take (j + 1)) = acc.take 0 ++ x :: acc.drop 0 by rw [HR.out]; unfold insR; rw [HK.out, posF, if_neg (fun h => absurd h.1 (by omega))])
          have HTk := hid (sla_take HS2.out (show 0 ≤ acc.length by omega))
          obtain ⟨A4, hA4, hdr⟩ := HS2.out.cut_from (show 0 ≤ acc.length by omega)
          have HDr := hid hdr; clear hdr
          have hsH := run_cut_to6 (P := Tryz.prog) (A := A2) (n := acc.length) (c := c2) Tryz.underlying27 (fun W => Tryz.sizeOf3 W) (p := 0) (by have := HS2.out.nc; omega)
          have hsL := run_cut_from1 (P := Tryz.prog) (A := A2) (n := acc.length) (c := c2) Tryz.underlying27 (fun W => Tryz.sizeOf3 W) (p := 0) (by omega) hA4
          clear hA4
          rw [show ((0 : Nat) : Int) = 0 from rfl] at hsH hsL
          go_wp2
          go_region_law (first
            | (refine step_append_sl _ rfl (.const (.slice none 0 0)) (.tmp 41) 27 rfl wr.heap.size 3 i0 (.int .i64 0) 1 8 Tryz.underlying27 hi hz0 hz1 hz2 rfl (by decide) _ 0 [] (by rfl) (World.ownsRow_nil _ _ _ _) A2 (0) c2 ((acc.take (0)).map (.int .i64)) (by rfl) ?s1 (ints_one _ _) (by unfold maxLen; omega) (by omega) (by simp) ?_; (case s1 => first | exact HTk.out.drew | exact HTk.out.drew.alloc _); intro v1 w1 own1 gr1 _; have hb1 : Below wr.heap.size wr w1 := (by first | exact below_append (below_drew (Below.refl _ _)) gr1 (World.ownsRow_nil _ wr.heap.size 3 1) (Nat.le_refl _) (by simp) | exact below_append ((below_drew (Below.refl _ _)).alloc (Nat.le_refl _) _) gr1 (World.ownsRow_nil _ wr.heap.size 3 1) (Nat.le_refl _) (by simp)))
            | (refine step_append_sl _ rfl (.tmp 42) (.tmp 44) 27 rfl wr.heap.size 3 i0 (.int .i64 0) 1 8 Tryz.underlying27 hi hz0 hz1 hz2 rfl (by decide) v1 (0 + (0)) ([] ++ (acc.take (0)).map (.int .i64)) (by rfl) ?s2 _ 1 1 [.int .i64 x] (by rfl) ?s3 (one_int _ _) (by unfold maxLen; omega) (by omega) ?s4 ?_; (case s2 => first | exact own1 | exact own1.alloc _); (case s3 => first | exact SlA.lit1 _ | exact (SlA.lit1 (w := wr.drew) (T := 3) (.int .i64 x)).ext (below_grown gr1)); (case s4 => first | exact hb1.size | exact (hb1.alloc hb1.size _).size); intro v2 w2 own2 gr2 _; have hb2 : Below wr.heap.size wr w2 := (by first | exact below_append hb1 gr2 own1 (Nat.le_refl _) hb1.size | exact below_append (hb1.alloc hb1.size _) gr2 (own1.alloc _) (Nat.le_refl _) (hb1.alloc hb1.size _).size))
            | (refine step_append_sl _ rfl (.tmp 45) (.tmp 48) 27 rfl wr.heap.size 3 i0 (.int .i64 0) 1 8 Tryz.underlying27 hi hz0 hz1 hz2 rfl (by decide) v2 (0 + (0) + 1) (([] ++ (acc.take (0)).map (.int .i64)) ++ [.int .i64 x]) (by rfl) own2 A4 (acc.length - (0)) (c2 - (0)) ((acc.map (.int .i64)).drop (0)) (by rfl) ?s5 ?s6 (by unfold maxLen; omega) (by omega) hb2.size ?_; (case s5 => exact HDr.out.ext hb2); (case s6 => intro u hu; exact ints_one _ _ u (List.mem_of_mem_drop hu)); intro v3 w3 own3 gr3 _; have hb3 : Below wr.heap.size wr w3 := below_append hb2 gr3 own2 (Nat.le_refl _) hb2.size))
          all_goals
            have HO3 := hid own3; have HB3 := hid hb3
            clear own1 own2 own3 gr1 gr2 gr3 hb1 hb2 hb3
            go_wp2
            go_roundw
            case rel =>
              refine ⟨j + 1, by go_num, by omega, ?_, HB.out.trans (HB3.out.mono hzr)⟩
              rw [HI.out]
              exact own_fin HO3.out hzr (by omega)
            case measure => simp [intOf]; omega
    · have HJ := hid (show l.take j = l from List.take_of_length_le (by have := HL.out; omega))
      go_wp2
      go_ret
      refine ⟨_, rfl, ?_, HB.out⟩
      have := hown
      rw [HJ.out] at this
      exact this
end Go.Proofs.YtadbgmfdbahcbaaGreatDoor
