import Derived.Test.YtekfjcaihocmmaaGreatDoorY11
import Derived.Test.YtekfjcaihocmmaaGreatDoorY01
import Derived.Test.YtekfjcaihocmmaaGreatDoorShelf
import Derived.BigQuiet
import Derived.Deep.DeepCutAuto
import Derived.Deep.RegionLaw
import Derived.Laws.CopyOwn
import Derived.Deep.OwnRows
import Derived.Test.YtekfjcaihocmmaaGreatDoorY04
import Derived.Test.YtekfjcaihocmmaaGreatDoorY10
/- (*strings.byteStringReplacer).Replace: a stroke ahead of quotes and strokes. (*strings.Replacer).Replace, of a Replacer that is not built yet. -/
namespace Go.KK
open Go.RowKit
set_option linter.unusedVariables false
set_option linter.unusedSimpArgs false

/-- How many are to have a stroke. -/
def nEs (l : List UInt8) : Nat := l.count 92 + l.count 34
theorem esc_snoc (l : List UInt8) (b : UInt8) : escB (l ++ [b]) = escB l ++ (if b = 34 ∨ b = 92 then [92, b] else [b]) := by
  unfold escB; rw [List.flatMap_append]; simp
theorem nEs_snoc (l : List UInt8) (b : UInt8) : nEs (l ++ [b]) = nEs l + (if b = 34 ∨ b = 92 then 1 else 0) := by
  unfold nEs
  rw [List.count_append, List.count_append, List.count_singleton, List.count_singleton]
  by_cases h1 : b = 34
  · subst h1; simp; omega
  · by_cases h2 : b = 92
    · subst h2; simp; omega
    · simp [h1, h2]
theorem esc_len : ∀ l : List UInt8, (escB l).length = l.length + nEs l := by
  intro l
  refine snoc_ind (P := fun l => (escB l).length = l.length + nEs l) rfl (fun l b ih => ?_) l
  rw [esc_snoc, nEs_snoc, List.length_append, List.length_append, ih]
  split
  · simp; omega
  · simp; omega
theorem esc_none : ∀ l : List UInt8, nEs l = 0 → escB l = l := by
  intro l
  refine snoc_ind (P := fun l => nEs l = 0 → escB l = l) (fun _ => rfl) (fun l b ih => ?_) l
  intro h
  rw [nEs_snoc] at h
  rw [esc_snoc]
  split at h
  · omega
  · rename_i hb
    rw [if_neg hb, ih (by omega)]
theorem nEs_take_le (l : List UInt8) (i : Nat) : nEs (l.take i) ≤ nEs l := by
  have h : nEs l = nEs (l.take i) + nEs (l.drop i) := by
    unfold nEs
    have h1 : ∀ x : UInt8, l.count x = (l.take i).count x + (l.drop i).count x := fun x => by rw [← List.count_append, List.take_append_drop]
    rw [h1 92, h1 34]; omega
  omega
end Go.KK
namespace Go.Proofs.YtekfjcaihocmmaaGreatDoor
open Go.RowKit Go.KK Go.Shelf Go.Maps

theorem run_cut_f1 {P : Program} {A A' : Option Addr} {n c : Nat} {t e : TypeId} (ht : P.underlying t = some (.slice e)) (hs : ∀ W : World, (sizeOf e).run P W = .ok 1 W) {p : Nat} (hp : p ≤ n) (hA : sliced A p n c 1 = .slice A' (n - p) (c - p)) :
    ∀ W : World, (Instr.slice t (.slice A n c) (some (.int .i64 (p : Int))) none none).run P W = .ok (.slice A' (n - p) (c - p)) W := by
  intro W
  have he : P.elem t = e := by simp [Program.elem, ht]
  rw [run_slice_l W t A n c (by rw [he]; exact ht) .i64 p (by omega) (by omega), he, hs W]
  simp [Result.andThen, hA]
/-- The cells of a row of N bytes of which so many are written. -/
def buC (N : Nat) (l : List UInt8) : List Value := (l.map fun b : UInt8 => Value.int .u8 b.toNat) ++ List.replicate (N - l.length) (Value.int .u8 0)
theorem buC_get {N : Nat} {l : List UInt8} (h : l.length < N) : (buC N l)[l.length]? = some (.int .u8 0) := by
  unfold buC
  rw [List.getElem?_append_right (by simp), List.length_map, Nat.sub_self, List.getElem?_replicate, if_pos (by omega)]
theorem buC_put {N : Nat} {l : List UInt8} (b : UInt8) (h : l.length < N) : (buC N l).set l.length (.int .u8 b.toNat) = buC N (l ++ [b]) := by
  unfold buC
  have e : N - l.length = (N - (l ++ [b]).length) + 1 := by rw [List.length_append, List.length_singleton]; omega
  rw [e, List.replicate_succ, List.set_append, if_neg (by simp), List.length_map, Nat.sub_self, List.set_cons_zero, List.map_append]
  simp
theorem buC_two {N : Nat} {l : List UInt8} (x y : UInt8) (h : l.length + 2 ≤ N) : splice (buC N l) l.length (byC ⟨#[x, y]⟩) = buC N (l ++ [x, y]) := by
  unfold buC splice
  have hl : (byC ⟨#[x, y]⟩).length = 2 := rfl
  have e : N - l.length = (N - (l ++ [x, y]).length) + 1 + 1 := by rw [List.length_append, List.length_cons, List.length_singleton]; omega
  rw [hl, e, List.replicate_succ, List.replicate_succ, List.take_append_of_le_length (by simp), List.take_of_length_le (by simp), List.drop_append, List.drop_of_length_le (by simp), List.length_map, Nat.add_sub_cancel_left, List.map_append, List.append_assoc]
  rfl
theorem buC_done {N : Nat} {l : List UInt8} (h : l.length = N) : buC N l = l.map fun b : UInt8 => Value.int .u8 b.toNat := by
  unfold buC
  rw [h, Nat.sub_self]; simp
theorem buC_start (N : Nat) : (madeCells #[Value.int .u8 0] N).toList = buC N [] := by
  rw [toList_madeCells_one]; simp [buC]
/-- The bytes that are written so far, in a row of N. -/
structure BuW (w0 W : World) (h N : Nat) (l : List UInt8) : Prop where
  hp : W.heap[h]? = some (.cells (buC N l).toArray 5 (0, 0))
  le : l.length ≤ N
  h0 : w0.heap.size ≤ h
  b : Below w0.heap.size w0 W
section
variable {w0 W W' : World} {h N : Nat} {l : List UInt8}
theorem BuW.lt (k : BuW w0 W h N l) : h < W.heap.size := (Array.getElem?_eq_some_iff.1 k.hp).1
theorem BuW.cell (k : BuW w0 W h N l) (hl : l.length < N) : W.cell? ⟨h, l.length, none⟩ = some (.int .u8 0) := by
  rw [cell_of_row W h _ _ _ (0, 0) k.hp, List.getElem?_toArray, buC_get hl]
theorem BuW.put (k : BuW w0 W h N l) (b : UInt8) (hl : l.length < N) : BuW w0 (W.setCell ⟨h, l.length, none⟩ (.int .u8 b.toNat)) h N (l ++ [b]) := by
  refine ⟨?_, by rw [List.length_append]; exact hl, k.h0, k.b.grown (row := some h) ⟨rfl, rfl, rfl, by simp, fun i _ hne => Below.heap_setCell W ⟨h, _, none⟩ _ i (by rintro rfl; exact hne rfl)⟩ k.b.size (fun j hj => by injection hj with hj; subst hj; exact k.h0)⟩
  rw [heap_setCell_same W h l.length _ _ _ k.hp, ← buC_put b hl]
  simp
theorem BuW.done (k : BuW w0 W h N l) (hl : l.length = N) (hN : N ≤ maxLen) : SlA W 1 (some ⟨h, 0, none⟩) N N ((l.map fun b : UInt8 => (b.toNat : Int)).map (.int .u8)) := by
  refine ⟨Nat.le_refl _, hN, by simp [hl], fun j u hj => ⟨h, 0, rfl, ?_⟩⟩
  rw [Nat.zero_add, cell_of_row W h j _ _ (0, 0) k.hp, List.getElem?_toArray, buC_done hl]
  rwa [List.map_map] at hj
theorem buW_made (w : World) (q N : Nat) : BuW w ((w.drewN q).alloc (.cells (madeCells #[Value.int .u8 0] N) 5)) w.heap.size N [] := by
  refine ⟨?_, Nat.zero_le _, Nat.le_refl _, (below_drewN (Below.refl _ _) q).alloc (by simp) _⟩
  have h := heap_alloc_new (w.drewN q) (.cells (madeCells #[Value.int .u8 0] N) 5)
  rw [← buC_start]
  simpa using h
end
set_option maxHeartbeats 8000000 in
set_option maxRecDepth 1000000 in
theorem bsrep_any (m g : Nat) (s : ByteArray) (w : World) (h : Bsr m w g) (hs : s.size ≤ 100000) :
    Calls Tryz.prog 343 #[.pointer (some ⟨g, 0, none⟩), .string s] w fun e w' => e = .returned (.string ⟨(escB s.data.toList).toArray⟩) ∧ Below w.heap.size w w' := by
  obtain ⟨a1, c1, q1, -, y1⟩ := h.q
  obtain ⟨a2, c2, q2, -, y2⟩ := h.e
  obtain ⟨a3, c3, q3, -, y3⟩ := h.t
  have HO := hid h.o
  obtain ⟨t3, o3, e3, r0⟩ := y3.cells 0 _ rfl
  obtain ⟨t4, o4, e4, r1⟩ := y3.cells 1 _ rfl
  injection e3 with e3; injection e3 with e5 e6; subst e5; subst e6
  injection e4 with e4; injection e4 with e5 e6; subst e5; subst e6
  rw [Nat.add_zero] at r0
  rw [Nat.zero_add] at r1
  have HY1 := hid y1; have HY2 := hid y2
  clear h y1 y2 y3
  have hby : ∀ (x : UInt8) (h : 0 < (⟨#[x]⟩ : ByteArray).size), (⟨#[x]⟩ : ByteArray)[0]'h = x := fun _ _ => rfl
  have hnl := neq_nil; have hns := neq_some
  have hnot : ∀ (x : Bool) (w : World), (Op.unary .not (.bool x)).run Tryz.prog w = .ok (.bool (!x)) w := fun _ _ => rfl
  obtain ⟨n9, hn9⟩ : ∃ n, n = s.data.toList.count 92 := ⟨_, rfl⟩
  obtain ⟨n3, hn3⟩ : ∃ n, n = s.data.toList.count 34 := ⟨_, rfl⟩
  have hb9 : n9 ≤ 100000 := by
    have := List.count_le_length (a := (92 : UInt8)) (l := s.data.toList)
    have h2 : s.data.toList.length = s.size := by simp
    omega
  have hb3 : n3 ≤ 100000 := by
    have := List.count_le_length (a := (34 : UInt8)) (l := s.data.toList)
    have h2 : s.data.toList.length = s.size := by simp
    omega
  have HNE := hid (show nEs s.data.toList = n9 + n3 by unfold nEs; rw [hn9, hn3])
  have HN9 := hid hn9; have HN3 := hid hn3
  clear hn9 hn3
  go_enter Tryz.func343, Tryz.ntmps343
  go_upto_if 26 with fail
  go_cut [5, 6] (fun v5 v6 wr => v5 = .int .i64 ((s.size + (n9 + n3) : Nat) : Int) ∧ v6 = .bool (decide (n9 + n3 ≠ 0)) ∧ ∃ q, wr = w.drewN q)
  case first =>
    by_cases h16 : 16 ≤ s.size
    · have h16' : (16 : Int) ≤ (s.size : Int) := by omega
      go_wp2_with fail
      go_loopw [32, 5, 6] (fun v v5 v6 wr => (∃ q, wr = w.drewN q) ∧ ((v = .int .i64 0 ∧ v5 = .int .i64 s.size ∧ v6 = .bool false) ∨ (v = .int .i64 1 ∧ v5 = .int .i64 ((s.size + n9 : Nat) : Int) ∧ v6 = .bool (decide (n9 ≠ 0))) ∨ (v = .int .i64 2 ∧ v5 = .int .i64 ((s.size + (n9 + n3) : Nat) : Int) ∧ v6 = .bool (decide (n9 + n3 ≠ 0))))) (fun v _ _ _ => (2 - intOf v).toNat)
      case atStart => exact ⟨⟨0, rfl⟩, .inl ⟨rfl, rfl, rfl⟩⟩
      case round =>
        obtain ⟨⟨q, hw⟩, ⟨hv, h5, h6⟩ | ⟨hv, h5, h6⟩ | ⟨hv, h5, h6⟩⟩ := hrel
        all_goals subst hw; subst hv; subst h5; subst h6
        · have HCT := hid (Tryz.strings_Count_one s 92 (w.drewN q))
          unfold Lib.countByte at HCT
          rw [← HN9.out] at HCT
          by_cases hz : n9 = 0
          · have hzb : ((n9 : Int) != 0) = false := by rw [hz]; rfl
            go_wp2_with fail
            refine HCT.out.mono ?_
            rintro e w5 ⟨rfl, hw5⟩
            subst hw5
            go_wp2_with fail
            go_roundw
            case rel => exact ⟨⟨_, rfl⟩, .inr (.inl ⟨by go_num, by rw [hz]; simp, by rw [hz]; simp⟩)⟩
            case measure => simp [intOf]
          · have hzb : ((n9 : Int) != 0) = true := bne_iff_ne.2 (by omega)
            go_wp2_with fail
            refine HCT.out.mono ?_
            rintro e w5 ⟨rfl, hw5⟩
            subst hw5
            go_wp2_with fail
            go_quiet (fail)
            go_wp2_with fail
            go_roundw
            case rel => exact ⟨⟨_, rfl⟩, .inr (.inl ⟨by go_num, by go_num, by simp [hz]⟩)⟩
            case measure => simp [intOf]
        · have HCT := hid (Tryz.strings_Count_one s 34 (w.drewN q))
          unfold Lib.countByte at HCT
          rw [← HN3.out] at HCT
          by_cases hz : n3 = 0
          · have hzb : ((n3 : Int) != 0) = false := by rw [hz]; rfl
            go_wp2_with fail
            refine HCT.out.mono ?_
            rintro e w5 ⟨rfl, hw5⟩
            subst hw5
            go_wp2_with fail
            go_roundw
            case rel => exact ⟨⟨_, rfl⟩, .inr (.inr ⟨by go_num, by rw [hz]; simp, by rw [hz]; simp⟩)⟩
            case measure => simp [intOf]
          · have hzb : ((n3 : Int) != 0) = true := bne_iff_ne.2 (by omega)
            go_wp2_with fail
            refine HCT.out.mono ?_
            rintro e w5 ⟨rfl, hw5⟩
            subst hw5
            go_wp2_with fail
            go_quiet (fail)
            go_wp2_with fail
            go_roundw
            case rel => exact ⟨⟨_, rfl⟩, .inr (.inr ⟨by go_num, by go_num, by simp [hz]⟩)⟩
            case measure => simp [intOf]
        · go_wp2_with fail
          go_meet
          exact ⟨rfl, rfl, q, rfl⟩
    · have h16' : ¬ (16 : Int) ≤ (s.size : Int) := by omega
      go_wp2_with fail
      go_loopw [10, 5, 6] (fun v v5 v6 wr => ∃ i q : Nat, v = .int .i64 i ∧ i ≤ s.size ∧ wr = w.drewN q ∧ ∃ k, Hid (k = nEs (s.data.toList.take i) ∧ k ≤ i) ∧ v5 = .int .i64 ((s.size + k : Nat) : Int) ∧ v6 = .bool (decide (k ≠ 0))) (fun v _ _ _ => s.size - (intOf v).toNat)
      case atStart => exact ⟨0, 0, rfl, Nat.zero_le _, rfl, 0, hid ⟨rfl, Nat.le_refl _⟩, rfl, rfl⟩
      case round =>
        obtain ⟨i, q, hv, hi, hw, k, HK, h5, h6⟩ := hrel
        subst hw; subst hv; subst h5; subst h6
        have hki := HK.out.2
        by_cases hlt : i < s.size
        · have hlt' : (i : Int) < (s.size : Int) := by omega
          obtain ⟨x, hx⟩ : ∃ x : UInt8, s[i]'hlt = x := ⟨_, rfl⟩
          have hxl : s.data.toList[i]? = some x := by rw [← hx]; exact Lib.data_getElem? s i hlt
          have HTK := hid (show s.data.toList.take (i + 1) = s.data.toList.take i ++ [x] from take_one hxl)
          have hx256 : (x.toNat : Int) < 256 := by have := UInt8.toNat_lt x; omega
          have HSN := hid (nEs_snoc (s.data.toList.take i) x)
          clear hxl
          by_cases h1 : x = 34
          · subst h1
            have HKN := hid (show k + 1 = nEs (s.data.toList.take (i + 1)) ∧ k + 1 ≤ i + 1 by rw [HTK.out, HSN.out, ← HK.out.1]; exact ⟨rfl, by omega⟩)
            go_wp2_with fail
            go_roundw
            case rel => exact ⟨i + 1, _, by go_num, by omega, rfl, k + 1, HKN, by go_num, by simp⟩
            case measure => simp [intOf]; omega
          · by_cases h2 : x = 92
            · subst h2
              have HKN := hid (show k + 1 = nEs (s.data.toList.take (i + 1)) ∧ k + 1 ≤ i + 1 by rw [HTK.out, HSN.out, ← HK.out.1]; exact ⟨rfl, by omega⟩)
              go_wp2_with fail
              go_roundw
              case rel => exact ⟨i + 1, _, by go_num, by omega, rfl, k + 1, HKN, by go_num, by simp⟩
              case measure => simp [intOf]; omega
            · have HKN := hid (show k = nEs (s.data.toList.take (i + 1)) ∧ k ≤ i + 1 by rw [HTK.out, HSN.out, ← HK.out.1, if_neg (fun h => h.elim h1 h2)]; exact ⟨rfl, by omega⟩)
              have hcx := HO.out x.toNat (UInt8.toNat_lt x) (fun e => h1 (UInt8.toNat_inj.1 e)) (fun e => h2 (UInt8.toNat_inj.1 e))
              clear h1 h2
              go_wp2_with fail
              go_roundw
              case rel => exact ⟨i + 1, _, by go_num, by omega, rfl, k, HKN, rfl, rfl⟩
              case measure => simp [intOf]; omega
        · obtain rfl : i = s.size := by omega
          have hlt' : ¬ (s.size : Int) < (s.size : Int) := by omega
          have hk : k = n9 + n3 := by
            have h := HK.out.1
            rw [List.take_of_length_le (by simp), HNE.out] at h
            exact h
          subst hk
          go_wp2_with fail
          go_meet
          exact ⟨rfl, by congr 1; by_cases h9 : n9 = 0 <;> by_cases h3 : n3 = 0 <;> simp [h9, h3], q, rfl⟩
  obtain ⟨h5, h6, q, hw⟩ := hcut
  subst h5; subst h6; subst hw
  clear r0 r1 q3 HN9 HN3
  by_cases hz : n9 + n3 = 0
  · have HES := hid (esc_none _ (HNE.out.trans hz))
    rw [decide_eq_false (fun h => h hz)]
    go_wp2_with fail
    go_ret
    exact ⟨by show Ending.returned (.string s) = _; rw [HES.out], (below_drewN (Below.refl _ _) q)⟩
  · rw [decide_eq_true hz]
    obtain ⟨i0, hi, hz0, hz1, hz2⟩ := info_parts Tryz.infoU8
    have HN := hid (show (escB s.data.toList).length = s.size + (n9 + n3) by rw [esc_len, HNE.out]; simp)
    generalize hNN : s.size + (n9 + n3) = N at *
    have hN3 : N ≤ 300000 := by omega
    have hNn : (s.size : Int) + ((n9 : Int) + (n3 : Int)) = (N : Int) := by omega
    first | rw [hNn] | skip
    clear hNn hNN hz hb9 hb3 HNE
    go_wp2_with (first
      | (at_make; refine (wpList_make_row _ rfl _ _ 195 rfl 5 i0 (.int .u8 0) Tryz.underlying195 hi hz0 hz1 rfl .i64 .i64 N rfl rfl (by rw [hz2]; omega) (by omega) ?_))
      | fail)
    have HBU := hid (buW_made w q N)
    generalize (w.drewN q).alloc (.cells (madeCells #[Value.int .u8 0] N) 5) = W0 at *
    have HBL := hid (fun U (hb : Below w.heap.size w U) => (show U.cell? ⟨g, 34, none⟩ = some (.slice (some ⟨a1, 0, none⟩) 2 c1) ∧ U.cell? ⟨g, 92, none⟩ = some (.slice (some ⟨a2, 0, none⟩) 2 c2) ∧ (∀ i, i < 256 → i ≠ 34 → i ≠ 92 → U.cell? ⟨g, i, none⟩ = some (.slice none 0 0)) ∧ SlA U 1 (some ⟨a1, 0, none⟩) 2 c1 (byC ⟨#[92, 34]⟩) ∧ SlA U 1 (some ⟨a2, 0, none⟩) 2 c2 (byC ⟨#[92, 92]⟩) from
      ⟨(hb.cell (p := ⟨g, 34, none⟩) (block_lt_of_cell q1)).trans q1, (hb.cell (p := ⟨g, 92, none⟩) (block_lt_of_cell q2)).trans q2, fun i h1 h2 h3 => (hb.cell (p := ⟨g, i, none⟩) (block_lt_of_cell (HO.out i h1 h2 h3))).trans (HO.out i h1 h2 h3), HY1.out.ext hb, HY2.out.ext hb⟩))
    have hsz8 : (Tryz.prog.info? 5).map (·.size) = some 1 := by kernel_rfl
    have HNE2 := hid (fun i => nEs_take_le s.data.toList i)
    have hss : s.data.toList.length = s.size := by simp
    have HSS := hid hss
    clear q1 q2 HO HY1 HY2 hss
    go_loopw [13, 14] (fun v13 v14 wr => ∃ i : Nat, v14 = .int .i64 i ∧ i ≤ s.size ∧ ∃ l k, Hid (l = escB (s.data.toList.take i) ∧ k = l.length) ∧ v13 = .int .i64 (k : Nat) ∧ Hid (BuW w wr w.heap.size N l)) (fun _ v14 _ => s.size - (intOf v14).toNat)
    case atStart => exact ⟨0, rfl, Nat.zero_le _, [], 0, hid ⟨rfl, rfl⟩, rfl, HBU⟩
    case round =>
      clear HBU
      obtain ⟨i, hv, hi, l, k, HK, hj, HB⟩ := hrel
      subst hv; subst hj
      by_cases hlt : i < s.size
      · have hlt' : (i : Int) < (s.size : Int) := by omega
        obtain ⟨x, hx⟩ : ∃ x : UInt8, s[i]'hlt = x := ⟨_, rfl⟩
        have hxl : s.data.toList[i]? = some x := by rw [← hx]; exact Lib.data_getElem? s i hlt
        have HTK := hid (show escB (s.data.toList.take (i + 1)) = l ++ (if x = 34 ∨ x = 92 then [92, x] else [x]) by rw [take_one hxl, esc_snoc, ← HK.out.1])
        have hx256 : (x.toNat : Int) < 256 := by have := UInt8.toNat_lt x; omega
        have HFT := hid (show (escB (s.data.toList.take (i + 1))).length ≤ N by
          rw [esc_len, List.length_take, ← HN.out, esc_len]
          have := HNE2.out (i + 1)
          omega)
        clear hxl
        by_cases h1 : x = 34
        · subst h1
          have hk2 : k + 2 ≤ N := by
            have h := HFT.out
            rw [HTK.out, if_pos (by simp), List.length_append, ← HK.out.2] at h
            simpa using h
          obtain ⟨e1, e2, -, s1, s2⟩ := HBL.out wr HB.out.b
          have d1 : wr.drew.cell? ⟨g, 34, none⟩ = some (.slice (some ⟨a1, 0, none⟩) 2 c1) := e1
          have hAk : sliced (some ⟨w.heap.size, 0, none⟩) k N N 1 = .slice (some ⟨w.heap.size, k, none⟩) (N - k) (N - k) := by
            unfold sliced
            rw [if_neg (by omega)]
            simp [Addr.add]
            omega
          have hcut := run_cut_f1 (P := Tryz.prog) (A := some ⟨w.heap.size, 0, none⟩) (A' := some ⟨w.heap.size, k, none⟩) (n := N) (c := N) Tryz.underlying195 (fun W => Tryz.sizeOf5 W) (p := k) (by omega) hAk
          have HSR := hid (show ∀ j v, (byC ⟨#[92, 34]⟩)[j]? = some v → wr.drew.cell? ((⟨a1, 0, none⟩ : Addr).add j) = some v from fun j v hj => by
            obtain ⟨b', o', e, hc⟩ := s1.cells j v hj
            injection e with e
            injection e with e1 e2
            subst e1; subst e2
            by_cases hj0 : j = 0
            · subst hj0; simpa [Addr.add] using hc
            · simpa [Addr.add, hj0] using hc)
          have HHP := hid (show wr.drew.heap[w.heap.size]? = some (.cells (buC N l).toArray 5 (0, 0)) from HB.out.hp)
          have HBB := hid (show Below w.heap.size w wr.drew from HB.out.b.drew)
          have HBLN := hid (show (buC N l).length = N by unfold buC; simp; have := HB.out.le; omega)
          have HSP := hid (show splice (buC N l) k (byC ⟨#[92, 34]⟩) = buC N (l ++ [92, 34]) by
            rw [HK.out.2]; exact buC_two 92 34 (by rw [← HK.out.2]; exact hk2))
          have hx34 : (34 : Int) < 256 := by decide
          have hbl : (byC ⟨#[92, 34]⟩).length = 2 := rfl
          clear s1 s2 hAk
          go_upto_region 28 with fail
          go_region_law (refine step_copy_splice rfl (.tmp 105) (.tmp 111) 195 195 rfl 5 Tryz.underlying195 hsz8 (some ⟨w.heap.size, k, none⟩) (some ⟨a1, 0, none⟩) (N - k) (N - k) 2 c1 (by simp [Act.eval]) (by simp [Act.eval]) w.heap.size k (buC N l) 5 HHP.out (byC ⟨#[92, 34]⟩) (Nat.min_eq_left (show 2 ≤ N - k by omega)).symm (fun _ => ⟨rfl, ⟨a1, 0, none⟩, rfl, HSR.out⟩) (by rw [HBLN.out]; exact hk2) (byC_one _) w.heap.size w HBB.out (Nat.le_refl _) ?_; intro w4 hg4 hb4)
          all_goals
            have HG4 := hid (show BuW w w4 w.heap.size N (l ++ [92, 34]) from ⟨by rw [← HSP.out]; exact hg4.out, by rw [List.length_append, ← HK.out.2]; exact hk2, Nat.le_refl _, hb4⟩)
            have HK4 := hid (show l ++ [92, 34] = escB (s.data.toList.take (i + 1)) ∧ k + 2 = (l ++ [92, 34]).length by
              rw [HTK.out, if_pos (by simp)]
              exact ⟨rfl, by rw [List.length_append, ← HK.out.2]; rfl⟩)
            clear hg4 hb4
            go_wp2_with fail
            go_roundw
            case rel => exact ⟨i + 1, by go_num, by omega, _, k + 2, HK4, by go_num, HG4⟩
            case measure => simp [intOf]; omega
        · by_cases h2 : x = 92
          · subst h2
            have hk2 : k + 2 ≤ N := by
              have h := HFT.out
              rw [HTK.out, if_pos (by simp), List.length_append, ← HK.out.2] at h
              simpa using h
            obtain ⟨e1, e2, -, s1, s2⟩ := HBL.out wr HB.out.b
            have d1 : wr.drew.cell? ⟨g, 92, none⟩ = some (.slice (some ⟨a2, 0, none⟩) 2 c2) := e2
            have hAk : sliced (some ⟨w.heap.size, 0, none⟩) k N N 1 = .slice (some ⟨w.heap.size, k, none⟩) (N - k) (N - k) := by
              unfold sliced
              rw [if_neg (by omega)]
              simp [Addr.add]
              omega
            have hcut := run_cut_f1 (P := Tryz.prog) (A := some ⟨w.heap.size, 0, none⟩) (A' := some ⟨w.heap.size, k, none⟩) (n := N) (c := N) Tryz.underlying195 (fun W => Tryz.sizeOf5 W) (p := k) (by omega) hAk
            have HSR := hid (show ∀ j v, (byC ⟨#[92, 92]⟩)[j]? = some v → wr.drew.cell? ((⟨a2, 0, none⟩ : Addr).add j) = some v from fun j v hj => by
              obtain ⟨b', o', e, hc⟩ := s2.cells j v hj
              injection e with e
              injection e with e1 e2
              subst e1; subst e2
              by_cases hj0 : j = 0
              · subst hj0; simpa [Addr.add] using hc
              · simpa [Addr.add, hj0] using hc)
            have HHP := hid (show wr.drew.heap[w.heap.size]? = some (.cells (buC N l).toArray 5 (0, 0)) from HB.out.hp)
            have HBB := hid (show Below w.heap.size w wr.drew from HB.out.b.drew)
            have HBLN := hid (show (buC N l).length = N by unfold buC; simp; have := HB.out.le; omega)
            have HSP := hid (show splice (buC N l) k (byC ⟨#[92, 92]⟩) = buC N (l ++ [92, 92]) by
              rw [HK.out.2]; exact buC_two 92 92 (by rw [← HK.out.2]; exact hk2))
            have hx34 : (92 : Int) < 256 := by decide
            have hbl : (byC ⟨#[92, 92]⟩).length = 2 := rfl
            clear s1 s2 hAk
            go_upto_region 28 with fail
            go_region_law (refine step_copy_splice rfl (.tmp 105) (.tmp 111) 195 195 rfl 5 Tryz.underlying195 hsz8 (some ⟨w.heap.size, k, none⟩) (some ⟨a2, 0, none⟩) (N - k) (N - k) 2 c2 (by simp [Act.eval]) (by simp [Act.eval]) w.heap.size k (buC N l) 5 HHP.out (byC ⟨#[92, 92]⟩) (Nat.min_eq_left (show 2 ≤ N - k by omega)).symm (fun _ => ⟨rfl, ⟨a2, 0, none⟩, rfl, HSR.out⟩) (by rw [HBLN.out]; exact hk2) (byC_one _) w.heap.size w HBB.out (Nat.le_refl _) ?_; intro w4 hg4 hb4)
            all_goals
              have HG4 := hid (show BuW w w4 w.heap.size N (l ++ [92, 92]) from ⟨by rw [← HSP.out]; exact hg4.out, by rw [List.length_append, ← HK.out.2]; exact hk2, Nat.le_refl _, hb4⟩)
              have HK4 := hid (show l ++ [92, 92] = escB (s.data.toList.take (i + 1)) ∧ k + 2 = (l ++ [92, 92]).length by
                rw [HTK.out, if_pos (by simp)]
                exact ⟨rfl, by rw [List.length_append, ← HK.out.2]; rfl⟩)
              clear hg4 hb4
              go_wp2_with fail
              go_roundw
              case rel => exact ⟨i + 1, by go_num, by omega, _, k + 2, HK4, by go_num, HG4⟩
              case measure => simp [intOf]; omega
          · have hk1 : k + 1 ≤ N := by
              have h := HFT.out
              rw [HTK.out, if_neg (fun h => h.elim h1 h2), List.length_append, ← HK.out.2] at h
              simpa using h
            have d1 := (HBL.out wr HB.out.b).2.2.1 x.toNat (UInt8.toNat_lt x) (fun e => h1 (UInt8.toNat_inj.1 e)) (fun e => h2 (UInt8.toNat_inj.1 e))
            have hc := HB.out.cell (by rw [← HK.out.2]; omega)
            rw [← HK.out.2] at hc
            have hz := frozen_of_row wr w.heap.size k _ _ HB.out.hp
            have HG4 := hid (show BuW w (wr.setCell ⟨w.heap.size, k, none⟩ (.int .u8 x.toNat)) w.heap.size N (l ++ [x]) by
              have := HB.out.put x (by rw [← HK.out.2]; omega)
              rwa [← HK.out.2] at this)
            have HK4 := hid (show l ++ [x] = escB (s.data.toList.take (i + 1)) ∧ k + 1 = (l ++ [x]).length by
              rw [HTK.out, if_neg (fun h => h.elim h1 h2)]
              exact ⟨rfl, by rw [List.length_append, ← HK.out.2]; rfl⟩)
            have hkN : (k : Int) < (N : Int) := by omega
            clear h1 h2
            go_wp2_with fail
            go_roundw
            case rel => exact ⟨i + 1, by go_num, by omega, _, k + 1, HK4, by go_num, HG4⟩
            case measure => simp [intOf]; omega
      · obtain rfl : i = s.size := by omega
        have hlt' : ¬ (s.size : Int) < (s.size : Int) := by omega
        have hl : l = escB s.data.toList := by
          have h := HK.out.1
          rwa [List.take_of_length_le (by simp)] at h
        have hconv := run_str_sl (P := Tryz.prog) (w := wr) 195 9 5 Tryz.underlying195 Tryz.underlying5 Tryz.underlying9 _ N N _ (HB.out.done (by rw [hl]; exact HN.out) (by unfold maxLen; omega))
        have HSB := hid (show strOfNums (l.map fun b : UInt8 => (b.toNat : Int)) = ⟨(escB s.data.toList).toArray⟩ by
          apply str_ext
          rw [str_back, hl])
        have HBE := hid HB.out.b
        clear hl
        generalize strOfNums (l.map fun b : UInt8 => (b.toNat : Int)) = RS at *
        go_wp2_with fail
        go_ret
        exact ⟨by show Ending.returned (.string RS) = _; rw [HSB.out], HBE.out⟩
end Go.Proofs.YtekfjcaihocmmaaGreatDoor
namespace Go.Proofs.YtekfjcaihocmmaaGreatDoor
open Go.RowKit Go.KK Go.Shelf Go.Maps

set_option maxHeartbeats 4000000 in
set_option maxRecDepth 100000 in
theorem replace_any (base b : Nat) (v : Value) (s : ByteArray) (w : World) (h : RpN base w b v) (hbase : base ≤ w.heap.size) (hs : s.size ≤ 100000) :
    Calls Tryz.prog 214 #[.pointer (some ⟨b, 0, none⟩), .string s] w fun e w' => e = .returned (.string ⟨(escB s.data.toList).toArray⟩) ∧ Below base w w' := by
  have HD := hid (do_first base b v w h.o h.s h.d hbase)
  have hm : ∀ (n g : Nat) (w : World), (method (n + 1) 310 (.pointer (some ⟨g, 0, none⟩)) "Replace").run Tryz.prog w = .ok (343, .pointer (some ⟨g, 0, none⟩)) w := fun _ _ _ => by kernel_rfl
  clear h
  go_enter Tryz.func214, Tryz.ntmps214
  go_wp2_with (first
    | (go_at_call 265; refine HD.out.mono ?_; rintro e w2 ⟨rfl, g, h2, hb2, bl2⟩; have B2 := hid bl2; have HLE := hid (Nat.le_trans hbase bl2.size); have c3 := own_at h2 (j := 3) rfl; have HR := hid (bsrep_any _ g s w2 hb2 hs); clear h2 hb2 bl2)
    | (go_at_call 343; refine HR.out.mono ?_; rintro e w3 ⟨rfl, b3⟩; have B3 := hid (B2.out.trans (b3.mono HLE.out)); clear b3))
  go_ret
  exact ⟨rfl, B3.out⟩
end Go.Proofs.YtekfjcaihocmmaaGreatDoor

/- term: a writer writes any term, texts too; Show. term: Show of any term. -/
namespace Go.Proofs.YtekfjcaihocmmaaGreatDoor
open Go.RowKit Go.KK Go.Shelf Go.Maps
set_option linter.unusedVariables false
set_option linter.unusedSimpArgs false

theorem esc_le (l : List UInt8) : (escB l).length ≤ 2 * l.length := by
  refine snoc_ind (P := fun l => (escB l).length ≤ 2 * l.length) (Nat.le_refl _) (fun l b ih => ?_) l
  rw [esc_snoc, List.length_append, List.length_append]
  have : (if b = 34 ∨ b = 92 then [92, b] else [b]).length ≤ 2 := by split <;> simp
  simp only [List.length_cons, List.length_nil] at *
  omega
section
variable (W0 : World) (sa b : Nat) (xs : List ND)
set_option maxHeartbeats 4000000 in
set_option maxRecDepth 100000 in
/-- A text. -/
theorem wt_text (t : Nat) (bs : List UInt8) (w : World) (hA : ArV W0 169 sa xs) (hb : Below W0.heap.size W0 w) (h : Wr W0.heap.size b (.pointer (some ⟨sa, 0, none⟩)) (Lib.byteCells bs) w) (hl : bs.length ≤ 4000) (x : ND) (hx : xs[t]? = some x) (ho : x.o = 2) (hss : x.s.size ≤ 200) :
    Calls Tryz.prog 141 #[.pointer (some ⟨b, 0, none⟩), .int .i64 t] w (WtS W0 w sa b bs (showL xs t) (4500 + 80 * t)) := by
  have hsh : showL xs t = 34 :: (escB x.s.data.toList ++ [34]) := by rw [show_at hx]; unfold textOf; rw [if_neg (by omega), if_pos ho]
  obtain ⟨E, hE⟩ : ∃ E : ByteArray, E = ⟨(escB x.s.data.toList).toArray⟩ := ⟨_, rfl⟩
  have hES : E.size ≤ 400 := by
    rw [hE, bsz]
    have h1 := esc_le x.s.data.toList
    have h2 : x.s.data.toList.length = x.s.size := by simp
    omega
  have HRP := hid (fun (base rb : Nat) (v : Value) (U : World) (h : RpN base U rb v) (hb : base ≤ U.heap.size) => replace_any base rb v x.s U h hb (by omega))
  rw [← hE] at HRP
  have HE := hid hE; have HSH := hid hsh; have HES := hid hES
  have hcat : ¬ 9223372036854775807 < 1 + E.size := by omega
  have hcat2 : ¬ 9223372036854775807 < ((⟨#[34]⟩ : ByteArray) ++ E).size + 1 := by rw [ByteArray.size_append]; have : (⟨#[34]⟩ : ByteArray).size = 1 := rfl; omega
  have hcat3 : ¬ 9223372036854775807 < 1 + E.size + 1 := by omega
  have HW := hid h; have HB := hid hb
  have htl := (List.getElem?_eq_some_iff.1 hx).1
  obtain ⟨c, bn, on, A', c', HC⟩ := node_cells W0 sa xs hA hx
  obtain ⟨h0, y0, y1, y2, y3, -⟩ := HC w hb
  rw [ho] at y0
  have htl' : (t : Int) < (xs.length : Int) := by omega
  have c2 := HW.out.cell2
  have hl' : ¬ (4000 : Int) < (bs.length : Int) := by omega
  have HL4 := hid hl
  clear h hb hx hsh hES hE hA HC hss ho hl
  generalize x.s = ss at *
  go_enter Tryz.func141, Tryz.ntmps141
  go_wp2_with fail
  refine (wlen_any _ b _ _ _ HW.out).mono ?_
  rintro e w' ⟨rfl, hw⟩
  rw [hw]
  clear hw w'
  rw [Lib.byteCells_length]
  go_upto_region 6 with fail
  have hba := HB.out.alloc HB.out.size (.cells #[.int .i64 2, .int .i64 x.n, .string ss, .slice A' x.l.length c'] 92)
  have hwa := HW.out.ext ((Below.refl _ _).alloc (Nat.le_refl _) (.cells #[.int .i64 2, .int .i64 x.n, .string ss, .slice A' x.l.length c'] 92))
  refine forget (R := fun V => (∃ C z, V.heap[w.heap.size]? = some (.cells C 92 z)) ∧ V.cell? ⟨w.heap.size, 2, none⟩ = some (.string ss) ∧ Wr W0.heap.size b (.pointer (some ⟨sa, 0, none⟩)) (Lib.byteCells bs) V ∧ Below W0.heap.size W0 V ∧ Oth b w V) ?_ ⟨⟨_, (0, 0), heap_alloc_new w _⟩, by rw [World.cell?_alloc_at _ _ _ _ rfl]; rfl, hwa, hba, Oth.below ((Below.refl _ _).alloc (Nat.le_refl _) _)⟩
  clear hba hwa h0 y0 y1 y2 y3 c2
  rintro V ⟨⟨C1, z1, hn1⟩, q1, hv, hbv, hov⟩
  have HV := hid hv; have HBV := hid hbv; have HOV := hid hov; have HN1 := hid hn1; have Q1 := hid q1
  have hne : w.heap.size ≠ b := by have := HW.out.lt; omega
  have HLT := hid (block_lt_of_cell q1)
  clear hov hn1
  have hs0 : W0.heap.size ≤ V.heap.size := hbv.size
  clear hv hbv HW HB
  have D0 := hid (show Below V.heap.size V (V.alloc (.cells #[.string ⟨#[34]⟩, .string ⟨#[92, 34]⟩, .string ⟨#[92]⟩, .string ⟨#[92, 92]⟩] 9)).drew from ((Below.refl _ _).alloc (Nat.le_refl _) _).drew)
  have S0 := hid (show SlA (V.alloc (.cells #[.string ⟨#[34]⟩, .string ⟨#[92, 34]⟩, .string ⟨#[92]⟩, .string ⟨#[92, 92]⟩] 9)).drew 1 (some ⟨V.heap.size, 0, none⟩) 4 4 rs4 from (sla_row #[.string ⟨#[34]⟩, .string ⟨#[92, 34]⟩, .string ⟨#[92]⟩, .string ⟨#[92, 92]⟩] (by unfold maxLen; simp)).ext (below_drew (Below.refl _ _)))
  go_region_held3 (fun U => U.cell? ⟨w.heap.size, 2, none⟩ = some (.string ss)) (first | exact q9 | exact q5 | exact q4 | exact q1 | go_keep) (first
    | (go_at_call 213; refine (newrep_any _ _ _ S0.out).mono ?_; rintro e4 w4 ⟨rb, rv, rfl, h4, b4⟩; have S4 := hid b4.size; have D4 := hid (D0.out.trans (b4.mono D0.out.size)); have q4 := (D4.out.cell (p := ⟨w.heap.size, 2, none⟩) HLT.out).trans Q1.out; have H4 := hid h4; clear h4 b4)
    | (go_at_call 214; refine (HRP.out _ _ _ _ H4.out S4.out).mono ?_; rintro e5 w5 ⟨rfl, b5⟩; have D5 := hid (D4.out.trans (b5.mono D0.out.size)); have q5 := (D5.out.cell (p := ⟨w.heap.size, 2, none⟩) HLT.out).trans Q1.out; clear b5)
    | (go_at_call 212; refine (wstr_any _ b _ _ _ _ (HV.out.ext D5.out) (by rw [Lib.byteCells_length, ByteArray.size_append, ByteArray.size_append]; have := HES.out; have := HL4.out; have : (⟨#[34]⟩ : ByteArray).size = 1 := rfl; omega) (Nat.le_trans hs0 D5.out.size)).mono ?_; rintro e9 w9 ⟨rfl, h9, b9, o9⟩; have H9 := hid h9; have B9 := hid (HBV.out.trans ((D5.out.mono hs0).trans b9)); have O9 := hid (HOV.out.trans ((Oth.below D5.out).trans o9)); have q9 := ((Oth.below D5.out).trans o9).cell HN1.out (by decide) hne Q1.out; clear h9 b9 o9))
  all_goals
    go_wp2_with fail
    go_end0
    refine ⟨rfl, 34 :: (escB ss.data.toList ++ [34]), HSH.out ▸ cut_all _ _, ?_, ?_, B9.out, O9.out⟩
    · have := HES.out
      rw [HE.out, bsz] at this
      have := HL4.out
      simp; omega
    · have h9 := H9.out
      rw [HE.out] at h9
      rwa [show (⟨#[34]⟩ : ByteArray) = ⟨[34].toArray⟩ from rfl, str_app, str_app, str_cells, bytes_app] at h9
/-- A writer writes any term of an arena. -/
theorem wt_full (hA : ArV W0 169 sa xs) (hT : Tb W0.heap.size W0) : ∀ (N t : Nat), t < N → t < xs.length → WtC W0 sa b xs t := by
  intro N
  induction N with
  | zero => intro t h; omega
  | succ N ih =>
    intro t hN ht bs w hb h
    by_cases hl : 4000 < bs.length
    · exact wt_over W0 sa b t bs w _ _ hb h hl
    have hl' : bs.length ≤ 4000 := by omega
    have hx : xs[t]? = some xs[t] := List.getElem?_eq_getElem ht
    generalize xs[t] = x at hx
    have hm := hA.ok.may t x hx
    have hw := hA.ok.w64 t x hx
    unfold mayB shB at hm
    simp only [Bool.and_eq_true, decide_eq_true_eq, List.all_eq_true] at hm
    by_cases h1 : x.o = 1
    · exact wt_atom W0 sa b xs t bs w hA hT hb h hl' x hx h1 ⟨by have := hm.1.1.1.1.1.2; omega, by omega⟩
    · by_cases h2 : x.o = 2
      · exact wt_text W0 sa b xs t bs w hA hb h hl' x hx h2 hm.1.1.1.1.2
      · have ho : 3 ≤ x.o ∧ x.o ≤ 12 := by
          have := hm.1.1.1.1.1.1.1
          exact ⟨by have := op_range this; omega, (op_range this).2⟩
        refine wt_node W0 sa b xs t bs w hA hb h hl' x hx x.o.toNat (by omega) (by omega) (by omega) fun y hy => ?_
        have h3 := has_iff.1 (hm.1.2 y hy)
        rw [List.length_take] at h3
        exact ⟨y.toNat, by omega, by omega, ih y.toNat (by omega) (by omega)⟩
end
end Go.Proofs.YtekfjcaihocmmaaGreatDoor
namespace Go.Proofs.YtekfjcaihocmmaaGreatDoor
open Go.RowKit Go.KK Go.Shelf Go.Maps

set_option maxHeartbeats 2000000 in
set_option maxRecDepth 100000 in
theorem show_full (sa : Nat) (xs : List ND) (w : World) (hA : ArV w 169 sa xs) (hT : Tb w.heap.size w) (t : Int) :
    Calls Tryz.prog 75 #[.pointer (some ⟨sa, 0, none⟩), .int .i64 t] w fun e w' => e = .returned (.tuple #[.string ⟨(showF xs t).1.toArray⟩, .int .i64 (showF xs t).2]) ∧ Below w.heap.size w w' := by
  have H := hid hA
  rcases hh : hasB xs t with _ | _
  · have HF := hid (show showF xs t = ([], 4) by unfold showF; rw [hh]; rfl)
    clear hA hT
    go_enter Tryz.func75, Tryz.ntmps75
    go_wp2_with fail
    refine (has_any sa xs t _ H.out).mono ?_
    rintro e w' ⟨rfl, hw⟩
    subst hw
    rw [hh]
    go_wp2_with fail
    go_ret2
    exact ⟨by first | (rw [HF.out]; rfl) | rfl, Below.refl _ _⟩
  · have h2 := has_iff.1 hh
    obtain ⟨j, rfl⟩ := Int.eq_ofNat_of_zero_le h2.1
    have hj : j < xs.length := by omega
    have HF := hid (show showF xs (j : Int) = if (showL xs j).length ≤ 4000 then (showL xs j, 0) else ([], 2) by unfold showF; rw [hh]; rfl)
    have HWT := hid (wt_full w sa w.heap.size xs hA hT (j + 1) j (by omega) hj)
    have HNE := hid (show_ne hA.ok hj)
    have HWN := hid (wr_new w (.pointer (some ⟨sa, 0, none⟩)))
    have HB1 := hid (show Below w.heap.size w (w.alloc (.cells #[.pointer none, .slice none 0 0, .pointer (some ⟨sa, 0, none⟩)] 199)) from (Below.refl _ _).alloc (Nat.le_refl _) _)
    clear hA hT h2
    go_enter Tryz.func75, Tryz.ntmps75
    go_wp2_with fail
    refine (has_any sa xs _ _ H.out).mono ?_
    rintro e w' ⟨rfl, hw⟩
    subst hw
    rw [hh]
    go_wp2_with fail
    refine (HWT.out [] _ HB1.out HWN.out).mono ?_
    rintro e w2 ⟨rfl, out, hcut, hlen, hwr, hb2, -⟩
    rw [List.nil_append] at hwr
    have HW2 := hid hwr; have HB2 := hid hb2; have HCUT := hid hcut
    clear hwr hb2 hcut hlen HWN HB1
    go_wp2_with fail
    refine (wlen_any _ _ _ _ _ HW2.out).mono ?_
    rintro e w' ⟨rfl, hw⟩
    subst hw
    rw [Lib.byteCells_length]
    by_cases hle : (showL xs j).length ≤ 4000
    · have ho := HCUT.out.1 (by simpa using hle)
      subst ho
      have hle' : ¬ (4000 : Int) < ((showL xs j).length : Int) := by omega
      have HF2 := hid (show showF xs (j : Int) = (showL xs j, 0) by rw [HF.out, if_pos hle])
      clear hle
      go_wp2_with fail
      refine (wout_any _ _ _ _ _ HW2.out HNE.out).mono ?_
      rintro e w3 ⟨rfl, b3⟩
      have B3 := hid (HB2.out.trans b3)
      clear b3
      go_wp2_with fail
      go_ret2
      exact ⟨by first | (rw [HF2.out]; rfl) | rfl, B3.out⟩
    · have ho := HCUT.out.2 (by simp; omega)
      have hle' : (4000 : Int) < (out.length : Int) := by simp at ho; omega
      have HF2 := hid (show showF xs (j : Int) = ([], 2) by rw [HF.out, if_neg hle])
      clear hle ho
      go_wp2_with fail
      go_ret2
      exact ⟨by first | (rw [HF2.out]; rfl) | rfl, HB2.out⟩
section
variable {w0 W : World} {Z : Nat → Prop} {sa : Nat} {xs : List ND}
theorem l_showF (h : LA w0 W Z sa xs) (hT : Tb w0.heap.size w0) {t er : Int} {S : ByteArray} (hr : (⟨(showF xs t).1.toArray⟩ : ByteArray) = S) (he : (showF xs t).2 = er) :
    Calls Tryz.prog 75 #[.pointer (some ⟨sa, 0, none⟩), .int .i64 t] W fun e w' => e = .returned (.tuple #[.string S, .int .i64 er]) ∧ LA w0 w' Z sa xs ∧ Below W.heap.size W w' := by
  refine (show_full sa xs W h.ar.vw (Tb.up (hT.on h.bl) h.sz) t).mono ?_
  rintro e w' ⟨rfl, hb⟩
  rw [hr, he]
  exact ⟨rfl, h.ext hb, hb⟩
end
end Go.Proofs.YtekfjcaihocmmaaGreatDoor

/- hashes: a node's hash (treehash.Hash); law 09's live. -/
namespace Go.Proofs.YtekfjcaihocmmaaGreatDoor
open Go.RowKit Go.KK Go.Shelf Go.Maps
set_option linter.unusedVariables false
set_option linter.unusedSimpArgs false

/-- A node's hash, the tree's terms being terms. -/
def hshF (X : List ND) (xs : List TN) (x : Nat) : Rs := ((thF xs [] (lvl (x : Int)) ⟨X, 0⟩ x).1.x, if (thF xs [] (lvl (x : Int)) ⟨X, 0⟩ x).1.e = 0 then (thF xs [] (lvl (x : Int)) ⟨X, 0⟩ x).2 else 0, (thF xs [] (lvl (x : Int)) ⟨X, 0⟩ x).1.e)
section
variable {w0 W : World} {Z : Nat → Prop} {sa bk : Nat} {X : List ND}
set_option maxHeartbeats 4000000 in
set_option maxRecDepth 100000 in
theorem l_hash (h : LA w0 W Z sa X) (hT : Tb w0.heap.size w0) (hTab : ∀ U, Below w0.heap.size w0 U → Tab U) {A : Option Addr} {n c : Nat} {xs : List TN} {qs : List Value} (hf : Fx W Z (TrP A n c xs qs)) (hn : n ≤ 511) (hw : ∀ y ∈ xs, TnI y) (hu : ∀ y ∈ xs, y.u.length ≤ 1000) (ht : trmB X xs = true) (x : Nat) (hx : x < n) :
    Calls Tryz.prog 74 #[.pointer (some ⟨sa, 0, none⟩), .slice A n c, .int .i64 x, .slice none 0 0] W (LrS w0 W Z sa (hshF X xs x)) := by
  have hln := hf.here.tr.len
  have HTM := hid (thterms_any h.ar.vw (fun U hU => hTab U (h.bl.trans (hU.mono h.bl.size))) hf.here.tr (by omega) (show Shorts xs from fun j q hq => by have := hu q (List.mem_of_getElem? hq); omega))
  rw [ht] at HTM
  have hxx : x + 2 ^ lvl (x : Int) ≤ n := by have := chk_in (trm_chk ht) (x := x) (by omega); omega
  have HF := hid (hf.mono (Q := NdP A n c xs qs none 0 0 []) fun V hV => ⟨hV, SlA.nil _ _⟩)
  have HVO := hid (fun (V : World) (bk : Nat) (h : MK w0 V Z sa bk ⟨X, 0⟩) (hf : Fx V (Zk Z bk) (NdP A n c xs qs none 0 0 [])) => m_node hT hTab (wo := []) hn (by decide) hw hu (lvl (x : Int)) ⟨X, 0⟩ x V Z h hf rfl hxx)
  obtain ⟨v, hv⟩ : ∃ v, v = thF xs [] (lvl (x : Int)) ⟨X, 0⟩ x := ⟨_, rfl⟩
  have HE := hid (show hshF X xs x = (v.1.x, if v.1.e = 0 then v.2 else 0, v.1.e) from by rw [hv]; rfl)
  rw [← hv] at HVO
  have H := hid h
  have hxi : (x : Int) < (n : Int) := by omega
  clear h hT hTab hf hw hu ht hxx hv hln
  go_enter Tryz.func74, Tryz.ntmps74
  go_wp2_with fail
  refine HTM.out.mono ?_
  rintro e w2 ⟨rfl, b1⟩
  have B2 := hid b1
  clear b1 HTM
  have BA := hid (B2.out.alloc B2.out.size (.cells #[.pointer (some ⟨sa, 0, none⟩), .int .i64 0] 137))
  have HMK := hid (show MK w0 (w2.alloc (.cells #[.pointer (some ⟨sa, 0, none⟩), .int .i64 0] 137)) Z sa w2.heap.size ⟨X, 0⟩ from
    ⟨H.out.ext BA.out, heap_alloc_new w2 _, fun hz => by have := H.out.ar.zlt _ hz; have := B2.out.size; omega, Nat.le_trans H.out.bl.size B2.out.size⟩)
  have HFK := hid (show Fx (w2.alloc (.cells #[.pointer (some ⟨sa, 0, none⟩), .int .i64 0] 137)) (Zk Z w2.heap.size) (NdP A n c xs qs none 0 0 []) from by
    obtain ⟨R0, q1, q2⟩ := HF.out
    refine ⟨R0, fun b hb => ⟨fun h => h.elim (q1 b hb).1 fun e => by have := (q1 b hb).2; have := B2.out.size; omega, Nat.lt_of_lt_of_le (q1 b hb).2 BA.out.size⟩, fun V' hv => q2 V' fun b hb => (hv b hb).trans (BA.out.block b (q1 b hb).2)⟩)
  have HV := hid (HVO.out _ _ HMK.out HFK.out)
  go_wp2_with fail
  refine HV.out.mono ?_
  rintro e w4 ⟨Z4, rfl, l4, m4⟩
  have L4 := hid l4
  have MV := hid (((Mv.below (Z := Zk Z w2.heap.size) BA.out).trans m4).unz B2.out.size)
  have T4 := hid (m_told l4 v.2)
  clear l4 m4 HV HVO
  obtain ⟨hh, hhh⟩ : ∃ hh, hh = if v.1.e = 0 then v.2 else 0 := ⟨_, rfl⟩
  rw [← hhh] at HE T4
  clear hhh
  go_wp2_with fail
  refine T4.out.mono ?_
  rintro e w5 ⟨rfl, b5⟩
  have B5 := hid b5
  clear b5 T4
  go_wp2_with fail
  go_ret2
  rw [HE.out]
  exact ⟨Z4, rfl, L4.out.la.ext B5.out, MV.out.trans (Mv.below B5.out)⟩
end
/-- The chapter's example. -/
def lvT : List TN := [⟨1, 1, 2, 3, 4, []⟩]
theorem fx9_has {W : World} {Z : Nat → Prop} {o : Obj} {b : Nat} (h : HasO o b W) (hn : ¬ Z b) : Fx W Z (HasO o b) :=
  ⟨fun k => k = b, fun k e => e ▸ ⟨hn, h.lt⟩, fun V' hv => (hv b rfl).trans h⟩
theorem lvT_i : ∀ y ∈ lvT, TnI y := fun y hy => by
  rw [List.mem_singleton.1 hy]
  exact ⟨i64_lit (by decide) (by decide), i64_lit (by decide) (by decide), i64_lit (by decide) (by decide), i64_lit (by decide) (by decide), i64_lit (by decide) (by decide), fun i hi => by cases hi⟩
theorem lit_trp {V : World} {b : Nat} (h : HasO (.cells #[.int .i64 1, .int .i64 1, .int .i64 2, .int .i64 3, .int .i64 4, .slice none 0 0] 37 (0, 0)) b V) : TrP (some ⟨b, 0, none⟩) 1 1 lvT [.slice none 0 0] V := by
  refine ⟨rfl, ⟨Nat.le_refl _, by unfold maxLen; omega, rfl, fun j u hj => ⟨b, 0, rfl, ?_⟩⟩, fun j x q hx hq => ?_⟩
  · rw [Nat.zero_add, cell_of_row _ b _ _ _ (0, 0) h]
    rw [← hj]; simp [ncs, lvT, TN.cells]
  · match j, hx, hq with
    | 0, hx, hq =>
      injection hx with hx; injection hq with hq
      subst hx; subst hq
      exact ⟨none, 0, rfl, SlA.nil _ _⟩
    | j + 1, hx, _ => cases hx
theorem lh_t : trmB (atoms 10) lvT = true := by decide +kernel
theorem lh_c : (hshF (atoms 10) lvT 0).2 = (14, 0) := by decide +kernel
theorem lh_s : (⟨(showF (hshF (atoms 10) lvT 0).1 14).1.toArray⟩ : ByteArray) = ⟨#[104, 97, 115, 104, 40, 108, 105, 115, 116, 40, 34, 108, 101, 97, 102, 34, 44, 34, 48, 34, 44, 108, 105, 115, 116, 40, 35, 49, 44, 35, 50, 44, 35, 51, 44, 35, 52, 41, 41, 41]⟩ := by decide +kernel
theorem lh_e : (showF (hshF (atoms 10) lvT 0).1 14).2 = 0 := by decide +kernel
set_option maxHeartbeats 2000000 in
set_option maxRecDepth 100000 in
theorem live9_any (w : World) (hT : Tb w.heap.size w) (hTab : ∀ U, Below w.heap.size w U → Tab U) : Calls Tryz.prog 22 #[] w fun e w' => e = .returned (.bool true) ∧ Below w.heap.size w w' := by
  have HT := hid hT; have HTB := hid hTab
  have HW := hid (two9_any w hT)
  clear hT hTab
  go_enter Tryz.func22, Tryz.ntmps22
  go_wp2_with fail
  refine HW.out.mono ?_
  rintro e w1 ⟨sa, sb, Z, Z', rfl, htw⟩
  have L1 := hid (htw.la.ext ((Below.refl w1.heap.size w1).alloc (Nat.le_refl _) (.cells #[.int .i64 1, .int .i64 1, .int .i64 2, .int .i64 3, .int .i64 4, .slice none 0 0] 37)))
  have HF := hid (show Fx (w1.alloc (.cells #[.int .i64 1, .int .i64 1, .int .i64 2, .int .i64 3, .int .i64 4, .slice none 0 0] 37)) Z (TrP (some ⟨w1.heap.size, 0, none⟩) 1 1 lvT [.slice none 0 0]) from
    (fx9_has (HasO.new _ w1) fun hz => by have := htw.la.ar.zlt _ hz; omega).mono fun V hv => lit_trp hv)
  have HH := hid (l_hash L1.out HT.out HTB.out HF.out (by decide) lvT_i (by decide) lh_t 0 (by decide))
  unfold LrS at HH
  rw [lh_c] at HH
  clear htw HW HF
  go_wp2_with fail
  refine HH.out.mono ?_
  rintro e w2 ⟨Z2, rfl, l2, -⟩
  have L2 := hid l2
  clear l2 HH
  go_wp2_with fail
  refine (l_showF L2.out HT.out lh_s lh_e).mono ?_
  rintro e w3 ⟨rfl, l3, -⟩
  have HB := hid l3.bl
  clear l3 L2
  go_wp2_with fail
  go_ret
  exact ⟨rfl, HB.out⟩
end Go.Proofs.YtekfjcaihocmmaaGreatDoor

/- hashes: HashVouches in plain words. -/
namespace Go.Proofs.YtekfjcaihocmmaaGreatDoor
open Go.RowKit Go.KK Go.Shelf Go.Maps
set_option linter.unusedVariables false
set_option linter.unusedSimpArgs false

theorem ok_at {xs : List TN} (hc : chkB xs = true) {j : Nat} {n : TN} (hn : xs[j]? = some n) : okB xs j n = true := by
  obtain ⟨-, -, -, h⟩ := chk_full hc
  have h1 := h j (by rcases Nat.lt_or_ge j xs.length with h | h; exact h; rw [List.getElem?_eq_none h] at hn; cases hn)
  unfold okAt at h1
  rw [hn] at h1
  exact h1
theorem few_u {xs : List TN} (hf : few9 xs = true) {j : Nat} {n : TN} (hn : xs[j]? = some n) : n.u.length ≤ 40 := by
  unfold few9 at hf
  rw [Bool.and_eq_true] at hf
  exact of_decide_eq_true (List.all_eq_true.1 hf.2 n (List.mem_of_getElem? hn))
theorem few_n {xs : List TN} (hf : few9 xs = true) : xs.length ≤ 70 := by
  unfold few9 at hf
  rw [Bool.and_eq_true] at hf
  exact of_decide_eq_true hf.1
theorem trm_at {X : List ND} {xs : List TN} (ht : trmB X xs = true) {j : Nat} {n : TN} (hn : xs[j]? = some n) (hk : n.k ≠ 0) : hasB X n.e = true ∧ hasB X n.h = true ∧ (n.k = 1 → hasB X n.i = true ∧ hasB X n.s = true) := by
  unfold trmB at ht
  rw [Bool.and_eq_true, Bool.not_eq_true'] at ht
  have h1 : thnB X n = false := by
    rcases hh : thnB X n with _ | _
    · rfl
    · have := List.any_eq_true.2 ⟨n, List.mem_of_getElem? hn, hh⟩
      rw [ht.2] at this; cases this
  unfold thnB at h1
  rw [bne_iff_ne.2 hk, Bool.true_and, Bool.or_eq_false_iff] at h1
  obtain ⟨h1, h2⟩ := h1
  refine ⟨by simpa using (by simpa using h1 : _ ∧ _).1, by simpa using (by simpa using h1 : _ ∧ _).2, fun hk1 => ?_⟩
  rw [hk1] at h2
  have h3 : hasB X n.i = true ∧ hasB X n.s = true := by simpa using h2
  exact h3
theorem tro_of {X : List ND} {xs : List TN} (hf : few9 xs = true) (ht : trmB X xs = true) : TrO X xs := by
  have hc := trm_chk ht
  refine ⟨fun j n hn hk => ?_, fun j n hn => ⟨few_u hf hn, fun i hi => ?_⟩⟩
  · obtain ⟨h1, h2, h3⟩ := trm_at ht hn hk
    refine ⟨h1, h2, fun he => h3 ?_⟩
    have ho := ok_at hc hn
    unfold okB at ho
    rw [if_neg hk, if_pos (by omega), Bool.and_eq_true] at ho
    simpa using ho.1
  · have ho := ok_at hc hn
    have hne : ((n.u.length : Nat) : Int) ≠ 0 := by
      have := List.length_pos_of_mem hi
      omega
    unfold okB at ho
    rw [beq_eq_false_iff_ne.2 hne, Bool.and_false, Bool.and_false] at ho
    split at ho
    · cases ho
    · split at ho
      · cases ho
      · unfold parB at ho
        simp only [Bool.and_eq_true] at ho
        have h1 := List.all_eq_true.1 ho.2 i hi
        unfold oneB pres at h1
        simp only [Bool.and_eq_true, decide_eq_true_eq] at h1
        have h2 := h1.1.2.1
        have := few_n hf
        unfold lvN at h2
        omega
theorem trm_ext {X : List ND} {xs : List TN} (ht : trmB X xs = true) (m : List ND) : trmB (X ++ m) xs = true := by
  have hc := trm_chk ht
  unfold trmB
  rw [hc, Bool.true_and, Bool.not_eq_true']
  rcases hh : xs.any (thnB (X ++ m)) with _ | _
  · rfl
  · obtain ⟨n, hn, h⟩ := List.any_eq_true.1 hh
    obtain ⟨j, hj, e⟩ := List.getElem_of_mem hn
    have hg : xs[j]? = some n := by rw [← e]; exact List.getElem?_eq_getElem hj
    unfold thnB at h
    by_cases hk : n.k = 0
    · rw [hk] at h; simp at h
    · obtain ⟨h1, h2, h3⟩ := trm_at ht hg hk
      have g1 := has_ext h1 m
      have g2 := has_ext h2 m
      by_cases hk1 : n.k = 1
      · obtain ⟨h4, h5⟩ := h3 hk1
        simp [g1, g2, has_ext h4 m, has_ext h5 m] at h
      · simp [g1, g2, hk1] at h
theorem lvl_form : ∀ y : Nat, y < 511 → y + 1 = (2 * ((y + 1) / 2 ^ (lvl (y : Int) + 1)) + 1) * 2 ^ lvl (y : Int) := by decide +kernel
theorem lvl_70 : ∀ y : Nat, y < 70 → lvl (y : Int) ≤ 6 := by decide +kernel
/-- What the child ch says of the parent x is told without an error, and tells the node's own two. -/
theorem vch_fine {X : List ND} {xs : List TN} {x : Nat} {ch : Int} (hf : few9 xs = true) (ht : trmB X xs = true) (ok : Okay X) (hl : X.length ≤ 50000) (hx : x < xs.length) (hk : (tnF xs x).k = 2) (hch : (kidL x).contains ch = true) :
    (vchF X xs x ch).2.2 = 0 ∧ Okay (vchF X xs x ch).1 ∧ (vchF X xs x ch).1.length ≤ X.length + 10000 ∧ VoAt (vchF X xs x ch).1 (vchF X xs x ch).2.1 (tnF xs x).e (tnF xs x).h ∧ ∃ m, (vchF X xs x ch).1 = X ++ m := by
  have hn := few_n hf
  obtain ⟨y, y1, y2, y3, y4, y5⟩ := kid_other (trm_chk ht) hx (by omega) hch
  have hb : vchB X xs x ch = true := by
    unfold vchB
    rw [Int.toNat_natCast, ht, hk, hch, decide_eq_true (by omega : (0 : Int) ≤ (x : Int)), decide_eq_true (by omega : (x : Int) < (xs.length : Int))]; rfl
  have hr : vchR X xs x ch = voF xs (lvl (x : Int) - 1) ⟨X, 0⟩ x y := by unfold vchR; rw [y1]; rfl
  have hp : 2 ^ (lvl (x : Int) - 1 + 1) ≤ 128 := by
    have := lvl_70 x (by omega)
    calc 2 ^ (lvl (x : Int) - 1 + 1) ≤ 2 ^ 7 := Nat.pow_le_pow_right (by omega) (by omega)
      _ = 128 := rfl
  have hy : y < 511 := by omega
  have hform := lvl_form y hy
  rw [y3] at hform
  have hfn : Go.KK.Fn ⟨X, 0⟩ (40000 + 50 * (2 ^ (lvl (x : Int) - 1 + 1) - 1) + 3) := ⟨rfl, ok, by show X.length + _ ≤ _; omega⟩
  obtain ⟨f1, f2⟩ := fn_vo (S := ⟨X, 0⟩) (k := lvl (x : Int) - 1) (y := y) (r := 40000) (tro_of hf ht) hx (by rw [hk]; decide) ⟨_, hform⟩ y4 (by omega) hfn
  have hg := vo_go (xs := xs) (tro_of hf ht).un (lvl (x : Int) - 1) ⟨X, 0⟩ x y
  unfold vchF
  rw [if_pos hb, hr]
  have he := f1.e
  dsimp only
  rw [if_pos he]
  refine ⟨he, f1.ok, ?_, f2, hg.ext⟩
  have := hg.len
  have h3 : (⟨X, 0⟩ : KS).x.length = X.length := rfl
  rw [h3] at this
  omega
/-! another Enc at a parent -/
section
variable {xs : List TN} {x : Nat} {a b : TN}
theorem kd_set (ha : xs[x]? = some a) (hk : b.k = a.k) (z : Nat) : kd (xs.set x b) z = kd xs z := by
  unfold kd
  by_cases hz : x = z
  · subst hz
    have hx : x < xs.length := by rcases Nat.lt_or_ge x xs.length with h | h; exact h; rw [List.getElem?_eq_none h] at ha; cases ha
    rw [List.getElem?_set_self hx, ha]; exact hk
  · rw [List.getElem?_set_ne hz]
theorem um_set (ha : xs[x]? = some a) (hu : b.u = a.u) (z : Nat) : um (xs.set x b) z = um xs z := by
  unfold um
  by_cases hz : x = z
  · subst hz
    have hx : x < xs.length := by rcases Nat.lt_or_ge x xs.length with h | h; exact h; rw [List.getElem?_eq_none h] at ha; cases ha
    rw [List.getElem?_set_self hx, ha]; exact hu
  · rw [List.getElem?_set_ne hz]
theorem pres_set (ha : xs[x]? = some a) (hk : b.k = a.k) (i : Int) : pres (xs.set x b) i = pres xs i := by
  unfold pres; rw [kd_set ha hk, List.length_set]
theorem one_set (ha : xs[x]? = some a) (hk : b.k = a.k) (hu : b.u = a.u) (z i : Int) : oneB (xs.set x b) z i = oneB xs z i := by
  unfold oneB pthB
  simp only [pres_set ha hk, kd_set ha hk, um_set ha hu, List.length_set]
theorem par_set (ha : xs[x]? = some a) (hk : b.k = a.k) (hu : b.u = a.u) (z : Int) (p : TN) : parB (xs.set x b) z p = parB xs z p := by
  unfold parB
  rw [show oneB (xs.set x b) z = oneB xs z from funext fun i => one_set ha hk hu z i]
theorem chk_set (ha : xs[x]? = some a) (hk : b.k = a.k) (hi : b.i = a.i) (hs : b.s = a.s) (hu : b.u = a.u) (hk0 : a.k ≠ 0) : chkB (xs.set x b) = chkB xs := by
  have hx : x < xs.length := by rcases Nat.lt_or_ge x xs.length with h | h; exact h; rw [List.getElem?_eq_none h] at ha; cases ha
  have hok : okAt (xs.set x b) = okAt xs := funext fun z => by
    unfold okAt
    by_cases hz : x = z
    · subst hz
      rw [List.getElem?_set_self hx, ha]
      show okB _ _ _ = okB _ _ _
      unfold okB
      rw [if_neg (hk ▸ hk0), if_neg hk0, hk, hu, par_set ha hk hu]
      unfold parB
      rw [hk, hi, hs, hu]
    · rw [List.getElem?_set_ne hz]
      split
      · unfold okB
        rw [par_set ha hk hu]
      · rfl
  unfold chkB
  rw [hok, List.length_set]
  have hh : halfB (xs.set x b) = halfB xs := by
    unfold halfB
    simp only [pres_set ha hk, List.length_set]
  rw [hh]
end
end Go.Proofs.YtekfjcaihocmmaaGreatDoor

