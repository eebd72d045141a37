/- (*strings.byteStringReplacer).Replace: a stroke ahead of quotes and strokes. (*strings.Replacer).Replace, of a Replacer that is not built yet. -/
import Derived.Test.YtkgobglmkhkbbaaGreatDoorN3
import Derived.Test.YtkgobglmkhkbbaaGreatDoorM5
import Derived.Test.YtkgobglmkhkbbaaGreatDoorShelf
import Derived.BigQuiet
import Derived.Deep.DeepCutAuto
import Derived.Deep.RegionLaw
import Derived.Laws.CopyOwn
import Derived.Deep.OwnRows
import Derived.Test.YtkgobglmkhkbbaaGreatDoorN5
namespace Go.KK
open Go.RowKit
set_option linter.unusedVariables false
set_option linter.unusedSimpArgs false

/-- How many are to have a stroke. -/
def nEs (l : List UInt8) : Nat := l.count 92 + l.count 34
theorem esc_nil : escB [] = [] := rfl
theorem esc_snoc (l : List UInt8) (b : UInt8) : escB (l ++ [b]) = escB l ++ (if b = 34 ∨ b = 92 then [92, b] else [b]) := by
  unfold escB; rw [List.flatMap_append]; simp
theorem nEs_snoc (l : List UInt8) (b : UInt8) : nEs (l ++ [b]) = nEs l + (if b = 34 ∨ b = 92 then 1 else 0) := by
  unfold nEs
  rw [List.count_append, List.count_append, List.count_singleton, List.count_singleton]
  by_cases h1 : b = 34
  · subst h1; simp; omega
  · by_cases h2 : b = 92
    · subst h2; simp; omega
    · simp [h1, h2]
theorem esc_len : ∀ l : List UInt8, (escB l).length = l.length + nEs l := by
  intro l
  refine snoc_ind (P := fun l => (escB l).length = l.length + nEs l) rfl (fun l b ih => ?_) l
  rw [esc_snoc, nEs_snoc, List.length_append, List.length_append, ih]
  split
  · simp; omega
  · simp; omega
theorem esc_none : ∀ l : List UInt8, nEs l = 0 → escB l = l := by
  intro l
  refine snoc_ind (P := fun l => nEs l = 0 → escB l = l) (fun _ => rfl) (fun l b ih => ?_) l
  intro h
  rw [nEs_snoc] at h
  rw [esc_snoc]
  split at h
  · omega
  · rename_i hb
    rw [if_neg hb, ih (by omega)]
theorem nEs_take_le (l : List UInt8) (i : Nat) : nEs (l.take i) ≤ nEs l := by
  have h : nEs l = nEs (l.take i) + nEs (l.drop i) := by
    unfold nEs
    have h1 : ∀ x : UInt8, l.count x = (l.take i).count x + (l.drop i).count x := fun x => by rw [← List.count_append, List.take_append_drop]
    rw [h1 92, h1 34]; omega
  omega
end Go.KK
namespace Go.Proofs.YtkgobglmkhkbbaaGreatDoor
open Go.RowKit Go.KK Go.Shelf Go.Maps

theorem run_cut_f1 {P : Program} {A A' : Option Addr} {n c : Nat} {t e : TypeId} (ht : P.underlying t = some (.slice e)) (hs : ∀ W : World, (sizeOf e).run P W = .ok 1 W) {p : Nat} (hp : p ≤ n) (hA : sliced A p n c 1 = .slice A' (n - p) (c - p)) :
    ∀ W : World, (Instr.slice t (.slice A n c) (some (.int .i64 (p : Int))) none none).run P W = .ok (.slice A' (n - p) (c - p)) W := by
  intro W
  have he : P.elem t = e := by simp [Program.elem, ht]
  rw [run_slice_l W t A n c (by rw [he]; exact ht) .i64 p (by omega) (by omega), he, hs W]
  simp [Result.andThen, hA]
/-- The cells of a row of N bytes of which so many are written. -/
def buC (N : Nat) (l : List UInt8) : List Value := (l.map fun b : UInt8 => Value.int .u8 b.toNat) ++ List.replicate (N - l.length) (Value.int .u8 0)
theorem buC_get {N : Nat} {l : List UInt8} (h : l.length < N) : (buC N l)[l.length]? = some (.int .u8 0) := by
  unfold buC
  rw [List.getElem?_append_right (by simp), List.length_map, Nat.sub_self, List.getElem?_replicate, if_pos (by omega)]
theorem buC_put {N : Nat} {l : List UInt8} (b : UInt8) (h : l.length < N) : (buC N l).set l.length (.int .u8 b.toNat) = buC N (l ++ [b]) := by
  unfold buC
  have e : N - l.length = (N - (l ++ [b]).length) + 1 := by rw [List.length_append, List.length_singleton]; omega
  rw [e, List.replicate_succ, List.set_append, if_neg (by simp), List.length_map, Nat.sub_self, List.set_cons_zero, List.map_append]
  simp
theorem buC_two {N : Nat} {l : List UInt8} (x y : UInt8) (h : l.length + 2 ≤ N) : splice (buC N l) l.length (byC ⟨#[x, y]⟩) = buC N (l ++ [x, y]) := by
  unfold buC splice
  have hl : (byC ⟨#[x, y]⟩).length = 2 := rfl
  have e : N - l.length = (N - (l ++ [x, y]).length) + 1 + 1 := by rw [List.length_append, List.length_cons, List.length_singleton]; omega
  rw [hl, e, List.replicate_succ, List.replicate_succ, List.take_append_of_le_length (by simp), List.take_of_length_le (by simp), List.drop_append, List.drop_of_length_le (by simp), List.length_map, Nat.add_sub_cancel_left, List.map_append, List.append_assoc]
  rfl
theorem buC_done {N : Nat} {l : List UInt8} (h : l.length = N) : buC N l = l.map fun b : UInt8 => Value.int .u8 b.toNat := by
  unfold buC
  rw [h, Nat.sub_self]; simp
theorem buC_start (N : Nat) : (madeCells #[Value.int .u8 0] N).toList = buC N [] := by
  rw [toList_madeCells_one]; simp [buC]
/-- The bytes that are written so far, in a row of N. -/
structure BuW (w0 W : World) (h N : Nat) (l : List UInt8) : Prop where
  hp : W.heap[h]? = some (.cells (buC N l).toArray 5 (0, 0))
  le : l.length ≤ N
  h0 : w0.heap.size ≤ h
  b : Below w0.heap.size w0 W
section
variable {w0 W W' : World} {h N : Nat} {l : List UInt8}
theorem BuW.lt (k : BuW w0 W h N l) : h < W.heap.size := (Array.getElem?_eq_some_iff.1 k.hp).1
theorem BuW.cell (k : BuW w0 W h N l) (hl : l.length < N) : W.cell? ⟨h, l.length, none⟩ = some (.int .u8 0) := by
  rw [cell_of_row W h _ _ _ (0, 0) k.hp, List.getElem?_toArray, buC_get hl]
theorem BuW.put (k : BuW w0 W h N l) (b : UInt8) (hl : l.length < N) : BuW w0 (W.setCell ⟨h, l.length, none⟩ (.int .u8 b.toNat)) h N (l ++ [b]) := by
  refine ⟨?_, by rw [List.length_append]; exact hl, k.h0, k.b.grown (row := some h) ⟨rfl, rfl, rfl, by simp, fun i _ hne => Below.heap_setCell W ⟨h, _, none⟩ _ i (by rintro rfl; exact hne rfl)⟩ k.b.size (fun j hj => by injection hj with hj; subst hj; exact k.h0)⟩
  rw [heap_setCell_same W h l.length _ _ _ k.hp, ← buC_put b hl]
  simp
theorem BuW.done (k : BuW w0 W h N l) (hl : l.length = N) (hN : N ≤ maxLen) : SlA W 1 (some ⟨h, 0, none⟩) N N ((l.map fun b : UInt8 => (b.toNat : Int)).map (.int .u8)) := by
  refine ⟨Nat.le_refl _, hN, by simp [hl], fun j u hj => ⟨h, 0, rfl, ?_⟩⟩
  rw [Nat.zero_add, cell_of_row W h j _ _ (0, 0) k.hp, List.getElem?_toArray, buC_done hl]
  rwa [List.map_map] at hj
theorem buW_made (w : World) (q N : Nat) : BuW w ((w.drewN q).alloc (.cells (madeCells #[Value.int .u8 0] N) 5)) w.heap.size N [] := by
  refine ⟨?_, Nat.zero_le _, Nat.le_refl _, (below_drewN (Below.refl _ _) q).alloc (by simp) _⟩
  have h := heap_alloc_new (w.drewN q) (.cells (madeCells #[Value.int .u8 0] N) 5)
  rw [← buC_start]
  simpa using h
end
set_option maxHeartbeats 8000000 in
set_option maxRecDepth 1000000 in
theorem bsrep_any (m g : Nat) (s : ByteArray) (w : World) (h : Bsr m w g) (hs : s.size ≤ 100000) :
    Calls Tryz.prog 213 #[.pointer (some ⟨g, 0, none⟩), .string s] w fun e w' => e = .returned (.string ⟨(escB s.data.toList).toArray⟩) ∧ Below w.heap.size w w' := by
  obtain ⟨a1, c1, q1, -, y1⟩ := h.q
  obtain ⟨a2, c2, q2, -, y2⟩ := h.e
  obtain ⟨a3, c3, q3, -, y3⟩ := h.t
  have HO := hid h.o
  obtain ⟨t3, o3, e3, r0⟩ := y3.cells 0 _ rfl
  obtain ⟨t4, o4, e4, r1⟩ := y3.cells 1 _ rfl
  injection e3 with e3; injection e3 with e5 e6; subst e5; subst e6
  injection e4 with e4; injection e4 with e5 e6; subst e5; subst e6
  rw [Nat.add_zero] at r0
  rw [Nat.zero_add] at r1
  have HY1 := hid y1; have HY2 := hid y2
  clear h y1 y2 y3
  have hby : ∀ (x : UInt8) (h : 0 < (⟨#[x]⟩ : ByteArray).size), (⟨#[x]⟩ : ByteArray)[0]'h = x := fun _ _ => rfl
  have hnl := neq_nil; have hns := neq_some
  have hnot : ∀ (x : Bool) (w : World), (Op.unary .not (.bool x)).run Tryz.prog w = .ok (.bool (!x)) w := fun _ _ => rfl
  obtain ⟨n9, hn9⟩ : ∃ n, n = s.data.toList.count 92 := ⟨_, rfl⟩
  obtain ⟨n3, hn3⟩ : ∃ n, n = s.data.toList.count 34 := ⟨_, rfl⟩
  have hb9 : n9 ≤ 100000 := by
    have := List.count_le_length (a := (92 : UInt8)) (l := s.data.toList)
    have h2 : s.data.toList.length = s.size := by simp
    omega
  have hb3 : n3 ≤ 100000 := by
    have := List.count_le_length (a := (34 : UInt8)) (l := s.data.toList)
    have h2 : s.data.toList.length = s.size := by simp
    omega
  have HNE := hid (show nEs s.data.toList = n9 + n3 by unfold nEs; rw [hn9, hn3])
  have HN9 := hid hn9; have HN3 := hid hn3
  clear hn9 hn3
  go_enter Tryz.func213, Tryz.ntmps213
  go_upto_if 26 with fail
  go_cut [5, 6] (fun v5 v6 wr => v5 = .int .i64 ((s.size + (n9 + n3) : Nat) : Int) ∧ v6 = .bool (decide (n9 + n3 ≠ 0)) ∧ ∃ q, wr = w.drewN q)
  case first =>
    by_cases h16 : 16 ≤ s.size
    · have h16' : (16 : Int) ≤ (s.size : Int) := by omega
      go_wp2_with fail
      go_loopw [32, 5, 6] (fun v v5 v6 wr => (∃ q, wr = w.drewN q) ∧ ((v = .int .i64 0 ∧ v5 = .int .i64 s.size ∧ v6 = .bool false) ∨ (v = .int .i64 1 ∧ v5 = .int .i64 ((s.size + n9 : Nat) : Int) ∧ v6 = .bool (decide (n9 ≠ 0))) ∨ (v = .int .i64 2 ∧ v5 = .int .i64 ((s.size + (n9 + n3) : Nat) : Int) ∧ v6 = .bool (decide (n9 + n3 ≠ 0))))) (fun v _ _ _ => (2 - intOf v).toNat)
      case atStart => exact ⟨⟨0, rfl⟩, .inl ⟨rfl, rfl, rfl⟩⟩
      case round =>
        obtain ⟨⟨q, hw⟩, ⟨hv, h5, h6⟩ | ⟨hv, h5, h6⟩ | ⟨hv, h5, h6⟩⟩ := hrel
        all_goals subst hw; subst hv; subst h5; subst h6
        · have HCT := hid (Tryz.strings_Count_one s 92 (w.drewN q))
          unfold Lib.countByte at HCT
          rw [← HN9.out] at HCT
          by_cases hz : n9 = 0
          · have hzb : ((n9 : Int) != 0) = false := by rw [hz]; rfl
            go_wp2_with fail
            refine HCT.out.mono ?_
            rintro e w5 ⟨rfl, hw5⟩
            subst hw5
            go_wp2_with fail
            go_roundw
            case rel => exact ⟨⟨_, rfl⟩, .inr (.inl ⟨by go_num, by rw [hz]; simp, by rw [hz]; simp⟩)⟩
            case measure => simp [intOf]
          · have hzb : ((n9 : Int) != 0) = true := bne_iff_ne.2 (by omega)
            go_wp2_with fail
            refine HCT.out.mono ?_
            rintro e w5 ⟨rfl, hw5⟩
            subst hw5
            go_wp2_with fail
            go_quiet (fail)
            go_wp2_with fail
            go_roundw
            case rel => exact ⟨⟨_, rfl⟩, .inr (.inl ⟨by go_num, by go_num, by simp [hz]⟩)⟩
            case measure => simp [intOf]
        · have HCT := hid (Tryz.strings_Count_one s 34 (w.drewN q))
          unfold Lib.countByte at HCT
          rw [← HN3.out] at HCT
          by_cases hz : n3 = 0
          · have hzb : ((n3 : Int) != 0) = false := by rw [hz]; rfl
            go_wp2_with fail
            refine HCT.out.mono ?_
            rintro e w5 ⟨rfl, hw5⟩
            subst hw5
            go_wp2_with fail
            go_roundw
            case rel => exact ⟨⟨_, rfl⟩, .inr (.inr ⟨by go_num, by rw [hz]; simp, by rw [hz]; simp⟩)⟩
            case measure => simp [intOf]
          · have hzb : ((n3 : Int) != 0) = true := bne_iff_ne.2 (by omega)
            go_wp2_with fail
            refine HCT.out.mono ?_
            rintro e w5 ⟨rfl, hw5⟩
            subst hw5
            go_wp2_with fail
            go_quiet (fail)
            go_wp2_with fail
            go_roundw
            case rel => exact ⟨⟨_, rfl⟩, .inr (.inr ⟨by go_num, by go_num, by simp [hz]⟩)⟩
            case measure => simp [intOf]
        · go_wp2_with fail
          go_meet
          exact ⟨rfl, rfl, q, rfl⟩
    · have h16' : ¬ (16 : Int) ≤ (s.size : Int) := by omega
      go_wp2_with fail
      go_loopw [10, 5, 6] (fun v v5 v6 wr => ∃ i q : Nat, v = .int .i64 i ∧ i ≤ s.size ∧ wr = w.drewN q ∧ ∃ k, Hid (k = nEs (s.data.toList.take i) ∧ k ≤ i) ∧ v5 = .int .i64 ((s.size + k : Nat) : Int) ∧ v6 = .bool (decide (k ≠ 0))) (fun v _ _ _ => s.size - (intOf v).toNat)
      case atStart => exact ⟨0, 0, rfl, Nat.zero_le _, rfl, 0, hid ⟨rfl, Nat.le_refl _⟩, rfl, rfl⟩
      case round =>
        obtain ⟨i, q, hv, hi, hw, k, HK, h5, h6⟩ := hrel
        subst hw; subst hv; subst h5; subst h6
        have hki := HK.out.2
        by_cases hlt : i < s.size
        · have hlt' : (i : Int) < (s.size : Int) := by omega
          obtain ⟨x, hx⟩ : ∃ x : UInt8, s[i]'hlt = x := ⟨_, rfl⟩
          have hxl : s.data.toList[i]? = some x := by rw [← hx]; exact Lib.data_getElem? s i hlt
          have HTK := hid (show s.data.toList.take (i + 1) = s.data.toList.take i ++ [x] from take_one hxl)
          have hx256 : (x.toNat : Int) < 256 := by have := UInt8.toNat_lt x; omega
          have HSN := hid (nEs_snoc (s.data.toList.take i) x)
          clear hxl
          by_cases h1 : x = 34
          · subst h1
            have HKN := hid (show k + 1 = nEs (s.data.toList.take (i + 1)) ∧ k + 1 ≤ i + 1 by rw [HTK.out, HSN.out, ← HK.out.1]; exact ⟨rfl, by omega⟩)
            go_wp2_with fail
            go_roundw
            case rel => exact ⟨i + 1, _, by go_num, by omega, rfl, k + 1, HKN, by go_num, by simp⟩
            case measure => simp [intOf]; omega
          · by_cases h2 : x = 92
            · subst h2
              have HKN := hid (show k + 1 = nEs (s.data.toList.take (i + 1)) ∧ k + 1 ≤ i + 1 by rw [HTK.out, HSN.out, ← HK.out.1]; exact ⟨rfl, by omega⟩)
              go_wp2_with fail
              go_roundw
              case rel => exact ⟨i + 1, _, by go_num, by omega, rfl, k + 1, HKN, by go_num, by simp⟩
              case measure => simp [intOf]; omega
            · have HKN := hid (show k = nEs (s.data.toList.take (i + 1)) ∧ k ≤ i + 1 by rw [HTK.out, HSN.out, ← HK.out.1, if_neg (fun h => h.elim h1 h2)]; exact ⟨rfl, by omega⟩)
              have hcx := HO.out x.toNat (UInt8.toNat_lt x) (fun e => h1 (UInt8.toNat_inj.1 e)) (fun e => h2 (UInt8.toNat_inj.1 e))
              clear h1 h2
              go_wp2_with fail
              go_roundw
              case rel => exact ⟨i + 1, _, by go_num, by omega, rfl, k, HKN, rfl, rfl⟩
              case measure => simp [intOf]; omega
        · obtain rfl : i = s.size := by omega
          have hlt' : ¬ (s.size : Int) < (s.size : Int) := by omega
          have hk : k = n9 + n3 := by
            have h := HK.out.1
            rw [List.take_of_length_le (by simp), HNE.out] at h
            exact h
          subst hk
          go_wp2_with fail
          go_meet
          exact ⟨rfl, by congr 1; by_cases h9 : n9 = 0 <;> by_cases h3 : n3 = 0 <;> simp [h9, h3], q, rfl⟩
  obtain ⟨h5, h6, q, hw⟩ := hcut
  subst h5; subst h6; subst hw
  clear r0 r1 q3 HN9 HN3
  by_cases hz : n9 + n3 = 0
  · have HES := hid (esc_none _ (HNE.out.trans hz))
    rw [decide_eq_false (fun h => h hz)]
    go_wp2_with fail
    go_ret
    exact ⟨by show Ending.returned (.string s) = _; rw [HES.out], (below_drewN (Below.refl _ _) q)⟩
  · rw [decide_eq_true hz]
    obtain ⟨i0, hi, hz0, hz1, hz2⟩ := info_parts Tryz.infoU8
    have HN := hid (show (escB s.data.toList).length = s.size + (n9 + n3) by rw [esc_len, HNE.out]; simp)
    generalize hNN : s.size + (n9 + n3) = N at *
    have hN3 : N ≤ 300000 := by omega
    have hNn : (s.size : Int) + ((n9 : Int) + (n3 : Int)) = (N : Int) := by omega
    first | rw [hNn] | skip
    clear hNn hNN hz hb9 hb3 HNE
    go_wp2_with (first
      | (at_make; refine (wpList_make_row _ rfl _ _ 128 rfl 5 i0 (.int .u8 0) Tryz.underlying128 hi hz0 hz1 rfl .i64 .i64 N rfl rfl (by rw [hz2]; omega) (by omega) ?_))
      | fail)
    have HBU := hid (buW_made w q N)
    generalize (w.drewN q).alloc (.cells (madeCells #[Value.int .u8 0] N) 5) = W0 at *
    have HBL := hid (fun U (hb : Below w.heap.size w U) => (show U.cell? ⟨g, 34, none⟩ = some (.slice (some ⟨a1, 0, none⟩) 2 c1) ∧ U.cell? ⟨g, 92, none⟩ = some (.slice (some ⟨a2, 0, none⟩) 2 c2) ∧ (∀ i, i < 256 → i ≠ 34 → i ≠ 92 → U.cell? ⟨g, i, none⟩ = some (.slice none 0 0)) ∧ SlA U 1 (some ⟨a1, 0, none⟩) 2 c1 (byC ⟨#[92, 34]⟩) ∧ SlA U 1 (some ⟨a2, 0, none⟩) 2 c2 (byC ⟨#[92, 92]⟩) from
      ⟨(hb.cell (p := ⟨g, 34, none⟩) (block_lt_of_cell q1)).trans q1, (hb.cell (p := ⟨g, 92, none⟩) (block_lt_of_cell q2)).trans q2, fun i h1 h2 h3 => (hb.cell (p := ⟨g, i, none⟩) (block_lt_of_cell (HO.out i h1 h2 h3))).trans (HO.out i h1 h2 h3), HY1.out.ext hb, HY2.out.ext hb⟩))
    have hsz8 : (Tryz.prog.info? 5).map (·.size) = some 1 := by kernel_rfl
    have HNE2 := hid (fun i => nEs_take_le s.data.toList i)
    have hss : s.data.toList.length = s.size := by simp
    have HSS := hid hss
    clear q1 q2 HO HY1 HY2 hss
    go_loopw [13, 14] (fun v13 v14 wr => ∃ i : Nat, v14 = .int .i64 i ∧ i ≤ s.size ∧ ∃ l k, Hid (l = escB (s.data.toList.take i) ∧ k = l.length) ∧ v13 = .int .i64 (k : Nat) ∧ Hid (BuW w wr w.heap.size N l)) (fun _ v14 _ => s.size - (intOf v14).toNat)
    case atStart => exact ⟨0, rfl, Nat.zero_le _, [], 0, hid ⟨rfl, rfl⟩, rfl, HBU⟩
    case round =>
      clear HBU
      obtain ⟨i, hv, hi, l, k, HK, hj, HB⟩ := hrel
      subst hv; subst hj
      by_cases hlt : i < s.size
      · have hlt' : (i : Int) < (s.size : Int) := by omega
        obtain ⟨x, hx⟩ : ∃ x : UInt8, s[i]'hlt = x := ⟨_, rfl⟩
        have hxl : s.data.toList[i]? = some x := by rw [← hx]; exact Lib.data_getElem? s i hlt
        have HTK := hid (show escB (s.data.toList.take (i + 1)) = l ++ (if x = 34 ∨ x = 92 then [92, x] else [x]) by rw [take_one hxl, esc_snoc, ← HK.out.1])
        have hx256 : (x.toNat : Int) < 256 := by have := UInt8.toNat_lt x; omega
        have HFT := hid (show (escB (s.data.toList.take (i + 1))).length ≤ N by
          rw [esc_len, List.length_take, ← HN.out, esc_len]
          have := HNE2.out (i + 1)
          omega)
        clear hxl
        by_cases h1 : x = 34
        · subst h1
          have hk2 : k + 2 ≤ N := by
            have h := HFT.out
            rw [HTK.out, if_pos (by simp), List.length_append, ← HK.out.2] at h
            simpa using h
          obtain ⟨e1, e2, -, s1, s2⟩ := HBL.out wr HB.out.b
          have d1 : wr.drew.cell? ⟨g, 34, none⟩ = some (.slice (some ⟨a1, 0, none⟩) 2 c1) := e1
          have hAk : sliced (some ⟨w.heap.size, 0, none⟩) k N N 1 = .slice (some ⟨w.heap.size, k, none⟩) (N - k) (N - k) := by
            unfold sliced
            rw [if_neg (by omega)]
            simp [Addr.add]
            omega
          have hcut := run_cut_f1 (P := Tryz.prog) (A := some ⟨w.heap.size, 0, none⟩) (A' := some ⟨w.heap.size, k, none⟩) (n := N) (c := N) Tryz.underlying128 (fun W => Tryz.sizeOf5 W) (p := k) (by omega) hAk
          have HSR := hid (show ∀ j v, (byC ⟨#[92, 34]⟩)[j]? = some v → wr.drew.cell? ((⟨a1, 0, none⟩ : Addr).add j) = some v from fun j v hj => by
            obtain ⟨b', o', e, hc⟩ := s1.cells j v hj
            injection e with e
            injection e with e1 e2
            subst e1; subst e2
            by_cases hj0 : j = 0
            · subst hj0; simpa [Addr.add] using hc
            · simpa [Addr.add, hj0] using hc)
          have HHP := hid (show wr.drew.heap[w.heap.size]? = some (.cells (buC N l).toArray 5 (0, 0)) from HB.out.hp)
          have HBB := hid (show Below w.heap.size w wr.drew from HB.out.b.drew)
          have HBLN := hid (show (buC N l).length = N by unfold buC; simp; have := HB.out.le; omega)
          have HSP := hid (show splice (buC N l) k (byC ⟨#[92, 34]⟩) = buC N (l ++ [92, 34]) by
            rw [HK.out.2]; exact buC_two 92 34 (by rw [← HK.out.2]; exact hk2))
          have hx34 : (34 : Int) < 256 := by decide
          have hbl : (byC ⟨#[92, 34]⟩).length = 2 := rfl
          clear s1 s2 hAk
          go_upto_region 28 with fail
          go_region_law (refine step_copy_splice rfl (.tmp 105) (.tmp 111) 128 128 rfl 5 Tryz.underlying128 hsz8 (some ⟨w.heap.size, k, none⟩) (some ⟨a1, 0, none⟩) (N - k) (N - k) 2 c1 (by simp [Act.eval]) (by simp [Act.eval]) w.heap.size k (buC N l) 5 HHP.out (byC ⟨#[92, 34]⟩) (Nat.min_eq_left (show 2 ≤ N - k by omega)).symm (fun _ => ⟨rfl, ⟨a1, 0, none⟩, rfl, HSR.out⟩) (by rw [HBLN.out]; exact hk2) (byC_one _) w.heap.size w HBB.out (Nat.le_refl _) ?_; intro w4 hg4 hb4)
          all_goals
            have HG4 := hid (show BuW w w4 w.heap.size N (l ++ [92, 34]) from ⟨by rw [← HSP.out]; exact hg4.out, by rw [List.length_append, ← HK.out.2]; exact hk2, Nat.le_refl _, hb4⟩)
            have HK4 := hid (show l ++ [92, 34] = escB (s.data.toList.take (i + 1)) ∧ k + 2 = (l ++ [92, 34]).length by
              rw [HTK.out, if_pos (by simp)]
              exact ⟨rfl, by rw [List.length_append, ← HK.out.2]; rfl⟩)
            clear hg4 hb4
            go_wp2_with fail
            go_roundw
            case rel => exact ⟨i + 1, by go_num, by omega, _, k + 2, HK4, by go_num, HG4⟩
            case measure => simp [intOf]; omega
        · by_cases h2 : x = 92
          · subst h2
            have hk2 : k + 2 ≤ N := by
              have h := HFT.out
              rw [HTK.out, if_pos (by simp), List.length_append, ← HK.out.2] at h
              simpa using h
            obtain ⟨e1, e2, -, s1, s2⟩ := HBL.out wr HB.out.b
            have d1 : wr.drew.cell? ⟨g, 92, none⟩ = some (.slice (some ⟨a2, 0, none⟩) 2 c2) := e2
            have hAk : sliced (some ⟨w.heap.size, 0, none⟩) k N N 1 = .slice (some ⟨w.heap.size, k, none⟩) (N - k) (N - k) := by
              unfold sliced
              rw [if_neg (by omega)]
              simp [Addr.add]
              omega
            have hcut := run_cut_f1 (P := Tryz.prog) (A := some ⟨w.heap.size, 0, none⟩) (A' := some ⟨w.heap.size, k, none⟩) (n := N) (c := N) Tryz.underlying128 (fun W => Tryz.sizeOf5 W) (p := k) (by omega) hAk
            have HSR := hid (show ∀ j v, (byC ⟨#[92, 92]⟩)[j]? = some v → wr.drew.cell? ((⟨a2, 0, none⟩ : Addr).add j) = some v from fun j v hj => by
              obtain ⟨b', o', e, hc⟩ := s2.cells j v hj
              injection e with e
              injection e with e1 e2
              subst e1; subst e2
              by_cases hj0 : j = 0
              · subst hj0; simpa [Addr.add] using hc
              · simpa [Addr.add, hj0] using hc)
            have HHP := hid (show wr.drew.heap[w.heap.size]? = some (.cells (buC N l).toArray 5 (0, 0)) from HB.out.hp)
            have HBB := hid (show Below w.heap.size w wr.drew from HB.out.b.drew)
            have HBLN := hid (show (buC N l).length = N by unfold buC; simp; have := HB.out.le; omega)
            have HSP := hid (show splice (buC N l) k (byC ⟨#[92, 92]⟩) = buC N (l ++ [92, 92]) by
              rw [HK.out.2]; exact buC_two 92 92 (by rw [← HK.out.2]; exact hk2))
            have hx34 : (92 : Int) < 256 := by decide
            have hbl : (byC ⟨#[92, 92]⟩).length = 2 := rfl
            clear s1 s2 hAk
            go_upto_region 28 with fail
            go_region_law (refine step_copy_splice rfl (.tmp 105) (.tmp 111) 128 128 rfl 5 Tryz.underlying128 hsz8 (some ⟨w.heap.size, k, none⟩) (some ⟨a2, 0, none⟩) (N - k) (N - k) 2 c2 (by simp [Act.eval]) (by simp [Act.eval]) w.heap.size k (buC N l) 5 HHP.out (byC ⟨#[92, 92]⟩) (Nat.min_eq_left (show 2 ≤ N - k by omega)).symm (fun _ => ⟨rfl, ⟨a2, 0, none⟩, rfl, HSR.out⟩) (by rw [HBLN.out]; exact hk2) (byC_one _) w.heap.size w HBB.out (Nat.le_refl _) ?_; intro w4 hg4 hb4)
            all_goals
              have HG4 := hid (show BuW w w4 w.heap.size N (l ++ [92, 92]) from ⟨by rw [← HSP.out]; exact hg4.out, by rw [List.length_append, ← HK.out.2]; exact hk2, Nat.le_refl _, hb4⟩)
              have HK4 := hid (show l ++ [92, 92] = escB (s.data.toList.take (i + 1)) ∧ k + 2 = (l ++ [92, 92]).length by
                rw [HTK.out, if_pos (by simp)]
                exact ⟨rfl, by rw [List.length_append, ← HK.out.2]; rfl⟩)
              clear hg4 hb4
              go_wp2_with fail
              go_roundw
              case rel => exact ⟨i + 1, by go_num, by omega, _, k + 2, HK4, by go_num, HG4⟩
              case measure => simp [intOf]; omega
          · have hk1 : k + 1 ≤ N := by
              have h := HFT.out
              rw [HTK.out, if_neg (fun h => h.elim h1 h2), List.length_append, ← HK.out.2] at h
              simpa using h
            have d1 := (HBL.out wr HB.out.b).2.2.1 x.toNat (UInt8.toNat_lt x) (fun e => h1 (UInt8.toNat_inj.1 e)) (fun e => h2 (UInt8.toNat_inj.1 e))
            have hc := HB.out.cell (by rw [← HK.out.2]; omega)
            rw [← HK.out.2] at hc
            have hz := frozen_of_row wr w.heap.size k _ _ HB.out.hp
            have HG4 := hid (show BuW w (wr.setCell ⟨w.heap.size, k, none⟩ (.int .u8 x.toNat)) w.heap.size N (l ++ [x]) by
              have := HB.out.put x (by rw [← HK.out.2]; omega)
              rwa [← HK.out.2] at this)
            have HK4 := hid (show l ++ [x] = escB (s.data.toList.take (i + 1)) ∧ k + 1 = (l ++ [x]).length by
              rw [HTK.out, if_neg (fun h => h.elim h1 h2)]
              exact ⟨rfl, by rw [List.length_append, ← HK.out.2]; rfl⟩)
            have hkN : (k : Int) < (N : Int) := by omega
            clear h1 h2
            go_wp2_with fail
            go_roundw
            case rel => exact ⟨i + 1, by go_num, by omega, _, k + 1, HK4, by go_num, HG4⟩
            case measure => simp [intOf]; omega
      · obtain rfl : i = s.size := by omega
        have hlt' : ¬ (s.size : Int) < (s.size : Int) := by omega
        have hl : l = escB s.data.toList := by
          have h := HK.out.1
          rwa [List.take_of_length_le (by simp)] at h
        have hconv := run_str_sl (P := Tryz.prog) (w := wr) 128 9 5 Tryz.underlying128 Tryz.underlying5 Tryz.underlying9 _ N N _ (HB.out.done (by rw [hl]; exact HN.out) (by unfold maxLen; omega))
        have HSB := hid (show strOfNums (l.map fun b : UInt8 => (b.toNat : Int)) = ⟨(escB s.data.toList).toArray⟩ by
          apply str_ext
          rw [str_back, hl])
        have HBE := hid HB.out.b
        clear hl
        generalize strOfNums (l.map fun b : UInt8 => (b.toNat : Int)) = RS at *
        go_wp2_with fail
        go_ret
        exact ⟨by show Ending.returned (.string RS) = _; rw [HSB.out], HBE.out⟩
end Go.Proofs.YtkgobglmkhkbbaaGreatDoor
namespace Go.Proofs.YtkgobglmkhkbbaaGreatDoor
open Go.RowKit Go.KK Go.Shelf Go.Maps

set_option maxHeartbeats 4000000 in
set_option maxRecDepth 100000 in
theorem replace_any (base b : Nat) (v : Value) (s : ByteArray) (w : World) (h : RpN base w b v) (hbase : base ≤ w.heap.size) (hs : s.size ≤ 100000) :
    Calls Tryz.prog 108 #[.pointer (some ⟨b, 0, none⟩), .string s] w fun e w' => e = .returned (.string ⟨(escB s.data.toList).toArray⟩) ∧ Below base w w' := by
  have HD := hid (do_first base b v w h.o h.s h.d hbase)
  have hm : ∀ (n g : Nat) (w : World), (method (n + 1) 223 (.pointer (some ⟨g, 0, none⟩)) "Replace").run Tryz.prog w = .ok (213, .pointer (some ⟨g, 0, none⟩)) w := fun _ _ _ => by kernel_rfl
  clear h
  go_enter Tryz.func108, Tryz.ntmps108
  go_wp2_with (first
    | (go_at_call 126; refine HD.out.mono ?_; rintro e w2 ⟨rfl, g, h2, hb2, bl2⟩; have B2 := hid bl2; have HLE := hid (Nat.le_trans hbase bl2.size); have c3 := own_at h2 (j := 3) rfl; have HR := hid (bsrep_any _ g s w2 hb2 hs); clear h2 hb2 bl2)
    | (go_at_call 213; refine HR.out.mono ?_; rintro e w3 ⟨rfl, b3⟩; have B3 := hid (B2.out.trans (b3.mono HLE.out)); clear b3))
  go_ret
  exact ⟨rfl, B3.out⟩
end Go.Proofs.YtkgobglmkhkbbaaGreatDoor
