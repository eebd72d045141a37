import Derived.Test.YtekfjcaihocmmaaGreatDoorY03
import Derived.Test.YtekfjcaihocmmaaGreatDoorY01
import Derived.Deep.RegionHeld3
import Derived.Test.YtekfjcaihocmmaaGreatDoorRows
import Derived.Test.YtekfjcaihocmmaaGreatDoorShelf
import Derived.Shelf.Spec.TrailingZeros
import Derived.Shelf.Spec.SlicesInsert
import Derived.Shelf.Spec.SlicesInsertGrow
import Derived.Shelf.SlicesE.Clone
import Derived.Shelf.SlSorted.IsSorted
import Derived.Maps.Range
import Derived.Test.YtekfjcaihocmmaaGreatDoorY02
import Derived.Deep.QuietTactic
import Derived.BigQuiet
import Derived.Deep.RegionWith
import Derived.Deep.RegionLaw
import Derived.Lib.ItoaLen
/- term: a writer writes a term (of its texts what a Replacer makes of them). -/
namespace Go.Proofs.YtekfjcaihocmmaaGreatDoor
open Go.RowKit Go.KK Go.Shelf Go.Maps
set_option linter.unusedVariables false
set_option linter.unusedSimpArgs false

theorem str_cells (l : List UInt8) : Lib.strCells ⟨l.toArray⟩ = Lib.byteCells l := by unfold Lib.strCells Lib.byteCells; simp
theorem str_app (l m : List UInt8) : (⟨l.toArray⟩ : ByteArray) ++ ⟨m.toArray⟩ = ⟨(l ++ m).toArray⟩ := by
  apply str_ext
  rw [ByteArray.data_append, Array.toList_append]
theorem bsz (l : List UInt8) : (⟨l.toArray⟩ : ByteArray).size = l.length := by show l.toArray.size = _; simp
theorem bytes_app (l m : List UInt8) : Lib.byteCells l ++ Lib.byteCells m = Lib.byteCells (l ++ m) := by unfold Lib.byteCells; rw [List.map_append]
theorem itoa_any (n : Int) (hn : I64 n) (w : World) (hT : Tb w.heap.size w) : Calls Tryz.prog 63 #[.int .i64 n] w fun e w' => ∃ S : ByteArray, e = .returned (.string S) ∧ S = ⟨(Lib.itoa n).toArray⟩ ∧ Below w.heap.size w w' := by
  refine (Tryz.strconv_Itoa n hn.1 hn.2 w hT.here).mono ?_
  rintro e w' ⟨rfl, k, os, rfl⟩
  exact ⟨_, rfl, rfl, Lib.below_grow _ _ (Nat.le_refl _) _ _⟩
theorem op_range {o : Int} {n : Nat} (h : lenB o n = true) : 1 ≤ o ∧ o ≤ 12 := by
  unfold lenB at h
  rcases ha : arN o with _ | k
  · rw [ha] at h
    have := eq_of_beq h
    omega
  · unfold arN at ha
    split at ha <;> first | omega | cases ha
/-- What a call that writes a term leaves. -/
def WtS (W0 w : World) (sa b : Nat) (bs : List UInt8) (tgt : List UInt8) (T : Nat) (e : Ending) (w' : World) : Prop :=
  e = .returned (.tuple #[]) ∧ ∃ out, Cut bs.length tgt out ∧ bs.length + out.length ≤ max bs.length T ∧ Wr W0.heap.size b (.pointer (some ⟨sa, 0, none⟩)) (Lib.byteCells (bs ++ out)) w' ∧ Below W0.heap.size W0 w' ∧ Oth b w w'
/-- The writer's call on a term, whatever stands there. -/
def WtC (W0 : World) (sa b : Nat) (xs : List ND) (t : Nat) : Prop := ∀ (bs : List UInt8) (w : World), Below W0.heap.size W0 w → Wr W0.heap.size b (.pointer (some ⟨sa, 0, none⟩)) (Lib.byteCells bs) w →
    Calls Tryz.prog 141 #[.pointer (some ⟨b, 0, none⟩), .int .i64 t] w (WtS W0 w sa b bs (showL xs t) (4500 + 80 * t))
section
variable (W0 : World) (sa b : Nat) (xs : List ND)
/-- Where more than 4000 bytes are there nothing more is written. -/
theorem wt_over (t : Int) (bs : List UInt8) (w : World) (tgt : List UInt8) (T : Nat) (hb : Below W0.heap.size W0 w) (h : Wr W0.heap.size b (.pointer (some ⟨sa, 0, none⟩)) (Lib.byteCells bs) w) (hl : 4000 < bs.length) :
    Calls Tryz.prog 141 #[.pointer (some ⟨b, 0, none⟩), .int .i64 t] w (WtS W0 w sa b bs tgt T) := by
  have HW := hid h; have HB := hid hb
  clear h hb
  have hl' : (4000 : Int) < (bs.length : Int) := by omega
  go_enter Tryz.func141, Tryz.ntmps141
  go_wp2_with fail
  refine (wlen_any _ b _ _ _ HW.out).mono ?_
  rintro e w' ⟨rfl, rfl⟩
  rw [Lib.byteCells_length]
  go_wp2_with fail
  go_end0
  exact ⟨rfl, [], cut_over hl _, by simp; omega, by simpa using HW.out, HB.out, Oth.refl _ _⟩
/-- The cells of a term's node. -/
theorem node_cells {t : Nat} {x : ND} (hA : ArV W0 169 sa xs) (hx : xs[t]? = some x) : ∃ c bn on A' c', ∀ w, Below W0.heap.size W0 w → w.cell? ⟨sa, 0, none⟩ = some (.slice (some ⟨bn, on, none⟩) xs.length c) ∧
    w.cell? ⟨bn, on + t * 4, none⟩ = some (.int .i64 x.o) ∧ w.cell? ⟨bn, on + t * 4 + 1, none⟩ = some (.int .i64 x.n) ∧ w.cell? ⟨bn, on + t * 4 + 2, none⟩ = some (.string x.s) ∧ w.cell? ⟨bn, on + t * 4 + 3, none⟩ = some (.slice A' x.l.length c') ∧ SlA w 1 A' x.l.length c' (x.l.map (.int .i64)) := by
  have htl := (List.getElem?_eq_some_iff.1 hx).1
  obtain ⟨A, c, m, h0, -, hnd⟩ := hA.parts
  obtain ⟨bn, on, y, A', c', rfl, hy, y0, y1, y2, y3, y4⟩ := hnd.at htl
  rw [hx] at hy
  injection hy with hy
  subst hy
  have up : ∀ {w : World} {p : Addr} {v : Value}, Below W0.heap.size W0 w → W0.cell? p = some v → w.cell? p = some v := fun hb h => (hb.cell (p := _) (block_lt_of_cell h)).trans h
  exact ⟨c, bn, on, A', c', fun w hb => ⟨up hb h0, up hb y0, up hb y1, up hb y2, up hb y3, y4.ext hb⟩⟩
set_option maxHeartbeats 2000000 in
set_option maxRecDepth 100000 in
/-- An atom. -/
theorem wt_atom (t : Nat) (bs : List UInt8) (w : World) (hA : ArV W0 169 sa xs) (hT : Tb W0.heap.size W0) (hb : Below W0.heap.size W0 w) (h : Wr W0.heap.size b (.pointer (some ⟨sa, 0, none⟩)) (Lib.byteCells bs) w) (hl : bs.length ≤ 4000) (x : ND) (hx : xs[t]? = some x) (ho : x.o = 1) (hn : I64 x.n) :
    Calls Tryz.prog 141 #[.pointer (some ⟨b, 0, none⟩), .int .i64 t] w (WtS W0 w sa b bs (showL xs t) (4500 + 80 * t)) := by
  have hsh : showL xs t = 35 :: Lib.itoa x.n := by rw [show_at hx]; unfold textOf; rw [if_pos ho]
  have HSH := hid hsh
  have hit : (Lib.itoa x.n).length ≤ 21 := itoa_le x.n hn.1 hn.2
  have HIT := hid hit
  have HW := hid h; have HB := hid hb; have HT := hid hT; have HN := hid hn
  have htl := (List.getElem?_eq_some_iff.1 hx).1
  obtain ⟨c, bn, on, A', c', HC⟩ := node_cells W0 sa xs hA hx
  obtain ⟨h0, y0, y1, y2, y3, -⟩ := HC w hb
  rw [ho] at y0
  have htl' : (t : Int) < (xs.length : Int) := by omega
  have c2 := HW.out.cell2
  have hl' : ¬ (4000 : Int) < (bs.length : Int) := by omega
  clear h hb hT hn hx hsh hit hA HC
  go_enter Tryz.func141, Tryz.ntmps141
  go_wp2_with fail
  refine (wlen_any _ b _ _ _ HW.out).mono ?_
  rintro e w' ⟨rfl, hw⟩
  rw [hw]
  clear hw w'
  rw [Lib.byteCells_length]
  go_upto_region 4 with fail
  have hba := HB.out.alloc HB.out.size (.cells #[.int .i64 1, .int .i64 x.n, .string x.s, .slice A' x.l.length c'] 92)
  have hwa := HW.out.ext ((Below.refl _ _).alloc (Nat.le_refl _) (.cells #[.int .i64 1, .int .i64 x.n, .string x.s, .slice A' x.l.length c'] 92))
  refine forget (R := fun V => (∃ C z, V.heap[w.heap.size]? = some (.cells C 92 z)) ∧ V.cell? ⟨w.heap.size, 1, none⟩ = some (.int .i64 x.n) ∧ Wr W0.heap.size b (.pointer (some ⟨sa, 0, none⟩)) (Lib.byteCells bs) V ∧ Below W0.heap.size W0 V ∧ Oth b w V) ?_ ⟨⟨_, (0, 0), heap_alloc_new w _⟩, by rw [World.cell?_alloc_at _ _ _ _ rfl]; rfl, hwa, hba, Oth.below ((Below.refl _ _).alloc (Nat.le_refl _) _)⟩
  clear hba hwa h0 y0 y1 y2 y3 c2
  rintro V ⟨⟨C1, z1, hn1⟩, q1, hv, hbv, hov⟩
  have HV := hid hv; have HBV := hid hbv; have HOV := hid hov; have HN1 := hid hn1; have Q1 := hid q1
  have hne : w.heap.size ≠ b := by have := HW.out.lt; omega
  have HLT := hid (block_lt_of_cell q1)
  clear hov hn1
  have hs0 : W0.heap.size ≤ V.heap.size := hbv.size
  clear hv hbv HW HB
  have D0 := hid (below_drew (Below.refl V.heap.size V))
  have HCI := hid (fun (U : World) (hb : Below V.heap.size V U) => itoa_any x.n HN.out U (Tb.up (HT.out.on (HBV.out.trans (hb.mono hs0))) (Nat.le_trans hs0 hb.size)))
  go_region_held3 (fun U => U.cell? ⟨w.heap.size, 1, none⟩ = some (.int .i64 x.n)) (first | exact q6 | exact (D5.out.cell (p := ⟨w.heap.size, 1, none⟩) HLT.out).trans Q1.out | exact q1 | go_keep) (first
    | (go_at_call 212; refine (wstr_any _ b _ _ _ _ (HV.out.ext D5.out) (by rw [Lib.byteCells_length, ByteArray.size_append]; have := hz5.out; have : (⟨#[35]⟩ : ByteArray).size = 1 := rfl; omega) (Nat.le_trans hs0 D5.out.size)).mono ?_; rintro e6 w6 ⟨rfl, h6, b6, o6⟩; have H6 := hid h6; have B6 := hid (HBV.out.trans ((D5.out.mono hs0).trans b6)); have O6 := hid (HOV.out.trans ((Oth.below D5.out).trans o6)); have q6 := ((Oth.below D5.out).trans o6).cell HN1.out (by decide) hne Q1.out; clear h6 b6 o6)
    | (go_at_call 63; refine (HCI.out _ D0.out).mono ?_; rintro e5 w5 ⟨S5, rfl, hS5, b5⟩; have D5 := hid (D0.out.trans (b5.mono D0.out.size)); have HS5 := hid hS5; have hz5 := hid (show S5.size ≤ 21 by rw [hS5, bsz]; exact HIT.out); have hcat : ¬ 9223372036854775807 < 1 + S5.size := (by have := hz5.out; omega); clear b5 hS5))
  all_goals
    go_wp2_with fail
    go_end0
    refine ⟨rfl, 35 :: Lib.itoa x.n, HSH.out ▸ cut_all _ _, ?_, ?_, B6.out, O6.out⟩
    · have := HIT.out; simp; omega
    · have h6 := H6.out
      rw [HS5.out] at h6
      rwa [show (⟨#[35]⟩ : ByteArray) = ⟨[35].toArray⟩ from rfl, str_app, str_cells, bytes_app] at h6
theorem name_cell {w : World} {T : TypeId} {k : Nat} (h3 : 3 ≤ k) (h12 : k ≤ 12) :
    (w.alloc (.cells #[.string ⟨#[]⟩, .string ⟨#[]⟩, .string ⟨#[]⟩, .string ⟨#[108, 105, 115, 116]⟩, .string ⟨#[104, 97, 115, 104]⟩, .string ⟨#[109, 105, 120]⟩, .string ⟨#[107, 101, 121]⟩, .string ⟨#[112, 117, 98]⟩, .string ⟨#[115, 101, 97, 108]⟩, .string ⟨#[101, 110, 99]⟩, .string ⟨#[115, 105, 103]⟩, .string ⟨#[109, 97, 99]⟩, .string ⟨#[98, 108, 105, 110, 100]⟩] T)).cell? ⟨w.heap.size, k, none⟩ = some (.string ⟨(nameB (k : Int)).toArray⟩) := by
  rw [World.cell?_alloc_at _ _ _ _ rfl]
  have : k = 3 ∨ k = 4 ∨ k = 5 ∨ k = 6 ∨ k = 7 ∨ k = 8 ∨ k = 9 ∨ k = 10 ∨ k = 11 ∨ k = 12 := by omega
  rcases this with rfl | rfl | rfl | rfl | rfl | rfl | rfl | rfl | rfl | rfl <;> rfl
/-- The parts' texts, up to the j-th. -/
def preT (xs : List ND) (x : ND) (j : Nat) : List UInt8 := nameB x.o ++ 40 :: joinC ((x.l.take j).map fun y => showL xs y.toNat)
theorem preT_zero (xs : List ND) (x : ND) : preT xs x 0 = nameB x.o ++ [40] := rfl
theorem preT_step {xs : List ND} {x : ND} {j : Nat} {y : Int} (h : x.l[j]? = some y) : preT xs x (j + 1) = preT xs x j ++ ((if j = 0 then [] else [44]) ++ showL xs y.toNat) := by
  unfold preT
  rw [take_one h, List.map_append, List.map_singleton, joinC_snoc]
  by_cases hj : j = 0
  · subst hj; simp [joinC]
  · have hl := (List.getElem?_eq_some_iff.1 h).1
    rw [if_neg (by
      intro e
      rw [List.map_eq_nil_iff, List.take_eq_nil_iff] at e
      rcases e with e | e
      · omega
      · rw [e] at hl; simp at hl), if_neg hj]
    simp
theorem preT_end {xs : List ND} (ok : Okay xs) {t : Nat} {x : ND} (hx : xs[t]? = some x) (h1 : x.o ≠ 1) (h2 : x.o ≠ 2) : showL xs t = preT xs x x.l.length ++ [41] := by
  rw [show_parts ok hx h1 h2]
  unfold preT
  rw [List.take_length]
  simp
set_option maxHeartbeats 4000000 in
set_option maxRecDepth 100000 in
/-- A node of parts. -/
theorem wt_node (t : Nat) (bs : List UInt8) (w : World) (hA : ArV W0 169 sa xs) (hb : Below W0.heap.size W0 w) (h : Wr W0.heap.size b (.pointer (some ⟨sa, 0, none⟩)) (Lib.byteCells bs) w) (hl : bs.length ≤ 4000) (x : ND) (hx : xs[t]? = some x) (k : Nat) (ho : x.o = (k : Int)) (h3 : 3 ≤ k) (h12 : k ≤ 12)
    (ih : ∀ y ∈ x.l, ∃ j : Nat, y = (j : Int) ∧ j < t ∧ WtC W0 sa b xs j) :
    Calls Tryz.prog 141 #[.pointer (some ⟨b, 0, none⟩), .int .i64 t] w (WtS W0 w sa b bs (showL xs t) (4500 + 80 * t)) := by
  have hok := hA.ok
  have htl := (List.getElem?_eq_some_iff.1 hx).1
  have HSH := hid (preT_end hok hx (by omega) (by omega))
  have hxl : x.l.length ≤ 64 := by
    have := hok.may t x hx
    unfold mayB shB at this
    simp only [Bool.and_eq_true, decide_eq_true_eq] at this
    exact this.1.1.1.1.1.1.2
  have hxn : xs.length ≤ 100000 := hok.len
  have HW := hid h; have HB := hid hb; have IH := hid ih
  obtain ⟨c, bn, on, A', c', HC⟩ := node_cells W0 sa xs hA hx
  obtain ⟨h0, y0, y1, y2, y3, -⟩ := HC w hb
  rw [ho] at y0
  have htl' : (t : Int) < (xs.length : Int) := by omega
  have c2 := HW.out.cell2
  have hl' : ¬ (4000 : Int) < (bs.length : Int) := by omega
  have hk1 : ((k : Int) == 1) = false := beq_eq_false_iff_ne.2 (by omega)
  have hk2 : ((k : Int) == 2) = false := beq_eq_false_iff_ne.2 (by omega)
  have HCC := hid HC
  have HO := hid ho
  clear h hb hx hA HC ih ho
  go_enter Tryz.func141, Tryz.ntmps141
  go_wp2_with fail
  refine (wlen_any _ b _ _ _ HW.out).mono ?_
  rintro e w' ⟨rfl, hw⟩
  rw [hw]
  clear hw w'
  rw [Lib.byteCells_length]
  go_upto_region 8 with fail
  have hs0 := HB.out.size
  have hbw := HW.out.lt
  refine forget (R := fun V => (∃ C1 z1 C2 z2, V.heap[w.heap.size]? = some (.cells C1 92 z1) ∧ V.heap[w.heap.size + 1]? = some (.cells C2 241 z2)) ∧ V.cell? ⟨w.heap.size, 0, none⟩ = some (.int .i64 k) ∧ V.cell? ⟨w.heap.size, 3, none⟩ = some (.slice A' x.l.length c') ∧ V.cell? ⟨w.heap.size + 1, k, none⟩ = some (.string ⟨(nameB (k : Int)).toArray⟩) ∧ Wr W0.heap.size b (.pointer (some ⟨sa, 0, none⟩)) (Lib.byteCells bs) V ∧ Below W0.heap.size W0 V ∧ Oth b w V) ?_ ⟨?_, ?_, ?_, ?_, ?_, ?_, ?_⟩
  rotate_left
  · have h2 := heap_alloc_new (w.alloc (.cells #[.int .i64 k, .int .i64 x.n, .string x.s, .slice A' x.l.length c'] 92)) (.cells #[.string ⟨#[]⟩, .string ⟨#[]⟩, .string ⟨#[]⟩, .string ⟨#[108, 105, 115, 116]⟩, .string ⟨#[104, 97, 115, 104]⟩, .string ⟨#[109, 105, 120]⟩, .string ⟨#[107, 101, 121]⟩, .string ⟨#[112, 117, 98]⟩, .string ⟨#[115, 101, 97, 108]⟩, .string ⟨#[101, 110, 99]⟩, .string ⟨#[115, 105, 103]⟩, .string ⟨#[109, 97, 99]⟩, .string ⟨#[98, 108, 105, 110, 100]⟩] 241)
    rw [show (w.alloc (.cells #[.int .i64 k, .int .i64 x.n, .string x.s, .slice A' x.l.length c'] 92)).heap.size = w.heap.size + 1 by simp] at h2
    exact ⟨_, (0, 0), _, (0, 0), (heap_alloc_old _ _ (by simp)).trans (heap_alloc_new w _), h2⟩
  · rw [World.cell?_alloc_old _ _ _ (by simp), World.cell?_alloc_at _ _ _ _ rfl]; rfl
  · rw [World.cell?_alloc_old _ _ _ (by simp), World.cell?_alloc_at _ _ _ _ rfl]; rfl
  · have := name_cell (w := w.alloc (.cells #[.int .i64 k, .int .i64 x.n, .string x.s, .slice A' x.l.length c'] 92)) (T := 241) h3 h12
    rw [show (w.alloc (.cells #[.int .i64 k, .int .i64 x.n, .string x.s, .slice A' x.l.length c'] 92)).heap.size = w.heap.size + 1 by simp] at this
    exact this
  · exact (HW.out.ext ((Below.refl _ _).alloc (Nat.le_refl _) _)).ext ((Below.refl _ _).alloc (Nat.le_refl _) _)
  · exact (HB.out.alloc HB.out.size _).alloc (by simp; omega) _
  · exact Oth.below (((Below.refl _ _).alloc (Nat.le_refl _) _).alloc (by simp) _)
  clear h0 y0 y1 y2 y3 c2
  rintro V ⟨⟨C1, z1, C2, z2, hb1, hb2⟩, q0, q3, q1, hv, hbv, hov⟩
  have HV := hid hv; have HBV := hid hbv; have HOV := hid hov; have HN1 := hid hb1; have HN2 := hid hb2
  have hsV : W0.heap.size ≤ V.heap.size := hbv.size
  clear hv hbv HW HB hov hb1 hb2
  have D0 := hid (below_drew (Below.refl V.heap.size V))
  have hk0 : (0 : Int) ≤ (k : Int) := by omega
  have hk13 : (k : Int) < 13 := by omega
  have HNL := hid (nameB_len (k : Int))
  obtain ⟨NM, hNM⟩ : ∃ NM : ByteArray, NM = ⟨(nameB (k : Int)).toArray⟩ := ⟨_, rfl⟩
  rw [← hNM] at q1
  have HNM := hid hNM
  have hNMs : ¬ 9223372036854775807 < NM.size + 1 := by
    have : NM.size ≤ 5 := by rw [hNM, bsz]; exact HNL.out
    omega
  clear hNM
  have Q3 := hid q3; have Q0 := hid q0; have Q1 := hid q1
  have hne : w.heap.size ≠ b := by omega
  have hne2 : w.heap.size + 1 ≠ b := by omega
  go_region_held3 (fun U => U.cell? ⟨w.heap.size, 0, none⟩ = some (.int .i64 k) ∧ U.cell? ⟨w.heap.size + 1, k, none⟩ = some (.string NM)) (first | exact ⟨q06, q16⟩ | exact ⟨q0, q1⟩ | go_keep) (first
    | (go_at_call 212; refine (wstr_any _ b _ _ _ _ (HV.out.ext D0.out) (by rw [Lib.byteCells_length, ByteArray.size_append, HNM.out, bsz]; have := HNL.out; have : (⟨#[40]⟩ : ByteArray).size = 1 := rfl; omega) (Nat.le_trans hsV D0.out.size)).mono ?_; rintro e6 w6 ⟨rfl, h6, b6, o6⟩; have H6 := hid h6; have B6 := hid (HBV.out.trans ((D0.out.mono hsV).trans b6)); have O6 := hid (HOV.out.trans ((Oth.below D0.out).trans o6)); have q6 := o6.cell HN1.out (by decide) hne Q3.out; have q06 := o6.cell HN1.out (by decide) hne Q0.out; have q16 := o6.cell HN2.out (by decide) hne2 Q1.out; clear h6 b6 o6))
  all_goals
    have hpre : Wr W0.heap.size b (.pointer (some ⟨sa, 0, none⟩)) (Lib.byteCells (bs ++ preT xs x 0)) w6 := by
      have h6 := H6.out
      rw [HNM.out, show (⟨#[40]⟩ : ByteArray) = ⟨[40].toArray⟩ from rfl, str_app, str_cells, bytes_app] at h6
      rw [preT_zero, HO.out]; exact h6
    have HP := hid hpre
    have HNL' := hid (show (preT xs x 0).length ≤ 6 by rw [preT_zero, HO.out, List.length_append]; have := HNL.out; simp; omega)
    clear hpre H6 HV HBV HOV HN1 HN2 q0 q1 q3 Q3 Q0 Q1 D0 q06 q16
    go_upto_region 10 with fail
    clear q6
    go_loopw [61] (fun v wr => ∃ (j : Nat) (out : List UInt8), v = .int .i64 j ∧ j ≤ x.l.length ∧ Hid (Cut bs.length (preT xs x j) out) ∧ Hid (bs.length + out.length ≤ 4430 + 80 * t + j) ∧ Hid (Wr W0.heap.size b (.pointer (some ⟨sa, 0, none⟩)) (Lib.byteCells (bs ++ out)) wr) ∧ Hid (Below W0.heap.size W0 wr) ∧ Hid (Oth b w wr)) (fun v _ => x.l.length - (intOf v).toNat)
    case atStart => exact ⟨0, preT xs x 0, rfl, Nat.zero_le _, hid (cut_all _ _), hid (by have := HNL'.out; omega), HP, B6, O6⟩
    case round =>
      clear HP B6 O6 HNL'
      obtain ⟨j, out, hv, hj, hcut, hlen, hwr, hbr, hor⟩ := hrel
      subst hv
      by_cases hlt : j < x.l.length
      · have hlt' : (j : Int) < (x.l.length : Int) := by omega
        obtain ⟨bq, oq, y, rfl, hy, hcy⟩ := (HCC.out wr hbr.out).2.2.2.2.2.elemI hlt
        obtain ⟨i, rfl, hit, hwc⟩ := IH.out y (List.mem_of_getElem? hy)
        have HWC := hid hwc
        have HST := hid (preT_step (xs := xs) hy)
        clear hwc hy
        by_cases hj0 : j = 0
        · subst hj0
          rw [Nat.add_zero] at hcy
          go_upto_region 14 with fail
          go_wp2_with fail
          refine (HWC.out _ _ hbr.out hwr.out).mono ?_
          rintro e5 w5 ⟨rfl, o5, cut5, len5, wr5, b5, ot5⟩
          have HC5 := hid (show Cut bs.length (preT xs x 1) (out ++ o5) by
            have e : preT xs x 1 = preT xs x 0 ++ showL xs i := by have := HST.out; simpa using this
            rw [e]
            exact hcut.out.app (by rw [← List.length_append]; exact cut5))
          have HL5 := hid (show bs.length + (out ++ o5).length ≤ 4430 + 80 * t + 1 by
            have := hlen.out
            rw [List.length_append] at len5 ⊢
            omega)
          have HW5 := hid wr5; have HB5 := hid b5; have HO5 := hid (hor.out.trans ot5)
          clear cut5 len5 wr5 b5 ot5
          rw [List.append_assoc] at HW5
          go_wp2_with fail
          go_roundw
          case rel => exact ⟨1, out ++ o5, by go_num, by omega, HC5, HL5, HW5, HB5, HO5⟩
          case measure => simp [intOf]; omega
        · have hj0' : (0 : Int) < (j : Int) := by omega
          go_upto_region 13 with fail
          go_wp2_with fail
          refine (wbyte_any _ b _ _ _ _ hwr.out (by rw [Lib.byteCells_length, List.length_append]; have := hlen.out; omega) hbr.out.size).mono ?_
          rintro e4 w4 ⟨rfl, h4, b4, o4⟩
          have H4 := hid (show Wr W0.heap.size b (.pointer (some ⟨sa, 0, none⟩)) (Lib.byteCells (bs ++ (out ++ [44]))) w4 by
            have e : Lib.byteCells (bs ++ (out ++ [44])) = Lib.byteCells (bs ++ out) ++ [.int .u8 44] := by simp [Lib.byteCells]
            rw [e]; exact h4)
          have B4 := hid (hbr.out.trans b4); have O4 := hid (hor.out.trans o4)
          clear h4 b4 o4
          go_wp2_with fail
          refine (HWC.out _ _ B4.out H4.out).mono ?_
          rintro e5 w5 ⟨rfl, o5, cut5, len5, wr5, b5, ot5⟩
          have HC5 := hid (show Cut bs.length (preT xs x (j + 1)) (out ++ ([44] ++ o5)) by
            have e : preT xs x (j + 1) = preT xs x j ++ ([44] ++ showL xs i) := by have := HST.out; rw [if_neg hj0] at this; simpa using this
            rw [e]
            refine hcut.out.app (Cut.app (cut_all _ _) ?_)
            have e : bs.length + out.length + ([44] : List UInt8).length = (bs ++ (out ++ [44])).length := by simp; omega
            rw [e]; exact cut5)
          have HL5 := hid (show bs.length + (out ++ ([44] ++ o5)).length ≤ 4430 + 80 * t + (j + 1) by
            have := hlen.out
            simp only [List.length_append, List.length_cons, List.length_nil] at len5 ⊢
            omega)
          have HW5 := hid wr5; have HB5 := hid b5; have HO5 := hid (O4.out.trans ot5)
          clear cut5 len5 wr5 b5 ot5
          rw [show bs ++ (out ++ [44]) ++ o5 = bs ++ (out ++ ([44] ++ o5)) by simp] at HW5
          go_wp2_with fail
          go_roundw
          case rel => exact ⟨j + 1, out ++ ([44] ++ o5), by go_num, by omega, HC5, HL5, HW5, HB5, HO5⟩
          case measure => simp [intOf]; omega
      · obtain rfl : j = x.l.length := by omega
        have hlt' : ¬ (x.l.length : Int) < (x.l.length : Int) := by omega
        go_wp2_with fail
        refine (wbyte_any _ b _ _ _ _ hwr.out (by rw [Lib.byteCells_length, List.length_append]; have := hlen.out; omega) hbr.out.size).mono ?_
        rintro e4 w4 ⟨rfl, h4, b4, o4⟩
        have H4 := hid h4; have B4 := hid (hbr.out.trans b4); have O4 := hid (hor.out.trans o4)
        clear h4 b4 o4
        go_wp2_with fail
        go_end0
        refine ⟨rfl, out ++ [41], ?_, ?_, ?_, B4.out, O4.out⟩
        · rw [HSH.out]; exact hcut.out.app (cut_all _ _)
        · have := hlen.out
          rw [List.length_append]; simp; omega
        · have e : Lib.byteCells (bs ++ (out ++ [41])) = Lib.byteCells (bs ++ out) ++ [.int .u8 41] := by simp [Lib.byteCells]
          rw [e]; exact H4.out
end
end Go.Proofs.YtekfjcaihocmmaaGreatDoor

/- The shelf's contracts that the kit's own tool leaves out at this seat: TrailingZeros, Insert, Clone of nodes. -/
namespace Go.Proofs
open Go.Shelf Go.RowKit
set_option linter.unusedVariables false
set_option linter.unusedSimpArgs false
def Tryz.lays7n27_ren : Go.Shelf.Ren := ⟨fun | 27 => 267 | 28 => 283 | 29 => 284 | n => n, fun | 0 => 0 | 3 => 3 | 4 => 4 | 5 => 5 | 22 => 261 | 25 => 230 | 27 => 270 | 53 => 311 | 54 => 312 | n => n, fun | 0 => 1 | 1 => 2 | n => n⟩
theorem Tryz.lays7n27 : Go.Proofs.Lays7.n27 Tryz.prog Tryz.lays7n27_ren := {
  mixed := by kernel_rfl
  f27 := Tryz.func267.trans (congrArg some (by kernel_rfl))
  f28 := Tryz.func283.trans (congrArg some (by kernel_rfl))
  f29 := Tryz.func284.trans (congrArg some (by kernel_rfl))
  t0 := Tryz.underlying0
  a0 := Tryz.isAgg0
  z0 := Tryz.sizeOf0
  v0 := Tryz.zeroValue0
  i0 := by kernel_rfl
  t3 := Tryz.underlying3
  a3 := Tryz.isAgg3
  z3 := Tryz.sizeOf3
  v3 := Tryz.zeroValue3
  i3 := by kernel_rfl
  t4 := Tryz.underlying4
  a4 := Tryz.isAgg4
  z4 := Tryz.sizeOf4
  v4 := Tryz.zeroValue4
  i4 := by kernel_rfl
  t5 := Tryz.underlying5
  a5 := Tryz.isAgg5
  z5 := Tryz.sizeOf5
  v5 := Tryz.zeroValue5
  i5 := by kernel_rfl
  t22 := Tryz.underlying261
  a22 := Tryz.isAgg261
  z22 := Tryz.sizeOf261
  v22 := Tryz.zeroValue261
  i22 := by kernel_rfl
  t25 := Tryz.underlying230
  a25 := Tryz.isAgg230
  z25 := Tryz.sizeOf230
  v25 := Tryz.zeroValue230
  i25 := by kernel_rfl
  t27 := Tryz.underlying270
  a27 := Tryz.isAgg270
  z27 := Tryz.sizeOf270
  v27 := Tryz.zeroValue270
  i27 := by kernel_rfl
  t53 := Tryz.underlying311
  a53 := Tryz.isAgg311
  z53 := Tryz.sizeOf311
  v53 := Tryz.zeroValue311
  i53 := by kernel_rfl
  t54 := Tryz.underlying312
  a54 := Tryz.isAgg312
  z54 := Tryz.sizeOf312
  g0 := by kernel_rfl
  g1 := by kernel_rfl }
def Tryz.laysO10_ren : Go.Shelf.Ren := ⟨fun | 10 => 253 | 18 => 202 | 24 => 257 | n => n, fun | 0 => 0 | 3 => 3 | 4 => 4 | 22 => 30 | 24 => 3 | n => n, fun | n => n⟩
theorem Tryz.laysO10 : Go.Proofs.SlLaysO.n10 Tryz.prog Tryz.laysO10_ren := {
  mixed := by kernel_rfl
  f10 := ⟨Tryz.f253.name, by decide, Tryz.func253.trans (congrArg some (by kernel_rfl))⟩
  f18 := ⟨Tryz.f202.name, by decide, Tryz.func202.trans (congrArg some (by kernel_rfl))⟩
  f24 := ⟨Tryz.f257.name, by decide, Tryz.func257.trans (congrArg some (by kernel_rfl))⟩
  t0 := Tryz.underlying0
  a0 := Tryz.isAgg0
  z0 := Tryz.sizeOf0
  v0 := Tryz.zeroValue0
  t3 := Tryz.underlying3
  a3 := Tryz.isAgg3
  z3 := Tryz.sizeOf3
  v3 := Tryz.zeroValue3
  t4 := Tryz.underlying4
  a4 := Tryz.isAgg4
  z4 := Tryz.sizeOf4
  v4 := Tryz.zeroValue4
  t22 := Tryz.underlying30
  a22 := Tryz.isAgg30
  z22 := Tryz.sizeOf30
  v22 := Tryz.zeroValue30
  t24 := Tryz.underlying3
  a24 := Tryz.isAgg3
  z24 := Tryz.sizeOf3
  v24 := Tryz.zeroValue3 }

/-- The table of the library's is laid. -/
def Tab (w : World) : Prop := TabAt 2 Lib.deBruijn64tab w
theorem Tab.ext {w w' : World} (h : Tab w) (hb : Below w.heap.size w w') : Tab w' := fun j hj => (hb.cell (p := ⟨2, j, none⟩) (block_lt_of_cell (h j hj))).trans (h j hj)
theorem Tryz.trailing (x : Nat) (hx : x < 18446744073709551616) (w : World) (hT : Tab w) :
    Calls Tryz.prog 267 #[.int .u64 x] w fun e w' => e = .returned (.int .i64 (Lib.ctz 64 x)) ∧ w' = w :=
  Any7.bits_TrailingZeros Tryz.lays7n27 x hx w fun _ => hT

end Go.Proofs

/- slices.Insert of one number into a row of the call's own. -/
namespace Go.KK
open Go.RowKit
set_option linter.unusedVariables false
set_option linter.unusedSimpArgs false

section
variable {w : World} {base : Nat} {e : TypeId} {g n cap : Nat} {xs : List Value}
end
theorem grown_undrew {a w : World} {r : Option Nat} (h : a.drew.grownBy w r) : a.grownBy w r := ⟨h.os, h.tape, h.output, h.size, h.block⟩
theorem below_grown {a w : World} (h : a.grownBy w none) : Below a.heap.size a w := ⟨h.os, h.tape, h.output, h.size, fun i hi => h.block i hi (by simp)⟩

/-- A number put in at its place. -/
def insL (u : List Int) (i : Nat) (x : Int) : List Int := u.take i ++ x :: u.drop i
theorem insL_len (u : List Int) (i : Nat) (x : Int) (h : i ≤ u.length) : (insL u i x).length = u.length + 1 := by
  unfold insL; simp; omega
end Go.KK
namespace Go.Proofs
open Go.Shelf Go.RowKit Go.KK
end Go.Proofs

/- term: what is carried from call to call: an arena, a row of numbers. -/
namespace Go.Proofs.YtekfjcaihocmmaaGreatDoor
open Go.RowKit Go.KK Go.Shelf Go.Maps
set_option linter.unusedVariables false
set_option linter.unusedSimpArgs false

/-- The law's arena, and what the call has left alone. -/
structure LA (w0 W : World) (Z : Nat → Prop) (sa : Nat) (xs : List ND) : Prop where
  ar : AR W Z sa xs
  z : ∀ b, Z b → w0.heap.size ≤ b
  bl : Below w0.heap.size w0 W
/-- From one world to the next. -/
structure Mv (Z : Nat → Prop) (W : World) (Z' : Nat → Prop) (W' : World) : Prop where
  t : Turn Z W W'
  n : ∀ b, Z' b → Z b ∨ W.heap.size ≤ b
theorem Mv.below {Z : Nat → Prop} {W W' : World} (hb : Below W.heap.size W W') : Mv Z W Z W' := ⟨.of_below hb, fun _ h => .inl h⟩
section
variable {w0 W W' : World} {Z Z' : Nat → Prop} {sa : Nat} {xs xs' : List ND}
theorem LA.mv (h : LA w0 W Z sa xs) (m : Mv Z W Z' W') (ha : AR W' Z' sa xs') : LA w0 W' Z' sa xs' :=
  ⟨ha, fun b hb => (m.n b hb).elim (h.z b) fun h' => Nat.le_trans h.bl.size h', h.bl.trans (m.t.below h.z h.bl.size)⟩
theorem LA.ext (h : LA w0 W Z sa xs) (hb : Below W.heap.size W W') : LA w0 W' Z sa xs := h.mv (.below hb) (h.ar.ext hb)
theorem LA.alloc (h : LA w0 W Z sa xs) (o : Obj) : LA w0 (W.alloc o) Z sa xs := h.ext ((Below.refl _ _).alloc (Nat.le_refl _) o)
theorem LA.sz (h : LA w0 W Z sa xs) : w0.heap.size ≤ W.heap.size := h.bl.size
theorem l_mke (h : LA w0 W Z sa xs) (hT : Tb w0.heap.size w0) {x : ND} {A : Option Addr} {c : Nat} (hl : SlA W 1 A x.l.length c (x.l.map (.int .i64))) (hx : NdI x) :
    Calls Tryz.prog 42 #[.pointer (some ⟨sa, 0, none⟩), .agg #[.int .i64 x.o, .int .i64 x.n, .string x.s, .slice A x.l.length c]] W fun e w' => ∃ Z', e = .returned (.tuple #[.int .i64 (makI xs x), .int .i64 (makE xs x)]) ∧ LA w0 w' Z' sa (makT xs x) ∧ Mv Z W Z' w' := by
  refine (mke_any Z sa xs w0.heap.size W x A c h.ar hl (hT.on h.bl) h.bl.size hx).mono ?_
  rintro e w' ⟨rfl, Z', h1, h2, h3⟩
  exact ⟨Z', rfl, h.mv ⟨h2, h3⟩ h1, ⟨h2, h3⟩⟩
end
/-- A row of numbers of the call's own. -/
abbrev RowI (W : World) (b0 : Nat) (v : Value) (l : List Int) : Prop := W.ownsRow b0 3 1 v l.length (l.map (.int .i64))
/-- The arena and a row. -/
structure T1 (w W : World) (sa : Nat) (Z : Nat → Prop) (X : List ND) (nv : Value) (ns : List Int) : Prop where
  la : LA w W Z sa X
  nr : RowI W w.heap.size nv ns
  na : ∀ b, nv.ownBlock = some b → ¬ Z b
section
variable {w W W' : World} {sa : Nat} {Z Z' : Nat → Prop} {X X' : List ND} {nv : Value} {ns : List Int}
theorem T1.ext (h : T1 w W sa Z X nv ns) (hb : Below W.heap.size W W') : T1 w W' sa Z X nv ns := ⟨h.la.ext hb, own_ext h.nr hb, h.na⟩
theorem T1.mv (h : T1 w W sa Z X nv ns) (hl : LA w W' Z' sa X') (hv : Mv Z W Z' W') : T1 w W' sa Z' X' nv ns where
  la := hl
  nr := own_block h.nr fun b hb => hv.t.block b (h.nr.lt b hb).2 (h.na b hb)
  na := fun b hb hz => (hv.n b hz).elim (h.na b hb) fun h' => by have := (h.nr.lt b hb).2; omega
theorem T1.app (h : T1 w W sa Z X nv ns) {nv' : Value} {ns' : List Int} (hn : RowI W' w.heap.size nv' ns') (hg : W.grownBy W' nv.ownBlock) (hl : nv'.ownBlock = nv.ownBlock ∨ nv'.ownBlock = some W.heap.size) : T1 w W' sa Z X nv' ns' := by
  have ht : Turn (fun b => nv.ownBlock = some b) W W' := Turn.grown hg fun b hb => .inl hb
  refine ⟨⟨h.la.ar.turn ht (fun b hz e => h.na b e hz), h.la.z, h.la.bl.trans (ht.below (fun b e => (h.nr.lt b e).1) h.la.sz)⟩, hn, fun b hb => ?_⟩
  rcases hl with hl | hl
  · exact h.na b (hl ▸ hb)
  · rw [hl] at hb
    injection hb with hb
    subst hb
    intro hz
    have := h.la.ar.zlt _ hz
    omega
end
end Go.Proofs.YtekfjcaihocmmaaGreatDoor

/- term: Show (without a law's live). -/
namespace Go.Proofs.YtekfjcaihocmmaaGreatDoor
open Go.RowKit Go.KK Go.Shelf Go.Maps
set_option linter.unusedVariables false
set_option linter.unusedSimpArgs false

/-- A term's text, or why there is none. -/
def showF (xs : List ND) (t : Int) : List UInt8 × Int := if hasB xs t then (if (showL xs t.toNat).length ≤ 4000 then (showL xs t.toNat, 0) else ([], 2)) else ([], 4)
theorem show_ne {xs : List ND} (ok : Okay xs) {t : Nat} (h : t < xs.length) : showL xs t ≠ [] := by
  have hx : xs[t]? = some xs[t] := List.getElem?_eq_getElem h
  generalize xs[t] = x at hx
  rw [show_at hx]
  unfold textOf
  split
  · simp
  · split
    · simp
    · simp
section
variable {w0 W : World} {Z : Nat → Prop} {sa : Nat} {xs : List ND}
end
end Go.Proofs.YtekfjcaihocmmaaGreatDoor

/- crypto over the law's arena: of, known, Extract, Expand, Derive, Public; Text, List. -/
namespace Go.Proofs.YtekfjcaihocmmaaGreatDoor
open Go.RowKit Go.KK Go.Shelf Go.Maps
set_option linter.unusedVariables false
set_option linter.unusedSimpArgs false

theorem idx_i64 {xs : List ND} (ok : Okay xs) (x : ND) : I64 (makI xs x) := by
  have := makI_b ok.len x
  exact ⟨by omega, by omega⟩
theorem ndI_tx (s : ByteArray) : NdI (txN s) := ⟨by unfold I64 txN; simp, by unfold I64 txN; simp, fun i hi => by simp [txN] at hi⟩
theorem Mv.trans {Z Z1 Z2 : Nat → Prop} {W W1 W2 : World} (a : Mv Z W Z1 W1) (b : Mv Z1 W1 Z2 W2) : Mv Z W Z2 W2 :=
  ⟨a.t.trans b.t a.n, fun k hk => (b.n k hk).elim (a.n k) fun h => .inr (Nat.le_trans a.t.size h)⟩
theorem Mv.alloc (Z : Nat → Prop) (W : World) (o : Obj) : Mv Z W Z (W.alloc o) := .below ((Below.refl _ _).alloc (Nat.le_refl _) o)
section
variable {w0 W W' : World} {Z Z' : Nat → Prop} {sa : Nat} {xs xs' : List ND}
/-- A call that takes a step. -/
def LrS (w0 W : World) (Z : Nat → Prop) (sa : Nat) (r : Rs) (e : Ending) (w' : World) : Prop := ∃ Z', e = .returned (.tuple #[.int .i64 r.2.1, .int .i64 r.2.2]) ∧ LA w0 w' Z' sa r.1 ∧ Mv Z W Z' w'
end
end Go.Proofs.YtekfjcaihocmmaaGreatDoor

/- the document's term: Digits. -/
namespace Go.Proofs.YtekfjcaihocmmaaGreatDoor
open Go.RowKit Go.KK
set_option linter.unusedVariables false
set_option linter.unusedSimpArgs false

/-- A number's text. -/
def digS (n : Nat) : ByteArray := ⟨(Lib.decDigits n).toArray⟩
def Dig (n : Int) (w : World) (e : Ending) (w' : World) : Prop := e = .returned (.string (digS n.toNat)) ∧ ∃ m, w' = w.drewN m
theorem dig_small {n : Nat} (h : n < 10) : Lib.decDigits n = [UInt8.ofNat (48 + n)] := by rw [Lib.decDigits]; simp [h]
theorem dig_step {n : Nat} (h : ¬ n < 10) : Lib.decDigits n = Lib.decDigits (n / 10) ++ [UInt8.ofNat (48 + n % 10)] := by
  conv => lhs; rw [Lib.decDigits]
  simp [h]
theorem ext_digit : ∀ d : Nat, d < 10 → ((⟨#[48, 49, 50, 51, 52, 53, 54, 55, 56, 57]⟩ : ByteArray).extract d (d + 1)).data.toList = [UInt8.ofNat (48 + d)] := by decide +kernel
theorem dig_ext {n : Nat} {K : ByteArray} (h : K.data.toList = Lib.decDigits n) : K = digS n := str_ext h
theorem digS_le (n : Nat) (h : n ≤ 9223372036854775807) : (digS n).size ≤ 21 := by
  have := Lib.itoa_length_le (n : Int) (by omega) (by omega)
  unfold Lib.itoa at this
  rw [if_neg (by omega)] at this
  exact this
theorem itoa_nat {n : Int} (h : 0 ≤ n) : Lib.itoa n = Lib.decDigits n.toNat := by unfold Lib.itoa; rw [if_neg (by omega)]
set_option maxHeartbeats 2000000 in
theorem digits_ind (k : Nat) : ∀ (n : Int) (w : World), 0 ≤ n → n ≤ k → n ≤ 9223372036854775807 →
    Calls Tryz.prog 66 #[.int .i64 n] w (Dig n w) := by
  induction k with
  | zero =>
    intro n w h0 hk _
    have hn : n = 0 := by omega
    subst hn
    go_enter Tryz.func66, Tryz.ntmps66
    go_wp2_with fail
    go_ret
    exact ⟨congrArg (fun K => Ending.returned (.string K)) (dig_ext (n := 0) (by decide +kernel)), 0, rfl⟩
  | succ k ih =>
    intro n w h0 hk h63
    by_cases hn : n < 10
    · obtain ⟨j, rfl⟩ := Int.eq_ofNat_of_zero_le h0
      have hj : j < 10 := by omega
      have he := ext_digit j hj
      have HE := hid he
      clear he
      go_enter Tryz.func66, Tryz.ntmps66
      go_wp2_with fail
      go_ret
      refine ⟨?_, 0, rfl⟩
      rw [Int.toNat_natCast]
      exact congrArg (fun K => Ending.returned (.string K)) (dig_ext (by rw [dig_small hj]; exact HE.out))
    · obtain ⟨j, rfl⟩ := Int.eq_ofNat_of_zero_le h0
      have HIH := hid (fun (W : World) => show Calls Tryz.prog 66 #[.int .i64 ((j : Int) / 10)] W (fun e w' => e = .returned (.string (digS (j / 10))) ∧ ∃ m, w' = W.drewN m) from ih ((j : Int) / 10) W (by omega) (by omega) (by omega))
      have HJ := hid (show ¬ j < 10 by omega)
      have HE := hid (ext_digit (j % 10) (Nat.mod_lt _ (by decide)))
      have hd0 : 0 ≤ (j : Int) % 10 := by omega
      have hd1 : (j : Int) % 10 < 10 := by omega
      have hq : (10 : Int) ≠ 0 := by decide
      have hw1 : IntKind.i64.wrap ((j : Int) % 10 + 1) = (j : Int) % 10 + 1 := by rw [IntKind.wrap_i64]; omega
      have hw0 : IntKind.i64.wrap ((j : Int) / 10) = (j : Int) / 10 := by rw [IntKind.wrap_i64]; omega
      have hm : (j : Int).tmod 10 = (j : Int) % 10 := Int.tmod_eq_emod_of_nonneg (by omega)
      have hv : (j : Int).tdiv 10 = (j : Int) / 10 := Int.tdiv_eq_ediv_of_nonneg (by omega)
      have hsl : ∀ W : World, (Instr.slice 9 (.string ⟨#[48, 49, 50, 51, 52, 53, 54, 55, 56, 57]⟩) (some (.int .i64 ((j : Int) % 10))) (some (.int .i64 ((j : Int) % 10 + 1))) none).run Tryz.prog W = .ok (.string ((⟨#[48, 49, 50, 51, 52, 53, 54, 55, 56, 57]⟩ : ByteArray).extract (j % 10) (j % 10 + 1))) W := fun W => by
        have := run_slice_string (P := Tryz.prog) W 9 ⟨#[48, 49, 50, 51, 52, 53, 54, 55, 56, 57]⟩ .i64 .i64 ((j : Int) % 10) ((j : Int) % 10 + 1) Tryz.underlying9 (by omega) (by omega) (by show (j : Int) % 10 + 1 ≤ 10; omega)
        rw [show ((j : Int) % 10).toNat = j % 10 by omega, show ((j : Int) % 10 + 1).toNat = j % 10 + 1 by omega] at this
        exact this
      have hX : ((⟨#[48, 49, 50, 51, 52, 53, 54, 55, 56, 57]⟩ : ByteArray).extract (j % 10) (j % 10 + 1)).size = 1 := by
        show ((⟨#[48, 49, 50, 51, 52, 53, 54, 55, 56, 57]⟩ : ByteArray).extract (j % 10) (j % 10 + 1)).data.toList.length = 1
        rw [HE.out]; rfl
      have hK := digS_le (j / 10) (by omega)
      generalize hXX : (⟨#[48, 49, 50, 51, 52, 53, 54, 55, 56, 57]⟩ : ByteArray).extract (j % 10) (j % 10 + 1) = X at *
      generalize hKK : digS (j / 10) = K at *
      have hcat : ¬ 9223372036854775807 < K.size + X.size := by omega
      have HXX := hid hXX; have HKK := hid hKK
      clear ih hk hXX hKK hX hK
      go_enter Tryz.func66, Tryz.ntmps66
      go_wp2_with fail
      go_quiet ((go_at_call 66; exact Calls.quiet_of (HIH.out _)))
      go_wp2_with fail
      go_ret
      refine ⟨?_, nq, rfl⟩
      rw [Int.toNat_natCast]
      refine congrArg (fun K => Ending.returned (.string K)) (dig_ext ?_)
      rw [dig_step HJ.out, ByteArray.data_append, Array.toList_append, HE.out, ← HKK.out]; rfl
theorem digits_any (n : Int) (w : World) (h0 : 0 ≤ n) (h : n ≤ 9223372036854775807) : Calls Tryz.prog 66 #[.int .i64 n] w (Dig n w) := digits_ind n.toNat n w h0 (by omega) h
end Go.Proofs.YtekfjcaihocmmaaGreatDoor

/- the document's term: arity, May. -/
namespace Go.Proofs.YtekfjcaihocmmaaGreatDoor
open Go.RowKit Go.KK Go.Shelf
set_option linter.unusedVariables false
set_option linter.unusedSimpArgs false

/-- The document's arena, at block st. -/
abbrev ArR (w : World) (Z : Nat → Prop) (st mp : Nat) (v : Value) (xs : List ND) (qs : List Value) : Prop := Ar Tryz.prog 92 9 3 122 keyR w Z st mp v xs qs
def arR (o : Int) : Int := match arN o with | some k => (k : Nat) | none => -1
theorem arR_out {o : Int} (h : o < 1 ∨ 13 ≤ o ∨ o = 3) : arR o = -1 := by
  have : arN o = none := by
    unfold arN
    split <;> first | omega | rfl
  unfold arR
  rw [this]
theorem len_eqR (o : Int) (n : Nat) : lenB o n = !((decide (arR o < 0) && (o != 3)) || (decide (0 ≤ arR o) && ((n : Int) != arR o))) := by
  unfold arR lenB
  rcases arN o with _ | k
  · by_cases h : o = 3
    · rw [h]; rfl
    · simp [h, bne]
  · by_cases hk : n = k
    · subst hk
      simp
    · have h2 : ((n : Int) != (k : Int)) = true := bne_iff_ne.2 (by omega)
      have h3 : (n == k) = false := beq_eq_false_iff_ne.2 hk
      simp [h2, h3]
set_option maxHeartbeats 4000000 in
theorem rarity_any (o : Int) (w : World) :
    Calls Tryz.prog 230 #[.int .i64 o] w fun e w' => e = .returned (.int .i64 (arR o)) ∧ w' = w := by
  by_cases hin : 1 ≤ o ∧ o ≤ 12
  · obtain ⟨h1, h2⟩ := hin
    have h3 : o = 1 ∨ o = 2 ∨ o = 3 ∨ o = 4 ∨ o = 5 ∨ o = 6 ∨ o = 7 ∨ o = 8 ∨ o = 9 ∨ o = 10 ∨ o = 11 ∨ o = 12 := by omega
    clear h1 h2
    rcases h3 with rfl | rfl | rfl | rfl | rfl | rfl | rfl | rfl | rfl | rfl | rfl | rfl
    all_goals
      go_enter Tryz.func230, Tryz.ntmps230
      go_wp2
      go_ret
      exact ⟨rfl, rfl⟩
  · have HE := hid (arR_out (o := o) (by omega))
    have e1 : (o == 1) = false := beq_eq_false_iff_ne.2 (by omega)
    have e2 : (o == 2) = false := beq_eq_false_iff_ne.2 (by omega)
    have e4 : (o == 4) = false := beq_eq_false_iff_ne.2 (by omega)
    have e5 : (o == 5) = false := beq_eq_false_iff_ne.2 (by omega)
    have e6 : (o == 6) = false := beq_eq_false_iff_ne.2 (by omega)
    have e7 : (o == 7) = false := beq_eq_false_iff_ne.2 (by omega)
    have e8 : (o == 8) = false := beq_eq_false_iff_ne.2 (by omega)
    have e9 : (o == 9) = false := beq_eq_false_iff_ne.2 (by omega)
    have e10 : (o == 10) = false := beq_eq_false_iff_ne.2 (by omega)
    have e11 : (o == 11) = false := beq_eq_false_iff_ne.2 (by omega)
    have e12 : (o == 12) = false := beq_eq_false_iff_ne.2 (by omega)
    clear hin
    go_enter Tryz.func230, Tryz.ntmps230
    go_wp2
    go_ret
    exact ⟨by rw [HE.out]; rfl, rfl⟩
end Go.Proofs.YtekfjcaihocmmaaGreatDoor

/- the document's term: May, walked. -/
namespace Go.Proofs.YtekfjcaihocmmaaGreatDoor
open Go.RowKit Go.KK Go.Shelf
set_option linter.unusedVariables false
set_option linter.unusedSimpArgs false

set_option maxHeartbeats 8000000 in
set_option maxRecDepth 20000 in
theorem rmay_bad (st : Nat) (xs : List ND) (x : ND) (A : Option Addr) (c : Nat) (w : World) (h : ArV w 122 st xs) (hl : SlA w 1 A x.l.length c (x.l.map (.int .i64))) (hb : shB x = false) :
    Calls Tryz.prog 159 #[.pointer (some ⟨st, 0, none⟩), .agg #[.int .i64 x.o, .int .i64 x.n, .string x.s, .slice A x.l.length c]] w fun e w' => e = .returned (.bool (mayB xs x)) ∧ Below w.heap.size w w' := by
  have H := hid h; have HS := hid hl
  have HM := hid (len_eqR x.o x.l.length)
  have B0 := hid (show Below w.heap.size w (w.alloc (.cells #[.int .i64 x.o, .int .i64 x.n, .string x.s, .slice A x.l.length c] 92)) from (Below.refl _ _).alloc (by simp) _)
  have hu : mayB xs x = (lenB x.o x.l.length && decide (x.l.length ≤ 64) && decide (0 ≤ x.n) && decide (x.s.size ≤ 200) && (x.o == 1 || x.n == 0) && (x.o == 2 || x.s.size == 0) && x.l.all (hasB xs) && (x.o != 6 || Go.KK.opAt xs (x.l.getD 1 0) == 2)) := rfl
  have HU := hid hu
  have C0 := hid (show let W := w.alloc (.cells #[.int .i64 x.o, .int .i64 x.n, .string x.s, .slice A x.l.length c] 92)
    W.cell? ⟨w.heap.size, 0, none⟩ = some (.int .i64 x.o) ∧ W.cell? ⟨w.heap.size, 1, none⟩ = some (.int .i64 x.n) ∧ W.cell? ⟨w.heap.size, 2, none⟩ = some (.string x.s) ∧ W.cell? ⟨w.heap.size, 3, none⟩ = some (.slice A x.l.length c) ∧ w.heap.size < W.heap.size by
      refine ⟨?_, ?_, ?_, ?_, by simp⟩
      all_goals (rw [World.cell?_alloc_at _ _ _ _ (by simp)]; rfl))
  clear h hl hu
  go_enter Tryz.func159, Tryz.ntmps159
  go_wp2_with fail
  refine (rarity_any x.o _).mono ?_
  rintro e1 w1 ⟨rfl, hw1⟩
  subst w1
  have B1 := B0
  obtain ⟨k0, k1, k2, k3, hlt⟩ := C0.out
  generalize w.alloc (.cells #[.int .i64 x.o, .int .i64 x.n, .string x.s, .slice A x.l.length c] 92) = w1 at *
  have H1 := hid (H.out.ext B1.out)
  have HS1 := hid (HS.out.ext B1.out)
  clear hlt C0 B0 H HS
  have HK := hid (show 0 ≤ arR x.o ∨ arR x.o = -1 by unfold arR; rcases arN x.o with _ | k; exact .inr rfl; exact .inl (Int.natCast_nonneg k))
  generalize arR x.o = K at *
  by_cases a1 : K < 0 ∧ x.o ≠ 3
  · have HF := hid (show mayB xs x = false by rw [HU.out, HM.out, decide_eq_true a1.1, bne_iff_ne.2 a1.2]; rfl)
    obtain ⟨p1, p2⟩ := a1
    have p3 : (x.o != 3) = true := bne_iff_ne.2 p2
    clear p2
    go_wp2_with fail
    go_ret
    exact ⟨by rw [HF.out]; rfl, B1.out⟩
  have a1' : K < 0 → (x.o != 3) = false := fun hh => by rw [bne_eq_false_iff_eq]; exact Decidable.byContradiction fun h => a1 ⟨hh, h⟩
  by_cases a2 : 0 ≤ K ∧ (x.l.length : Int) ≠ K
  · have a2' : ((x.l.length : Int) != K) = true := bne_iff_ne.2 a2.2
    have HF := hid (show mayB xs x = false by rw [HU.out, HM.out, decide_eq_true a2.1, a2']; simp)
    have a3 := a2.1
    clear a2 a1 a1'
    go_wp2_with fail
    go_ret
    exact ⟨by rw [HF.out]; rfl, B1.out⟩
  have HL := hid (show lenB x.o x.l.length = true by
    rw [HM.out]
    by_cases h0 : 0 ≤ K
    · rw [show ((x.l.length : Int) != K) = false from by rw [bne_eq_false_iff_eq]; omega, decide_eq_false (show ¬ K < 0 by omega)]; simp
    · rw [decide_eq_false h0, a1' (by omega)]; simp)
  have a2' : (0 ≤ K ∧ ((x.l.length : Int) != K) = false) ∨ (K < 0 ∧ (x.o != 3) = false) := by
    by_cases h0 : 0 ≤ K
    · exact .inl ⟨h0, by rw [bne_eq_false_iff_eq]; omega⟩
    · exact .inr ⟨by omega, a1' (by omega)⟩
  clear a1 a2 a1' HK
  by_cases a4 : 64 < x.l.length
  · have HF := hid (show mayB xs x = false by rw [HU.out, decide_eq_false (show ¬ x.l.length ≤ 64 by omega)]; simp)
    have a4' : (64 : Int) < (x.l.length : Int) := by omega
    rcases a2' with ⟨q1, q2⟩ | ⟨q1, q2⟩
    all_goals
      go_wp2_with fail
      go_ret
      exact ⟨by rw [HF.out]; rfl, B1.out⟩
  have a4' : ¬ (64 : Int) < (x.l.length : Int) := by omega
  by_cases b1 : x.o ≠ 1 ∧ x.n ≠ 0
  · have b1a : (x.o != 1) = true := bne_iff_ne.2 b1.1
    have b1b : (x.n != 0) = true := bne_iff_ne.2 b1.2
    have HF := hid (show mayB xs x = false by rw [HU.out, beq_eq_false_iff_ne.2 b1.1, beq_eq_false_iff_ne.2 b1.2]; simp)
    clear b1
    rcases a2' with ⟨q1, q2⟩ | ⟨q1, q2⟩
    all_goals
      go_wp2_with fail
      go_ret
      exact ⟨by rw [HF.out]; rfl, B1.out⟩
  have b1' : (x.o != 1) = false ∨ ((x.o != 1) = true ∧ (x.n != 0) = false) := by
    by_cases h : x.o = 1
    · exact .inl (by rw [bne_eq_false_iff_eq]; exact h)
    · exact .inr ⟨bne_iff_ne.2 h, by rw [bne_eq_false_iff_eq]; omega⟩
  by_cases b2 : x.o ≠ 2 ∧ ¬ x.s.size = 0
  · have b2a : (x.o != 2) = true := bne_iff_ne.2 b2.1
    have b2b := none_no b2.2
    have HF := hid (show mayB xs x = false by rw [HU.out, beq_eq_false_iff_ne.2 b2.1, beq_eq_false_iff_ne.2 b2.2]; simp)
    clear b2
    rcases a2' with ⟨q1, q2⟩ | ⟨q1, q2⟩ <;> rcases b1' with b1' | ⟨b1', b1''⟩
    all_goals
      go_wp2_with fail
      go_ret
      exact ⟨by rw [HF.out]; rfl, B1.out⟩
  have b2' : (x.o != 2) = false ∨ ((x.o != 2) = true ∧ x.s.toList.isEmpty = true) := by
    by_cases h : x.o = 2
    · exact .inl (by rw [bne_eq_false_iff_eq]; exact h)
    · exact .inr ⟨bne_iff_ne.2 h, none_yes (by omega)⟩
  by_cases a5 : x.n < 0
  · have HF := hid (show mayB xs x = false by rw [HU.out, decide_eq_false (show ¬ 0 ≤ x.n by omega)]; simp)
    have ho : x.o = 1 := Decidable.byContradiction fun h => b1 ⟨h, by omega⟩
    have p1 : (x.o != 1) = false := by rw [ho]; rfl
    have p2 : (x.o != 2) = true := by rw [ho]; rfl
    have p3 : x.s.toList.isEmpty = true := none_yes (Decidable.byContradiction fun h => b2 ⟨by omega, h⟩)
    clear b1 b2 b1' b2' ho
    rcases a2' with ⟨q1, q2⟩ | ⟨q1, q2⟩
    all_goals
      go_wp2_with fail
      go_ret
      exact ⟨by rw [HF.out]; rfl, B1.out⟩
  by_cases a6 : 200 < x.s.size
  · have HF := hid (show mayB xs x = false by rw [HU.out, decide_eq_false (show ¬ x.s.size ≤ 200 by omega)]; simp)
    have a6' : (200 : Int) < (x.s.size : Int) := by omega
    have ho : x.o = 2 := Decidable.byContradiction fun h => b2 ⟨h, by omega⟩
    have p1 : (x.o != 1) = true := by rw [ho]; rfl
    have p2 : (x.o != 2) = false := by rw [ho]; rfl
    have p3 : (x.n != 0) = false := by rw [bne_eq_false_iff_eq]; exact Decidable.byContradiction fun h => b1 ⟨by omega, h⟩
    clear b1 b2 b1' b2' ho
    rcases a2' with ⟨q1, q2⟩ | ⟨q1, q2⟩
    all_goals
      go_wp2_with fail
      go_ret
      exact ⟨by rw [HF.out]; rfl, B1.out⟩
  exfalso
  have h1 : (x.o == 1 || x.n == 0) = true := by
    rcases Decidable.em (x.o = 1) with h | h
    · rw [h]; rfl
    · rw [show x.n = 0 by omega]; simp
  have h2 : (x.o == 2 || x.s.size == 0) = true := by
    rcases Decidable.em (x.o = 2) with h | h
    · rw [h]; rfl
    · rw [show x.s.size = 0 by omega]; simp
  unfold shB at hb
  rw [HL.out, h1, h2, decide_eq_true (show x.l.length ≤ 64 by omega), decide_eq_true (show 0 ≤ x.n by omega), decide_eq_true (show x.s.size ≤ 200 by omega)] at hb
  cases hb
end Go.Proofs.YtekfjcaihocmmaaGreatDoor

/- the document's term: May, walked (2). -/
namespace Go.Proofs.YtekfjcaihocmmaaGreatDoor
open Go.RowKit Go.KK Go.Shelf
set_option linter.unusedVariables false
set_option linter.unusedSimpArgs false

set_option maxHeartbeats 8000000 in
set_option maxRecDepth 20000 in
theorem rmay_good (st : Nat) (xs : List ND) (x : ND) (A : Option Addr) (c : Nat) (w : World) (h : ArV w 122 st xs) (hl : SlA w 1 A x.l.length c (x.l.map (.int .i64))) (hb : shB x = true) :
    Calls Tryz.prog 159 #[.pointer (some ⟨st, 0, none⟩), .agg #[.int .i64 x.o, .int .i64 x.n, .string x.s, .slice A x.l.length c]] w fun e w' => e = .returned (.bool (mayB xs x)) ∧ Below w.heap.size w w' := by
  have H := hid h; have HS := hid hl
  have HM := hid (len_eqR x.o x.l.length)
  have B0 := hid (show Below w.heap.size w (w.alloc (.cells #[.int .i64 x.o, .int .i64 x.n, .string x.s, .slice A x.l.length c] 92)) from (Below.refl _ _).alloc (by simp) _)
  have hu : mayB xs x = (lenB x.o x.l.length && decide (x.l.length ≤ 64) && decide (0 ≤ x.n) && decide (x.s.size ≤ 200) && (x.o == 1 || x.n == 0) && (x.o == 2 || x.s.size == 0) && x.l.all (hasB xs) && (x.o != 6 || Go.KK.opAt xs (x.l.getD 1 0) == 2)) := rfl
  have C0 := hid (show let W := w.alloc (.cells #[.int .i64 x.o, .int .i64 x.n, .string x.s, .slice A x.l.length c] 92)
    W.cell? ⟨w.heap.size, 0, none⟩ = some (.int .i64 x.o) ∧ W.cell? ⟨w.heap.size, 1, none⟩ = some (.int .i64 x.n) ∧ W.cell? ⟨w.heap.size, 2, none⟩ = some (.string x.s) ∧ W.cell? ⟨w.heap.size, 3, none⟩ = some (.slice A x.l.length c) ∧ w.heap.size < W.heap.size by
      refine ⟨?_, ?_, ?_, ?_, by simp⟩
      all_goals (rw [World.cell?_alloc_at _ _ _ _ (by simp)]; rfl))
  clear h hl hu
  go_enter Tryz.func159, Tryz.ntmps159
  go_wp2_with fail
  refine (rarity_any x.o _).mono ?_
  rintro e1 w1 ⟨rfl, hw1⟩
  subst w1
  have B1 := B0
  obtain ⟨k0, k1, k2, k3, hlt⟩ := C0.out
  generalize w.alloc (.cells #[.int .i64 x.o, .int .i64 x.n, .string x.s, .slice A x.l.length c] 92) = w1 at *
  have H1 := hid (H.out.ext B1.out)
  have HS1 := hid (HS.out.ext B1.out)
  clear hlt C0 B0 H HS
  have HK := hid (show 0 ≤ arR x.o ∨ arR x.o = -1 by unfold arR; rcases arN x.o with _ | k; exact .inr rfl; exact .inl (Int.natCast_nonneg k))
  have HR := hid (show mayB xs x = (x.l.all (hasB xs) && (x.o != 6 || Go.KK.opAt xs (x.l.getD 1 0) == 2)) by
    have : mayB xs x = (shB x && x.l.all (hasB xs) && (x.o != 6 || Go.KK.opAt xs (x.l.getD 1 0) == 2)) := rfl
    rw [this, hb]; rfl)
  have hsh := hb
  unfold shB at hsh
  simp only [Bool.and_eq_true, Bool.or_eq_true, decide_eq_true_eq, beq_iff_eq] at hsh
  obtain ⟨⟨⟨⟨⟨hs1, hs2⟩, hs3⟩, hs4⟩, hs5⟩, hs6⟩ := hsh
  have hcase : ((arR x.o < 0 ∧ (x.o != 3) = false) ∨ (0 ≤ arR x.o ∧ ((x.l.length : Int) != arR x.o) = false)) := by
    rw [HM.out] at hs1
    rcases HK.out with h | h
    · right
      refine ⟨h, ?_⟩
      rw [decide_eq_true h] at hs1
      rcases hq : ((x.l.length : Int) != arR x.o) with _ | _
      · rfl
      · rw [hq] at hs1; simp at hs1
    · left
      refine ⟨by omega, ?_⟩
      rw [h] at hs1
      rcases hq : (x.o != 3) with _ | _
      · rfl
      · rw [hq] at hs1; simp at hs1
  have HL := hid hs1
  have hc2 : ((x.o != 1) = false ∧ (x.o != 2) = true ∧ x.s.toList.isEmpty = true) ∨ ((x.o != 1) = true ∧ (x.n != 0) = false ∧ (x.o != 2) = false) ∨ ((x.o != 1) = true ∧ (x.n != 0) = false ∧ (x.o != 2) = true ∧ x.s.toList.isEmpty = true) := by
    by_cases h1 : x.o = 1
    · exact .inl ⟨by rw [h1]; rfl, by rw [h1]; rfl, none_yes (by omega)⟩
    · by_cases h2 : x.o = 2
      · exact .inr (.inl ⟨by rw [h2]; rfl, by rw [bne_eq_false_iff_eq]; omega, by rw [h2]; rfl⟩)
      · exact .inr (.inr ⟨bne_iff_ne.2 h1, by rw [bne_eq_false_iff_eq]; omega, bne_iff_ne.2 h2, none_yes (by omega)⟩)
  have hc4 : (arR x.o < 0 ∧ (x.o != 3) = false) → ((x.o != 1) = true ∧ (x.n != 0) = false ∧ (x.o != 2) = true ∧ x.s.toList.isEmpty = true) := fun ⟨_, h⟩ => by
    rw [bne_eq_false_iff_eq] at h
    exact ⟨by rw [h]; rfl, by rw [bne_eq_false_iff_eq]; omega, by rw [h]; rfl, none_yes (by omega)⟩
  have a4' : ¬ (64 : Int) < (x.l.length : Int) := by omega
  have a5 : ¬ x.n < 0 := by omega
  have a6' : ¬ (200 : Int) < (x.s.size : Int) := by omega
  have hlen : x.l.length ≤ 2147483648 := by omega
  clear hs1 hs2 hs3 hs4 hs5 hs6 hb HK
  generalize arR x.o = K at *
  have hc : ((K < 0 ∧ (x.o != 3) = false) ∧ ((x.o != 1) = true ∧ (x.n != 0) = false ∧ (x.o != 2) = true ∧ x.s.toList.isEmpty = true)) ∨ ((0 ≤ K ∧ ((x.l.length : Int) != K) = false) ∧ (((x.o != 1) = false ∧ (x.o != 2) = true ∧ x.s.toList.isEmpty = true) ∨ ((x.o != 1) = true ∧ (x.n != 0) = false ∧ (x.o != 2) = false) ∨ ((x.o != 1) = true ∧ (x.n != 0) = false ∧ (x.o != 2) = true ∧ x.s.toList.isEmpty = true))) := by
    rcases hcase with h | h
    · exact .inl ⟨h, hc4 h⟩
    · exact .inr ⟨h, hc2⟩
  clear hcase hc2 hc4
  rcases hc with ⟨⟨q1, q2⟩, p1, p2, p3, p4⟩ | ⟨⟨q1, q2⟩, ⟨p1, p2, p3⟩ | ⟨p1, p2, p3⟩ | ⟨p1, p2, p3, p4⟩⟩
  all_goals
    go_wp2_with fail
    go_loopw [69] (fun i wr => ∃ j : Nat, i = .int .i64 j ∧ j ≤ x.l.length ∧ Hid (x.l.all (hasB xs) = (x.l.drop j).all (hasB xs)) ∧ wr = w1) (fun i _ => x.l.length - (intOf i).toNat)
    case atStart => exact ⟨0, rfl, by omega, hid rfl, rfl⟩
    case round =>
      obtain ⟨j, hi, hj, HJ, hw⟩ := hrel
      subst hi
      subst wr
      clear p1 p2 p3 q1 q2
      obtain ⟨A', c', m', q0, qm, hnd⟩ := H1.out.parts
      have HND := hid hnd
      clear hnd
      by_cases hltj : j < x.l.length
      · obtain ⟨bz, oz, z, hA, hz, hcz⟩ := HS1.out.elemI hltj
        subst hA
        have HD := hid (drop_get hz); clear hz
        by_cases hz0 : z < 0
        · have HF := hid (show mayB xs x = false by
            rw [HR.out, HJ.out, HD.out, List.all_cons, show hasB xs z = false by unfold hasB; rw [decide_eq_false (by omega : ¬ 0 ≤ z)]; rfl]; rfl)
          go_wp2_with fail
          go_ret
          exact ⟨by rw [HF.out]; rfl, B1.out⟩
        · by_cases hz1 : (xs.length : Int) ≤ z
          · have HF := hid (show mayB xs x = false by
              rw [HR.out, HJ.out, HD.out, List.all_cons, show hasB xs z = false by unfold hasB; rw [decide_eq_false (by omega : ¬ z < (xs.length : Int))]; simp]; rfl)
            go_wp2_with fail
            go_ret
            exact ⟨by rw [HF.out]; rfl, B1.out⟩
          · have HF := hid (show x.l.all (hasB xs) = (x.l.drop (j + 1)).all (hasB xs) by
              rw [HJ.out, HD.out, List.all_cons, show hasB xs z = true by unfold hasB; rw [decide_eq_true (by omega : z < (xs.length : Int)), decide_eq_true (by omega : 0 ≤ z)]; rfl]; rfl)
            go_wp2_with fail
            go_roundw
            case rel => exact ⟨j + 1, by go_num, by omega, HF, by first | rfl | trivial⟩
            case measure => simp [intOf]; omega
      · have hall : x.l.all (hasB xs) = true := by rw [HJ.out, List.drop_of_length_le (by omega)]; rfl
        by_cases h6 : x.o = 6
        · have h6' : (x.o != 6) = false := by rw [bne_eq_false_iff_eq]; exact h6
          have hl3 : x.l.length = 3 := by
            have := HL.out
            rw [h6] at this
            simpa [lenB, arN] using this
          obtain ⟨bx, ox, z, hA, hz, hcz⟩ := HS1.out.elemI (k := 1) (by omega)
          have hhz : hasB xs z = true := List.all_eq_true.1 hall z (List.mem_of_getElem? hz)
          unfold hasB at hhz
          simp only [Bool.and_eq_true, decide_eq_true_eq] at hhz
          obtain ⟨hz0, hz1⟩ := hhz
          obtain ⟨k, rfl⟩ := Int.eq_ofNat_of_zero_le hz0
          obtain ⟨bn, on, y, Ay, cy, hA', hy, y0, y1, y2, y3, -⟩ := HND.out.at (j := k) (by omega)
          have HF := hid (show mayB xs x = (y.o == 2) by
            rw [HR.out, hall, h6, List.getD, hz]
            show (_ && Go.KK.opAt xs (k : Int) == 2) = _
            unfold Go.KK.opAt
            rw [Int.toNat_natCast, hy]
            rfl)
          subst hA
          subst hA'
          clear hall hz hy h6
          go_wp2_with fail
          go_quiet (fail)
          go_wp2
          go_ret
          exact ⟨by rw [HF.out]; rfl, below_drewN B1.out _⟩
        · have h6' : (x.o != 6) = true := bne_iff_ne.2 h6
          have HF := hid (show mayB xs x = true by rw [HR.out, hall, h6']; rfl)
          clear hall h6
          go_wp2_with fail
          go_quiet (fail)
          go_wp2
          go_ret
          exact ⟨by rw [HF.out]; rfl, below_drewN B1.out _⟩
theorem rmay_any (st : Nat) (xs : List ND) (x : ND) (A : Option Addr) (c : Nat) (w : World) (h : ArV w 122 st xs) (hl : SlA w 1 A x.l.length c (x.l.map (.int .i64))) :
    Calls Tryz.prog 159 #[.pointer (some ⟨st, 0, none⟩), .agg #[.int .i64 x.o, .int .i64 x.n, .string x.s, .slice A x.l.length c]] w fun e w' => e = .returned (.bool (mayB xs x)) ∧ Below w.heap.size w w' := by
  rcases hb : shB x with _ | _
  · exact rmay_bad st xs x A c w h hl hb
  · exact rmay_good st xs x A c w h hl hb
end Go.Proofs.YtekfjcaihocmmaaGreatDoor

