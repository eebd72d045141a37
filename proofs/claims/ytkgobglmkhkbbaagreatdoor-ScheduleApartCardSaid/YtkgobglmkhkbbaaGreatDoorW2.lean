/- term: a writer writes a term (of its texts what a Replacer makes of them). -/
import Derived.Test.YtkgobglmkhkbbaaGreatDoorW1
import Derived.Test.YtkgobglmkhkbbaaGreatDoorM5
import Derived.Test.YtkgobglmkhkbbaaGreatDoorK6
import Derived.Deep.RegionHeld3
namespace Go.Proofs.YtkgobglmkhkbbaaGreatDoor
open Go.RowKit Go.KK Go.Shelf Go.Maps
set_option linter.unusedVariables false
set_option linter.unusedSimpArgs false

theorem str_cells (l : List UInt8) : Lib.strCells ⟨l.toArray⟩ = Lib.byteCells l := by unfold Lib.strCells Lib.byteCells; simp
theorem str_app (l m : List UInt8) : (⟨l.toArray⟩ : ByteArray) ++ ⟨m.toArray⟩ = ⟨(l ++ m).toArray⟩ := by
  apply str_ext
  rw [ByteArray.data_append, Array.toList_append]
theorem bsz (l : List UInt8) : (⟨l.toArray⟩ : ByteArray).size = l.length := by show l.toArray.size = _; simp
theorem bytes_app (l m : List UInt8) : Lib.byteCells l ++ Lib.byteCells m = Lib.byteCells (l ++ m) := by unfold Lib.byteCells; rw [List.map_append]
theorem itoa_any (n : Int) (hn : I64 n) (w : World) (hT : Tb w.heap.size w) : Calls Tryz.prog 76 #[.int .i64 n] w fun e w' => ∃ S : ByteArray, e = .returned (.string S) ∧ S = ⟨(Lib.itoa n).toArray⟩ ∧ Below w.heap.size w w' := by
  refine (Tryz.strconv_Itoa n hn.1 hn.2 w hT.here).mono ?_
  rintro e w' ⟨rfl, k, os, rfl⟩
  exact ⟨_, rfl, rfl, Lib.below_grow _ _ (Nat.le_refl _) _ _⟩
theorem op_range {o : Int} {n : Nat} (h : lenB o n = true) : 1 ≤ o ∧ o ≤ 12 := by
  unfold lenB at h
  rcases ha : arN o with _ | k
  · rw [ha] at h
    have := eq_of_beq h
    omega
  · unfold arN at ha
    split at ha <;> first | omega | cases ha
/-- What a call that writes a term leaves. -/
def WtS (W0 w : World) (sa b : Nat) (bs : List UInt8) (tgt : List UInt8) (T : Nat) (e : Ending) (w' : World) : Prop :=
  e = .returned (.tuple #[]) ∧ ∃ out, Cut bs.length tgt out ∧ bs.length + out.length ≤ max bs.length T ∧ Wr W0.heap.size b (.pointer (some ⟨sa, 0, none⟩)) (Lib.byteCells (bs ++ out)) w' ∧ Below W0.heap.size W0 w' ∧ Oth b w w'
/-- The writer's call on a term, whatever stands there. -/
def WtC (W0 : World) (sa b : Nat) (xs : List ND) (t : Nat) : Prop := ∀ (bs : List UInt8) (w : World), Below W0.heap.size W0 w → Wr W0.heap.size b (.pointer (some ⟨sa, 0, none⟩)) (Lib.byteCells bs) w →
    Calls Tryz.prog 88 #[.pointer (some ⟨b, 0, none⟩), .int .i64 t] w (WtS W0 w sa b bs (showL xs t) (4500 + 80 * t))
section
variable (W0 : World) (sa b : Nat) (xs : List ND)
/-- Where more than 4000 bytes are there nothing more is written. -/
theorem wt_over (t : Int) (bs : List UInt8) (w : World) (tgt : List UInt8) (T : Nat) (hb : Below W0.heap.size W0 w) (h : Wr W0.heap.size b (.pointer (some ⟨sa, 0, none⟩)) (Lib.byteCells bs) w) (hl : 4000 < bs.length) :
    Calls Tryz.prog 88 #[.pointer (some ⟨b, 0, none⟩), .int .i64 t] w (WtS W0 w sa b bs tgt T) := by
  have HW := hid h; have HB := hid hb
  clear h hb
  have hl' : (4000 : Int) < (bs.length : Int) := by omega
  go_enter Tryz.func88, Tryz.ntmps88
  go_wp2_with fail
  refine (wlen_any _ b _ _ _ HW.out).mono ?_
  rintro e w' ⟨rfl, rfl⟩
  rw [Lib.byteCells_length]
  go_wp2_with fail
  go_end0
  exact ⟨rfl, [], cut_over hl _, by simp; omega, by simpa using HW.out, HB.out, Oth.refl _ _⟩
/-- The cells of a term's node. -/
theorem node_cells {t : Nat} {x : ND} (hA : ArV W0 124 sa xs) (hx : xs[t]? = some x) : ∃ c bn on A' c', ∀ w, Below W0.heap.size W0 w → w.cell? ⟨sa, 0, none⟩ = some (.slice (some ⟨bn, on, none⟩) xs.length c) ∧
    w.cell? ⟨bn, on + t * 4, none⟩ = some (.int .i64 x.o) ∧ w.cell? ⟨bn, on + t * 4 + 1, none⟩ = some (.int .i64 x.n) ∧ w.cell? ⟨bn, on + t * 4 + 2, none⟩ = some (.string x.s) ∧ w.cell? ⟨bn, on + t * 4 + 3, none⟩ = some (.slice A' x.l.length c') ∧ SlA w 1 A' x.l.length c' (x.l.map (.int .i64)) := by
  have htl := (List.getElem?_eq_some_iff.1 hx).1
  obtain ⟨A, c, m, h0, -, hnd⟩ := hA.parts
  obtain ⟨bn, on, y, A', c', rfl, hy, y0, y1, y2, y3, y4⟩ := hnd.at htl
  rw [hx] at hy
  injection hy with hy
  subst hy
  have up : ∀ {w : World} {p : Addr} {v : Value}, Below W0.heap.size W0 w → W0.cell? p = some v → w.cell? p = some v := fun hb h => (hb.cell (p := _) (block_lt_of_cell h)).trans h
  exact ⟨c, bn, on, A', c', fun w hb => ⟨up hb h0, up hb y0, up hb y1, up hb y2, up hb y3, y4.ext hb⟩⟩
set_option maxHeartbeats 2000000 in
set_option maxRecDepth 100000 in
/-- An atom. -/
theorem wt_atom (t : Nat) (bs : List UInt8) (w : World) (hA : ArV W0 124 sa xs) (hT : Tb W0.heap.size W0) (hb : Below W0.heap.size W0 w) (h : Wr W0.heap.size b (.pointer (some ⟨sa, 0, none⟩)) (Lib.byteCells bs) w) (hl : bs.length ≤ 4000) (x : ND) (hx : xs[t]? = some x) (ho : x.o = 1) (hn : I64 x.n) :
    Calls Tryz.prog 88 #[.pointer (some ⟨b, 0, none⟩), .int .i64 t] w (WtS W0 w sa b bs (showL xs t) (4500 + 80 * t)) := by
  have hsh : showL xs t = 35 :: Lib.itoa x.n := by rw [show_at hx]; unfold textOf; rw [if_pos ho]
  have HSH := hid hsh
  have hit : (Lib.itoa x.n).length ≤ 21 := itoa_le x.n hn.1 hn.2
  have HIT := hid hit
  have HW := hid h; have HB := hid hb; have HT := hid hT; have HN := hid hn
  have htl := (List.getElem?_eq_some_iff.1 hx).1
  obtain ⟨c, bn, on, A', c', HC⟩ := node_cells W0 sa xs hA hx
  obtain ⟨h0, y0, y1, y2, y3, -⟩ := HC w hb
  rw [ho] at y0
  have htl' : (t : Int) < (xs.length : Int) := by omega
  have c2 := HW.out.cell2
  have hl' : ¬ (4000 : Int) < (bs.length : Int) := by omega
  clear h hb hT hn hx hsh hit hA HC
  go_enter Tryz.func88, Tryz.ntmps88
  go_wp2_with fail
  refine (wlen_any _ b _ _ _ HW.out).mono ?_
  rintro e w' ⟨rfl, hw⟩
  rw [hw]
  clear hw w'
  rw [Lib.byteCells_length]
  go_upto_region 4 with fail
  have hba := HB.out.alloc HB.out.size (.cells #[.int .i64 1, .int .i64 x.n, .string x.s, .slice A' x.l.length c'] 88)
  have hwa := HW.out.ext ((Below.refl _ _).alloc (Nat.le_refl _) (.cells #[.int .i64 1, .int .i64 x.n, .string x.s, .slice A' x.l.length c'] 88))
  refine forget (R := fun V => (∃ C z, V.heap[w.heap.size]? = some (.cells C 88 z)) ∧ V.cell? ⟨w.heap.size, 1, none⟩ = some (.int .i64 x.n) ∧ Wr W0.heap.size b (.pointer (some ⟨sa, 0, none⟩)) (Lib.byteCells bs) V ∧ Below W0.heap.size W0 V ∧ Oth b w V) ?_ ⟨⟨_, (0, 0), heap_alloc_new w _⟩, by rw [World.cell?_alloc_at _ _ _ _ rfl]; rfl, hwa, hba, Oth.below ((Below.refl _ _).alloc (Nat.le_refl _) _)⟩
  clear hba hwa h0 y0 y1 y2 y3 c2
  rintro V ⟨⟨C1, z1, hn1⟩, q1, hv, hbv, hov⟩
  have HV := hid hv; have HBV := hid hbv; have HOV := hid hov; have HN1 := hid hn1; have Q1 := hid q1
  have hne : w.heap.size ≠ b := by have := HW.out.lt; omega
  have HLT := hid (block_lt_of_cell q1)
  clear hov hn1
  have hs0 : W0.heap.size ≤ V.heap.size := hbv.size
  clear hv hbv HW HB
  have D0 := hid (below_drew (Below.refl V.heap.size V))
  have HCI := hid (fun (U : World) (hb : Below V.heap.size V U) => itoa_any x.n HN.out U (Tb.up (HT.out.on (HBV.out.trans (hb.mono hs0))) (Nat.le_trans hs0 hb.size)))
  go_region_held3 (fun U => U.cell? ⟨w.heap.size, 1, none⟩ = some (.int .i64 x.n)) (first | exact q6 | exact (D5.out.cell (p := ⟨w.heap.size, 1, none⟩) HLT.out).trans Q1.out | exact q1 | go_keep) (first
    | (go_at_call 106; refine (wstr_any _ b _ _ _ _ (HV.out.ext D5.out) (by rw [Lib.byteCells_length, ByteArray.size_append]; have := hz5.out; have : (⟨#[35]⟩ : ByteArray).size = 1 := rfl; omega) (Nat.le_trans hs0 D5.out.size)).mono ?_; rintro e6 w6 ⟨rfl, h6, b6, o6⟩; have H6 := hid h6; have B6 := hid (HBV.out.trans ((D5.out.mono hs0).trans b6)); have O6 := hid (HOV.out.trans ((Oth.below D5.out).trans o6)); have q6 := ((Oth.below D5.out).trans o6).cell HN1.out (by decide) hne Q1.out; clear h6 b6 o6)
    | (go_at_call 76; refine (HCI.out _ D0.out).mono ?_; rintro e5 w5 ⟨S5, rfl, hS5, b5⟩; have D5 := hid (D0.out.trans (b5.mono D0.out.size)); have HS5 := hid hS5; have hz5 := hid (show S5.size ≤ 21 by rw [hS5, bsz]; exact HIT.out); have hcat : ¬ 9223372036854775807 < 1 + S5.size := (by have := hz5.out; omega); clear b5 hS5))
  all_goals
    go_wp2_with fail
    go_end0
    refine ⟨rfl, 35 :: Lib.itoa x.n, HSH.out ▸ cut_all _ _, ?_, ?_, B6.out, O6.out⟩
    · have := HIT.out; simp; omega
    · have h6 := H6.out
      rw [HS5.out] at h6
      rwa [show (⟨#[35]⟩ : ByteArray) = ⟨[35].toArray⟩ from rfl, str_app, str_cells, bytes_app] at h6
theorem name_cell {w : World} {T : TypeId} {k : Nat} (h3 : 3 ≤ k) (h12 : k ≤ 12) :
    (w.alloc (.cells #[.string ⟨#[]⟩, .string ⟨#[]⟩, .string ⟨#[]⟩, .string ⟨#[108, 105, 115, 116]⟩, .string ⟨#[104, 97, 115, 104]⟩, .string ⟨#[109, 105, 120]⟩, .string ⟨#[107, 101, 121]⟩, .string ⟨#[112, 117, 98]⟩, .string ⟨#[115, 101, 97, 108]⟩, .string ⟨#[101, 110, 99]⟩, .string ⟨#[115, 105, 103]⟩, .string ⟨#[109, 97, 99]⟩, .string ⟨#[98, 108, 105, 110, 100]⟩] T)).cell? ⟨w.heap.size, k, none⟩ = some (.string ⟨(nameB (k : Int)).toArray⟩) := by
  rw [World.cell?_alloc_at _ _ _ _ rfl]
  have : k = 3 ∨ k = 4 ∨ k = 5 ∨ k = 6 ∨ k = 7 ∨ k = 8 ∨ k = 9 ∨ k = 10 ∨ k = 11 ∨ k = 12 := by omega
  rcases this with rfl | rfl | rfl | rfl | rfl | rfl | rfl | rfl | rfl | rfl <;> rfl
/-- The parts' texts, up to the j-th. -/
def preT (xs : List ND) (x : ND) (j : Nat) : List UInt8 := nameB x.o ++ 40 :: joinC ((x.l.take j).map fun y => showL xs y.toNat)
theorem preT_zero (xs : List ND) (x : ND) : preT xs x 0 = nameB x.o ++ [40] := rfl
theorem preT_step {xs : List ND} {x : ND} {j : Nat} {y : Int} (h : x.l[j]? = some y) : preT xs x (j + 1) = preT xs x j ++ ((if j = 0 then [] else [44]) ++ showL xs y.toNat) := by
  unfold preT
  rw [take_one h, List.map_append, List.map_singleton, joinC_snoc]
  by_cases hj : j = 0
  · subst hj; simp [joinC]
  · have hl := (List.getElem?_eq_some_iff.1 h).1
    rw [if_neg (by
      intro e
      rw [List.map_eq_nil_iff, List.take_eq_nil_iff] at e
      rcases e with e | e
      · omega
      · rw [e] at hl; simp at hl), if_neg hj]
    simp
theorem preT_end {xs : List ND} (ok : Okay xs) {t : Nat} {x : ND} (hx : xs[t]? = some x) (h1 : x.o ≠ 1) (h2 : x.o ≠ 2) : showL xs t = preT xs x x.l.length ++ [41] := by
  rw [show_parts ok hx h1 h2]
  unfold preT
  rw [List.take_length]
  simp
set_option maxHeartbeats 4000000 in
set_option maxRecDepth 100000 in
/-- A node of parts. -/
theorem wt_node (t : Nat) (bs : List UInt8) (w : World) (hA : ArV W0 124 sa xs) (hb : Below W0.heap.size W0 w) (h : Wr W0.heap.size b (.pointer (some ⟨sa, 0, none⟩)) (Lib.byteCells bs) w) (hl : bs.length ≤ 4000) (x : ND) (hx : xs[t]? = some x) (k : Nat) (ho : x.o = (k : Int)) (h3 : 3 ≤ k) (h12 : k ≤ 12)
    (ih : ∀ y ∈ x.l, ∃ j : Nat, y = (j : Int) ∧ j < t ∧ WtC W0 sa b xs j) :
    Calls Tryz.prog 88 #[.pointer (some ⟨b, 0, none⟩), .int .i64 t] w (WtS W0 w sa b bs (showL xs t) (4500 + 80 * t)) := by
  have hok := hA.ok
  have htl := (List.getElem?_eq_some_iff.1 hx).1
  have HSH := hid (preT_end hok hx (by omega) (by omega))
  have hxl : x.l.length ≤ 64 := by
    have := hok.may t x hx
    unfold mayB shB at this
    simp only [Bool.and_eq_true, decide_eq_true_eq] at this
    exact this.1.1.1.1.1.1.2
  have hxn : xs.length ≤ 100000 := hok.len
  have HW := hid h; have HB := hid hb; have IH := hid ih
  obtain ⟨c, bn, on, A', c', HC⟩ := node_cells W0 sa xs hA hx
  obtain ⟨h0, y0, y1, y2, y3, -⟩ := HC w hb
  rw [ho] at y0
  have htl' : (t : Int) < (xs.length : Int) := by omega
  have c2 := HW.out.cell2
  have hl' : ¬ (4000 : Int) < (bs.length : Int) := by omega
  have hk1 : ((k : Int) == 1) = false := beq_eq_false_iff_ne.2 (by omega)
  have hk2 : ((k : Int) == 2) = false := beq_eq_false_iff_ne.2 (by omega)
  have HCC := hid HC
  have HO := hid ho
  clear h hb hx hA HC ih ho
  go_enter Tryz.func88, Tryz.ntmps88
  go_wp2_with fail
  refine (wlen_any _ b _ _ _ HW.out).mono ?_
  rintro e w' ⟨rfl, hw⟩
  rw [hw]
  clear hw w'
  rw [Lib.byteCells_length]
  go_upto_region 8 with fail
  have hs0 := HB.out.size
  have hbw := HW.out.lt
  refine forget (R := fun V => (∃ C1 z1 C2 z2, V.heap[w.heap.size]? = some (.cells C1 88 z1) ∧ V.heap[w.heap.size + 1]? = some (.cells C2 149 z2)) ∧ V.cell? ⟨w.heap.size, 0, none⟩ = some (.int .i64 k) ∧ V.cell? ⟨w.heap.size, 3, none⟩ = some (.slice A' x.l.length c') ∧ V.cell? ⟨w.heap.size + 1, k, none⟩ = some (.string ⟨(nameB (k : Int)).toArray⟩) ∧ Wr W0.heap.size b (.pointer (some ⟨sa, 0, none⟩)) (Lib.byteCells bs) V ∧ Below W0.heap.size W0 V ∧ Oth b w V) ?_ ⟨?_, ?_, ?_, ?_, ?_, ?_, ?_⟩
  rotate_left
  · have h2 := heap_alloc_new (w.alloc (.cells #[.int .i64 k, .int .i64 x.n, .string x.s, .slice A' x.l.length c'] 88)) (.cells #[.string ⟨#[]⟩, .string ⟨#[]⟩, .string ⟨#[]⟩, .string ⟨#[108, 105, 115, 116]⟩, .string ⟨#[104, 97, 115, 104]⟩, .string ⟨#[109, 105, 120]⟩, .string ⟨#[107, 101, 121]⟩, .string ⟨#[112, 117, 98]⟩, .string ⟨#[115, 101, 97, 108]⟩, .string ⟨#[101, 110, 99]⟩, .string ⟨#[115, 105, 103]⟩, .string ⟨#[109, 97, 99]⟩, .string ⟨#[98, 108, 105, 110, 100]⟩] 149)
    rw [show (w.alloc (.cells #[.int .i64 k, .int .i64 x.n, .string x.s, .slice A' x.l.length c'] 88)).heap.size = w.heap.size + 1 by simp] at h2
    exact ⟨_, (0, 0), _, (0, 0), (heap_alloc_old _ _ (by simp)).trans (heap_alloc_new w _), h2⟩
  · rw [World.cell?_alloc_old _ _ _ (by simp), World.cell?_alloc_at _ _ _ _ rfl]; rfl
  · rw [World.cell?_alloc_old _ _ _ (by simp), World.cell?_alloc_at _ _ _ _ rfl]; rfl
  · have := name_cell (w := w.alloc (.cells #[.int .i64 k, .int .i64 x.n, .string x.s, .slice A' x.l.length c'] 88)) (T := 149) h3 h12
    rw [show (w.alloc (.cells #[.int .i64 k, .int .i64 x.n, .string x.s, .slice A' x.l.length c'] 88)).heap.size = w.heap.size + 1 by simp] at this
    exact this
  · exact (HW.out.ext ((Below.refl _ _).alloc (Nat.le_refl _) _)).ext ((Below.refl _ _).alloc (Nat.le_refl _) _)
  · exact (HB.out.alloc HB.out.size _).alloc (by simp; omega) _
  · exact Oth.below (((Below.refl _ _).alloc (Nat.le_refl _) _).alloc (by simp) _)
  clear h0 y0 y1 y2 y3 c2
  rintro V ⟨⟨C1, z1, C2, z2, hb1, hb2⟩, q0, q3, q1, hv, hbv, hov⟩
  have HV := hid hv; have HBV := hid hbv; have HOV := hid hov; have HN1 := hid hb1; have HN2 := hid hb2
  have hsV : W0.heap.size ≤ V.heap.size := hbv.size
  clear hv hbv HW HB hov hb1 hb2
  have D0 := hid (below_drew (Below.refl V.heap.size V))
  have hk0 : (0 : Int) ≤ (k : Int) := by omega
  have hk13 : (k : Int) < 13 := by omega
  have HNL := hid (nameB_len (k : Int))
  obtain ⟨NM, hNM⟩ : ∃ NM : ByteArray, NM = ⟨(nameB (k : Int)).toArray⟩ := ⟨_, rfl⟩
  rw [← hNM] at q1
  have HNM := hid hNM
  have hNMs : ¬ 9223372036854775807 < NM.size + 1 := by
    have : NM.size ≤ 5 := by rw [hNM, bsz]; exact HNL.out
    omega
  clear hNM
  have Q3 := hid q3; have Q0 := hid q0; have Q1 := hid q1
  have hne : w.heap.size ≠ b := by omega
  have hne2 : w.heap.size + 1 ≠ b := by omega
  go_region_held3 (fun U => U.cell? ⟨w.heap.size, 0, none⟩ = some (.int .i64 k) ∧ U.cell? ⟨w.heap.size + 1, k, none⟩ = some (.string NM)) (first | exact ⟨q06, q16⟩ | exact ⟨q0, q1⟩ | go_keep) (first
    | (go_at_call 106; refine (wstr_any _ b _ _ _ _ (HV.out.ext D0.out) (by rw [Lib.byteCells_length, ByteArray.size_append, HNM.out, bsz]; have := HNL.out; have : (⟨#[40]⟩ : ByteArray).size = 1 := rfl; omega) (Nat.le_trans hsV D0.out.size)).mono ?_; rintro e6 w6 ⟨rfl, h6, b6, o6⟩; have H6 := hid h6; have B6 := hid (HBV.out.trans ((D0.out.mono hsV).trans b6)); have O6 := hid (HOV.out.trans ((Oth.below D0.out).trans o6)); have q6 := o6.cell HN1.out (by decide) hne Q3.out; have q06 := o6.cell HN1.out (by decide) hne Q0.out; have q16 := o6.cell HN2.out (by decide) hne2 Q1.out; clear h6 b6 o6))
  all_goals
    have hpre : Wr W0.heap.size b (.pointer (some ⟨sa, 0, none⟩)) (Lib.byteCells (bs ++ preT xs x 0)) w6 := by
      have h6 := H6.out
      rw [HNM.out, show (⟨#[40]⟩ : ByteArray) = ⟨[40].toArray⟩ from rfl, str_app, str_cells, bytes_app] at h6
      rw [preT_zero, HO.out]; exact h6
    have HP := hid hpre
    have HNL' := hid (show (preT xs x 0).length ≤ 6 by rw [preT_zero, HO.out, List.length_append]; have := HNL.out; simp; omega)
    clear hpre H6 HV HBV HOV HN1 HN2 q0 q1 q3 Q3 Q0 Q1 D0 q06 q16
    go_upto_region 10 with fail
    clear q6
    go_loopw [61] (fun v wr => ∃ (j : Nat) (out : List UInt8), v = .int .i64 j ∧ j ≤ x.l.length ∧ Hid (Cut bs.length (preT xs x j) out) ∧ Hid (bs.length + out.length ≤ 4430 + 80 * t + j) ∧ Hid (Wr W0.heap.size b (.pointer (some ⟨sa, 0, none⟩)) (Lib.byteCells (bs ++ out)) wr) ∧ Hid (Below W0.heap.size W0 wr) ∧ Hid (Oth b w wr)) (fun v _ => x.l.length - (intOf v).toNat)
    case atStart => exact ⟨0, preT xs x 0, rfl, Nat.zero_le _, hid (cut_all _ _), hid (by have := HNL'.out; omega), HP, B6, O6⟩
    case round =>
      clear HP B6 O6 HNL'
      obtain ⟨j, out, hv, hj, hcut, hlen, hwr, hbr, hor⟩ := hrel
      subst hv
      by_cases hlt : j < x.l.length
      · have hlt' : (j : Int) < (x.l.length : Int) := by omega
        obtain ⟨bq, oq, y, rfl, hy, hcy⟩ := (HCC.out wr hbr.out).2.2.2.2.2.elemI hlt
        obtain ⟨i, rfl, hit, hwc⟩ := IH.out y (List.mem_of_getElem? hy)
        have HWC := hid hwc
        have HST := hid (preT_step (xs := xs) hy)
        clear hwc hy
        by_cases hj0 : j = 0
        · subst hj0
          rw [Nat.add_zero] at hcy
          go_upto_region 14 with fail
          go_wp2_with fail
          refine (HWC.out _ _ hbr.out hwr.out).mono ?_
          rintro e5 w5 ⟨rfl, o5, cut5, len5, wr5, b5, ot5⟩
          have HC5 := hid (show Cut bs.length (preT xs x 1) (out ++ o5) by
            have e : preT xs x 1 = preT xs x 0 ++ showL xs i := by have := HST.out; simpa using this
            rw [e]
            exact hcut.out.app (by rw [← List.length_append]; exact cut5))
          have HL5 := hid (show bs.length + (out ++ o5).length ≤ 4430 + 80 * t + 1 by
            have := hlen.out
            rw [List.length_append] at len5 ⊢
            omega)
          have HW5 := hid wr5; have HB5 := hid b5; have HO5 := hid (hor.out.trans ot5)
          clear cut5 len5 wr5 b5 ot5
          rw [List.append_assoc] at HW5
          go_wp2_with fail
          go_roundw
          case rel => exact ⟨1, out ++ o5, by go_num, by omega, HC5, HL5, HW5, HB5, HO5⟩
          case measure => simp [intOf]; omega
        · have hj0' : (0 : Int) < (j : Int) := by omega
          go_upto_region 13 with fail
          go_wp2_with fail
          refine (wbyte_any _ b _ _ _ _ hwr.out (by rw [Lib.byteCells_length, List.length_append]; have := hlen.out; omega) hbr.out.size).mono ?_
          rintro e4 w4 ⟨rfl, h4, b4, o4⟩
          have H4 := hid (show Wr W0.heap.size b (.pointer (some ⟨sa, 0, none⟩)) (Lib.byteCells (bs ++ (out ++ [44]))) w4 by
            have e : Lib.byteCells (bs ++ (out ++ [44])) = Lib.byteCells (bs ++ out) ++ [.int .u8 44] := by simp [Lib.byteCells]
            rw [e]; exact h4)
          have B4 := hid (hbr.out.trans b4); have O4 := hid (hor.out.trans o4)
          clear h4 b4 o4
          go_wp2_with fail
          refine (HWC.out _ _ B4.out H4.out).mono ?_
          rintro e5 w5 ⟨rfl, o5, cut5, len5, wr5, b5, ot5⟩
          have HC5 := hid (show Cut bs.length (preT xs x (j + 1)) (out ++ ([44] ++ o5)) by
            have e : preT xs x (j + 1) = preT xs x j ++ ([44] ++ showL xs i) := by have := HST.out; rw [if_neg hj0] at this; simpa using this
            rw [e]
            refine hcut.out.app (Cut.app (cut_all _ _) ?_)
            have e : bs.length + out.length + ([44] : List UInt8).length = (bs ++ (out ++ [44])).length := by simp; omega
            rw [e]; exact cut5)
          have HL5 := hid (show bs.length + (out ++ ([44] ++ o5)).length ≤ 4430 + 80 * t + (j + 1) by
            have := hlen.out
            simp only [List.length_append, List.length_cons, List.length_nil] at len5 ⊢
            omega)
          have HW5 := hid wr5; have HB5 := hid b5; have HO5 := hid (O4.out.trans ot5)
          clear cut5 len5 wr5 b5 ot5
          rw [show bs ++ (out ++ [44]) ++ o5 = bs ++ (out ++ ([44] ++ o5)) by simp] at HW5
          go_wp2_with fail
          go_roundw
          case rel => exact ⟨j + 1, out ++ ([44] ++ o5), by go_num, by omega, HC5, HL5, HW5, HB5, HO5⟩
          case measure => simp [intOf]; omega
      · obtain rfl : j = x.l.length := by omega
        have hlt' : ¬ (x.l.length : Int) < (x.l.length : Int) := by omega
        go_wp2_with fail
        refine (wbyte_any _ b _ _ _ _ hwr.out (by rw [Lib.byteCells_length, List.length_append]; have := hlen.out; omega) hbr.out.size).mono ?_
        rintro e4 w4 ⟨rfl, h4, b4, o4⟩
        have H4 := hid h4; have B4 := hid (hbr.out.trans b4); have O4 := hid (hor.out.trans o4)
        clear h4 b4 o4
        go_wp2_with fail
        go_end0
        refine ⟨rfl, out ++ [41], ?_, ?_, ?_, B4.out, O4.out⟩
        · rw [HSH.out]; exact hcut.out.app (cut_all _ _)
        · have := hlen.out
          rw [List.length_append]; simp; omega
        · have e : Lib.byteCells (bs ++ (out ++ [41])) = Lib.byteCells (bs ++ out) ++ [.int .u8 41] := by simp [Lib.byteCells]
          rw [e]; exact H4.out
/-- A writer writes any term of an arena without texts. -/
theorem wt_any (hA : ArV W0 124 sa xs) (hT : Tb W0.heap.size W0) (hno : ∀ x ∈ xs, x.o ≠ 2) : ∀ (N t : Nat), t < N → t < xs.length → WtC W0 sa b xs t := by
  intro N
  induction N with
  | zero => intro t h; omega
  | succ N ih =>
    intro t hN ht bs w hb h
    by_cases hl : 4000 < bs.length
    · exact wt_over W0 sa b t bs w _ _ hb h hl
    have hl' : bs.length ≤ 4000 := by omega
    have hx : xs[t]? = some xs[t] := List.getElem?_eq_getElem ht
    generalize xs[t] = x at hx
    have hm := hA.ok.may t x hx
    have hw := hA.ok.w64 t x hx
    have h2 := hno x (List.mem_of_getElem? hx)
    by_cases h1 : x.o = 1
    · have hn : 0 ≤ x.n := by
        unfold mayB shB at hm
        simp only [Bool.and_eq_true, decide_eq_true_eq] at hm
        exact hm.1.1.1.1.1.2
      exact wt_atom W0 sa b xs t bs w hA hT hb h hl' x hx h1 ⟨by omega, by omega⟩
    · have ho : 3 ≤ x.o ∧ x.o ≤ 12 := by
        unfold mayB shB at hm
        simp only [Bool.and_eq_true] at hm
        have := hm.1.1.1.1.1.1.1
        exact ⟨by have := op_range this; omega, (op_range this).2⟩
      refine wt_node W0 sa b xs t bs w hA hb h hl' x hx x.o.toNat (by omega) (by omega) (by omega) fun y hy => ?_
      unfold mayB at hm
      simp only [Bool.and_eq_true, List.all_eq_true] at hm
      have h3 := has_iff.1 (hm.1.2 y hy)
      rw [List.length_take] at h3
      exact ⟨y.toNat, by omega, by omega, ih y.toNat (by omega) (by omega)⟩
end
end Go.Proofs.YtkgobglmkhkbbaaGreatDoor
