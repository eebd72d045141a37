import Derived.Test.YtkgobglmkhkbbaaGreatDoorZ03
import Derived.Test.YtkgobglmkhkbbaaGreatDoorZ02
import Derived.Deep.RegionHeld3
import Derived.Test.YtkgobglmkhkbbaaGreatDoorZ01
import Derived.Maps.Range
/- term: a writer writes a term (of its texts what a Replacer makes of them). -/
namespace Go.Proofs.YtkgobglmkhkbbaaGreatDoor
open Go.RowKit Go.KK Go.Shelf Go.Maps
set_option linter.unusedVariables false
set_option linter.unusedSimpArgs false

theorem str_cells (l : List UInt8) : Lib.strCells ⟨l.toArray⟩ = Lib.byteCells l := by unfold Lib.strCells Lib.byteCells; simp
theorem str_app (l m : List UInt8) : (⟨l.toArray⟩ : ByteArray) ++ ⟨m.toArray⟩ = ⟨(l ++ m).toArray⟩ := by
  apply str_ext
  rw [ByteArray.data_append, Array.toList_append]
theorem bsz (l : List UInt8) : (⟨l.toArray⟩ : ByteArray).size = l.length := by show l.toArray.size = _; simp
theorem bytes_app (l m : List UInt8) : Lib.byteCells l ++ Lib.byteCells m = Lib.byteCells (l ++ m) := by unfold Lib.byteCells; rw [List.map_append]
theorem itoa_any (n : Int) (hn : I64 n) (w : World) (hT : Tb w.heap.size w) : Calls Tryz.prog 76 #[.int .i64 n] w fun e w' => ∃ S : ByteArray, e = .returned (.string S) ∧ S = ⟨(Lib.itoa n).toArray⟩ ∧ Below w.heap.size w w' := by
  refine (Tryz.strconv_Itoa n hn.1 hn.2 w hT.here).mono ?_
  rintro e w' ⟨rfl, k, os, rfl⟩
  exact ⟨_, rfl, rfl, Lib.below_grow _ _ (Nat.le_refl _) _ _⟩
theorem op_range {o : Int} {n : Nat} (h : lenB o n = true) : 1 ≤ o ∧ o ≤ 12 := by
  unfold lenB at h
  rcases ha : arN o with _ | k
  · rw [ha] at h
    have := eq_of_beq h
    omega
  · unfold arN at ha
    split at ha <;> first | omega | cases ha
/-- What a call that writes a term leaves. -/
def WtS (W0 w : World) (sa b : Nat) (bs : List UInt8) (tgt : List UInt8) (T : Nat) (e : Ending) (w' : World) : Prop :=
  e = .returned (.tuple #[]) ∧ ∃ out, Cut bs.length tgt out ∧ bs.length + out.length ≤ max bs.length T ∧ Wr W0.heap.size b (.pointer (some ⟨sa, 0, none⟩)) (Lib.byteCells (bs ++ out)) w' ∧ Below W0.heap.size W0 w' ∧ Oth b w w'
/-- The writer's call on a term, whatever stands there. -/
def WtC (W0 : World) (sa b : Nat) (xs : List ND) (t : Nat) : Prop := ∀ (bs : List UInt8) (w : World), Below W0.heap.size W0 w → Wr W0.heap.size b (.pointer (some ⟨sa, 0, none⟩)) (Lib.byteCells bs) w →
    Calls Tryz.prog 88 #[.pointer (some ⟨b, 0, none⟩), .int .i64 t] w (WtS W0 w sa b bs (showL xs t) (4500 + 80 * t))
section
variable (W0 : World) (sa b : Nat) (xs : List ND)
/-- Where more than 4000 bytes are there nothing more is written. -/
theorem wt_over (t : Int) (bs : List UInt8) (w : World) (tgt : List UInt8) (T : Nat) (hb : Below W0.heap.size W0 w) (h : Wr W0.heap.size b (.pointer (some ⟨sa, 0, none⟩)) (Lib.byteCells bs) w) (hl : 4000 < bs.length) :
    Calls Tryz.prog 88 #[.pointer (some ⟨b, 0, none⟩), .int .i64 t] w (WtS W0 w sa b bs tgt T) := by
  have HW := hid h; have HB := hid hb
  clear h hb
  have hl' : (4000 : Int) < (bs.length : Int) := by omega
  go_enter Tryz.func88, Tryz.ntmps88
  go_wp2_with fail
  refine (wlen_any _ b _ _ _ HW.out).mono ?_
  rintro e w' ⟨rfl, rfl⟩
  rw [Lib.byteCells_length]
  go_wp2_with fail
  go_end0
  exact ⟨rfl, [], cut_over hl _, by simp; omega, by simpa using HW.out, HB.out, Oth.refl _ _⟩
/-- The cells of a term's node. -/
theorem node_cells {t : Nat} {x : ND} (hA : ArV W0 124 sa xs) (hx : xs[t]? = some x) : ∃ c bn on A' c', ∀ w, Below W0.heap.size W0 w → w.cell? ⟨sa, 0, none⟩ = some (.slice (some ⟨bn, on, none⟩) xs.length c) ∧
    w.cell? ⟨bn, on + t * 4, none⟩ = some (.int .i64 x.o) ∧ w.cell? ⟨bn, on + t * 4 + 1, none⟩ = some (.int .i64 x.n) ∧ w.cell? ⟨bn, on + t * 4 + 2, none⟩ = some (.string x.s) ∧ w.cell? ⟨bn, on + t * 4 + 3, none⟩ = some (.slice A' x.l.length c') ∧ SlA w 1 A' x.l.length c' (x.l.map (.int .i64)) := by
  have htl := (List.getElem?_eq_some_iff.1 hx).1
  obtain ⟨A, c, m, h0, -, hnd⟩ := hA.parts
  obtain ⟨bn, on, y, A', c', rfl, hy, y0, y1, y2, y3, y4⟩ := hnd.at htl
  rw [hx] at hy
  injection hy with hy
  subst hy
  have up : ∀ {w : World} {p : Addr} {v : Value}, Below W0.heap.size W0 w → W0.cell? p = some v → w.cell? p = some v := fun hb h => (hb.cell (p := _) (block_lt_of_cell h)).trans h
  exact ⟨c, bn, on, A', c', fun w hb => ⟨up hb h0, up hb y0, up hb y1, up hb y2, up hb y3, y4.ext hb⟩⟩
set_option maxHeartbeats 2000000 in
set_option maxRecDepth 100000 in
/-- An atom. -/
theorem wt_atom (t : Nat) (bs : List UInt8) (w : World) (hA : ArV W0 124 sa xs) (hT : Tb W0.heap.size W0) (hb : Below W0.heap.size W0 w) (h : Wr W0.heap.size b (.pointer (some ⟨sa, 0, none⟩)) (Lib.byteCells bs) w) (hl : bs.length ≤ 4000) (x : ND) (hx : xs[t]? = some x) (ho : x.o = 1) (hn : I64 x.n) :
    Calls Tryz.prog 88 #[.pointer (some ⟨b, 0, none⟩), .int .i64 t] w (WtS W0 w sa b bs (showL xs t) (4500 + 80 * t)) := by
  have hsh : showL xs t = 35 :: Lib.itoa x.n := by rw [show_at hx]; unfold textOf; rw [if_pos ho]
  have HSH := hid hsh
  have hit : (Lib.itoa x.n).length ≤ 21 := itoa_le x.n hn.1 hn.2
  have HIT := hid hit
  have HW := hid h; have HB := hid hb; have HT := hid hT; have HN := hid hn
  have htl := (List.getElem?_eq_some_iff.1 hx).1
  obtain ⟨c, bn, on, A', c', HC⟩ := node_cells W0 sa xs hA hx
  obtain ⟨h0, y0, y1, y2, y3, -⟩ := HC w hb
  rw [ho] at y0
  have htl' : (t : Int) < (xs.length : Int) := by omega
  have c2 := HW.out.cell2
  have hl' : ¬ (4000 : Int) < (bs.length : Int) := by omega
  clear h hb hT hn hx hsh hit hA HC
  go_enter Tryz.func88, Tryz.ntmps88
  go_wp2_with fail
  refine (wlen_any _ b _ _ _ HW.out).mono ?_
  rintro e w' ⟨rfl, hw⟩
  rw [hw]
  clear hw w'
  rw [Lib.byteCells_length]
  go_upto_region 4 with fail
  have hba := HB.out.alloc HB.out.size (.cells #[.int .i64 1, .int .i64 x.n, .string x.s, .slice A' x.l.length c'] 88)
  have hwa := HW.out.ext ((Below.refl _ _).alloc (Nat.le_refl _) (.cells #[.int .i64 1, .int .i64 x.n, .string x.s, .slice A' x.l.length c'] 88))
  refine forget (R := fun V => (∃ C z, V.heap[w.heap.size]? = some (.cells C 88 z)) ∧ V.cell? ⟨w.heap.size, 1, none⟩ = some (.int .i64 x.n) ∧ Wr W0.heap.size b (.pointer (some ⟨sa, 0, none⟩)) (Lib.byteCells bs) V ∧ Below W0.heap.size W0 V ∧ Oth b w V) ?_ ⟨⟨_, (0, 0), heap_alloc_new w _⟩, by rw [World.cell?_alloc_at _ _ _ _ rfl]; rfl, hwa, hba, Oth.below ((Below.refl _ _).alloc (Nat.le_refl _) _)⟩
  clear hba hwa h0 y0 y1 y2 y3 c2
  rintro V ⟨⟨C1, z1, hn1⟩, q1, hv, hbv, hov⟩
  have HV := hid hv; have HBV := hid hbv; have HOV := hid hov; have HN1 := hid hn1; have Q1 := hid q1
  have hne : w.heap.size ≠ b := by have := HW.out.lt; omega
  have HLT := hid (block_lt_of_cell q1)
  clear hov hn1
  have hs0 : W0.heap.size ≤ V.heap.size := hbv.size
  clear hv hbv HW HB
  have D0 := hid (below_drew (Below.refl V.heap.size V))
  have HCI := hid (fun (U : World) (hb : Below V.heap.size V U) => itoa_any x.n HN.out U (Tb.up (HT.out.on (HBV.out.trans (hb.mono hs0))) (Nat.le_trans hs0 hb.size)))
  go_region_held3 (fun U => U.cell? ⟨w.heap.size, 1, none⟩ = some (.int .i64 x.n)) (first | exact q6 | exact (D5.out.cell (p := ⟨w.heap.size, 1, none⟩) HLT.out).trans Q1.out | exact q1 | go_keep) (first
    | (go_at_call 106; refine (wstr_any _ b _ _ _ _ (HV.out.ext D5.out) (by rw [Lib.byteCells_length, ByteArray.size_append]; have := hz5.out; have : (⟨#[35]⟩ : ByteArray).size = 1 := rfl; omega) (Nat.le_trans hs0 D5.out.size)).mono ?_; rintro e6 w6 ⟨rfl, h6, b6, o6⟩; have H6 := hid h6; have B6 := hid (HBV.out.trans ((D5.out.mono hs0).trans b6)); have O6 := hid (HOV.out.trans ((Oth.below D5.out).trans o6)); have q6 := ((Oth.below D5.out).trans o6).cell HN1.out (by decide) hne Q1.out; clear h6 b6 o6)
    | (go_at_call 76; refine (HCI.out _ D0.out).mono ?_; rintro e5 w5 ⟨S5, rfl, hS5, b5⟩; have D5 := hid (D0.out.trans (b5.mono D0.out.size)); have HS5 := hid hS5; have hz5 := hid (show S5.size ≤ 21 by rw [hS5, bsz]; exact HIT.out); have hcat : ¬ 9223372036854775807 < 1 + S5.size := (by have := hz5.out; omega); clear b5 hS5))
  all_goals
    go_wp2_with fail
    go_end0
    refine ⟨rfl, 35 :: Lib.itoa x.n, HSH.out ▸ cut_all _ _, ?_, ?_, B6.out, O6.out⟩
    · have := HIT.out; simp; omega
    · have h6 := H6.out
      rw [HS5.out] at h6
      rwa [show (⟨#[35]⟩ : ByteArray) = ⟨[35].toArray⟩ from rfl, str_app, str_cells, bytes_app] at h6
theorem name_cell {w : World} {T : TypeId} {k : Nat} (h3 : 3 ≤ k) (h12 : k ≤ 12) :
    (w.alloc (.cells #[.string ⟨#[]⟩, .string ⟨#[]⟩, .string ⟨#[]⟩, .string ⟨#[108, 105, 115, 116]⟩, .string ⟨#[104, 97, 115, 104]⟩, .string ⟨#[109, 105, 120]⟩, .string ⟨#[107, 101, 121]⟩, .string ⟨#[112, 117, 98]⟩, .string ⟨#[115, 101, 97, 108]⟩, .string ⟨#[101, 110, 99]⟩, .string ⟨#[115, 105, 103]⟩, .string ⟨#[109, 97, 99]⟩, .string ⟨#[98, 108, 105, 110, 100]⟩] T)).cell? ⟨w.heap.size, k, none⟩ = some (.string ⟨(nameB (k : Int)).toArray⟩) := by
  rw [World.cell?_alloc_at _ _ _ _ rfl]
  have : k = 3 ∨ k = 4 ∨ k = 5 ∨ k = 6 ∨ k = 7 ∨ k = 8 ∨ k = 9 ∨ k = 10 ∨ k = 11 ∨ k = 12 := by omega
  rcases this with rfl | rfl | rfl | rfl | rfl | rfl | rfl | rfl | rfl | rfl <;> rfl
/-- The parts' texts, up to the j-th. -/
def preT (xs : List ND) (x : ND) (j : Nat) : List UInt8 := nameB x.o ++ 40 :: joinC ((x.l.take j).map fun y => showL xs y.toNat)
theorem preT_zero (xs : List ND) (x : ND) : preT xs x 0 = nameB x.o ++ [40] := rfl
theorem preT_step {xs : List ND} {x : ND} {j : Nat} {y : Int} (h : x.l[j]? = some y) : preT xs x (j + 1) = preT xs x j ++ ((if j = 0 then [] else [44]) ++ showL xs y.toNat) := by
  unfold preT
  rw [take_one h, List.map_append, List.map_singleton, joinC_snoc]
  by_cases hj : j = 0
  · subst hj; simp [joinC]
  · have hl := (List.getElem?_eq_some_iff.1 h).1
    rw [if_neg (by
      intro e
      rw [List.map_eq_nil_iff, List.take_eq_nil_iff] at e
      rcases e with e | e
      · omega
      · rw [e] at hl; simp at hl), if_neg hj]
    simp
theorem preT_end {xs : List ND} (ok : Okay xs) {t : Nat} {x : ND} (hx : xs[t]? = some x) (h1 : x.o ≠ 1) (h2 : x.o ≠ 2) : showL xs t = preT xs x x.l.length ++ [41] := by
  rw [show_parts ok hx h1 h2]
  unfold preT
  rw [List.take_length]
  simp
set_option maxHeartbeats 4000000 in
set_option maxRecDepth 100000 in
/-- A node of parts. -/
theorem wt_node (t : Nat) (bs : List UInt8) (w : World) (hA : ArV W0 124 sa xs) (hb : Below W0.heap.size W0 w) (h : Wr W0.heap.size b (.pointer (some ⟨sa, 0, none⟩)) (Lib.byteCells bs) w) (hl : bs.length ≤ 4000) (x : ND) (hx : xs[t]? = some x) (k : Nat) (ho : x.o = (k : Int)) (h3 : 3 ≤ k) (h12 : k ≤ 12)
    (ih : ∀ y ∈ x.l, ∃ j : Nat, y = (j : Int) ∧ j < t ∧ WtC W0 sa b xs j) :
    Calls Tryz.prog 88 #[.pointer (some ⟨b, 0, none⟩), .int .i64 t] w (WtS W0 w sa b bs (showL xs t) (4500 + 80 * t)) := by
  have hok := hA.ok
  have htl := (List.getElem?_eq_some_iff.1 hx).1
  have HSH := hid (preT_end hok hx (by omega) (by omega))
  have hxl : x.l.length ≤ 64 := by
    have := hok.may t x hx
    unfold mayB shB at this
    simp only [Bool.and_eq_true, decide_eq_true_eq] at this
    exact this.1.1.1.1.1.1.2
  have hxn : xs.length ≤ 100000 := hok.len
  have HW := hid h; have HB := hid hb; have IH := hid ih
  obtain ⟨c, bn, on, A', c', HC⟩ := node_cells W0 sa xs hA hx
  obtain ⟨h0, y0, y1, y2, y3, -⟩ := HC w hb
  rw [ho] at y0
  have htl' : (t : Int) < (xs.length : Int) := by omega
  have c2 := HW.out.cell2
  have hl' : ¬ (4000 : Int) < (bs.length : Int) := by omega
  have hk1 : ((k : Int) == 1) = false := beq_eq_false_iff_ne.2 (by omega)
  have hk2 : ((k : Int) == 2) = false := beq_eq_false_iff_ne.2 (by omega)
  have HCC := hid HC
  have HO := hid ho
  clear h hb hx hA HC ih ho
  go_enter Tryz.func88, Tryz.ntmps88
  go_wp2_with fail
  refine (wlen_any _ b _ _ _ HW.out).mono ?_
  rintro e w' ⟨rfl, hw⟩
  rw [hw]
  clear hw w'
  rw [Lib.byteCells_length]
  go_upto_region 8 with fail
  have hs0 := HB.out.size
  have hbw := HW.out.lt
  refine forget (R := fun V => (∃ C1 z1 C2 z2, V.heap[w.heap.size]? = some (.cells C1 88 z1) ∧ V.heap[w.heap.size + 1]? = some (.cells C2 149 z2)) ∧ V.cell? ⟨w.heap.size, 0, none⟩ = some (.int .i64 k) ∧ V.cell? ⟨w.heap.size, 3, none⟩ = some (.slice A' x.l.length c') ∧ V.cell? ⟨w.heap.size + 1, k, none⟩ = some (.string ⟨(nameB (k : Int)).toArray⟩) ∧ Wr W0.heap.size b (.pointer (some ⟨sa, 0, none⟩)) (Lib.byteCells bs) V ∧ Below W0.heap.size W0 V ∧ Oth b w V) ?_ ⟨?_, ?_, ?_, ?_, ?_, ?_, ?_⟩
  rotate_left
  · have h2 := heap_alloc_new (w.alloc (.cells #[.int .i64 k, .int .i64 x.n, .string x.s, .slice A' x.l.length c'] 88)) (.cells #[.string ⟨#[]⟩, .string ⟨#[]⟩, .string ⟨#[]⟩, .string ⟨#[108, 105, 115, 116]⟩, .string ⟨#[104, 97, 115, 104]⟩, .string ⟨#[109, 105, 120]⟩, .string ⟨#[107, 101, 121]⟩, .string ⟨#[112, 117, 98]⟩, .string ⟨#[115, 101, 97, 108]⟩, .string ⟨#[101, 110, 99]⟩, .string ⟨#[115, 105, 103]⟩, .string ⟨#[109, 97, 99]⟩, .string ⟨#[98, 108, 105, 110, 100]⟩] 149)
    rw [show (w.alloc (.cells #[.int .i64 k, .int .i64 x.n, .string x.s, .slice A' x.l.length c'] 88)).heap.size = w.heap.size + 1 by simp] at h2
    exact ⟨_, (0, 0), _, (0, 0), (heap_alloc_old _ _ (by simp)).trans (heap_alloc_new w _), h2⟩
  · rw [World.cell?_alloc_old _ _ _ (by simp), World.cell?_alloc_at _ _ _ _ rfl]; rfl
  · rw [World.cell?_alloc_old _ _ _ (by simp), World.cell?_alloc_at _ _ _ _ rfl]; rfl
  · have := name_cell (w := w.alloc (.cells #[.int .i64 k, .int .i64 x.n, .string x.s, .slice A' x.l.length c'] 88)) (T := 149) h3 h12
    rw [show (w.alloc (.cells #[.int .i64 k, .int .i64 x.n, .string x.s, .slice A' x.l.length c'] 88)).heap.size = w.heap.size + 1 by simp] at this
    exact this
  · exact (HW.out.ext ((Below.refl _ _).alloc (Nat.le_refl _) _)).ext ((Below.refl _ _).alloc (Nat.le_refl _) _)
  · exact (HB.out.alloc HB.out.size _).alloc (by simp; omega) _
  · exact Oth.below (((Below.refl _ _).alloc (Nat.le_refl _) _).alloc (by simp) _)
  clear h0 y0 y1 y2 y3 c2
  rintro V ⟨⟨C1, z1, C2, z2, hb1, hb2⟩, q0, q3, q1, hv, hbv, hov⟩
  have HV := hid hv; have HBV := hid hbv; have HOV := hid hov; have HN1 := hid hb1; have HN2 := hid hb2
  have hsV : W0.heap.size ≤ V.heap.size := hbv.size
  clear hv hbv HW HB hov hb1 hb2
  have D0 := hid (below_drew (Below.refl V.heap.size V))
  have hk0 : (0 : Int) ≤ (k : Int) := by omega
  have hk13 : (k : Int) < 13 := by omega
  have HNL := hid (nameB_len (k : Int))
  obtain ⟨NM, hNM⟩ : ∃ NM : ByteArray, NM = ⟨(nameB (k : Int)).toArray⟩ := ⟨_, rfl⟩
  rw [← hNM] at q1
  have HNM := hid hNM
  have hNMs : ¬ 9223372036854775807 < NM.size + 1 := by
    have : NM.size ≤ 5 := by rw [hNM, bsz]; exact HNL.out
    omega
  clear hNM
  have Q3 := hid q3; have Q0 := hid q0; have Q1 := hid q1
  have hne : w.heap.size ≠ b := by omega
  have hne2 : w.heap.size + 1 ≠ b := by omega
  go_region_held3 (fun U => U.cell? ⟨w.heap.size, 0, none⟩ = some (.int .i64 k) ∧ U.cell? ⟨w.heap.size + 1, k, none⟩ = some (.string NM)) (first | exact ⟨q06, q16⟩ | exact ⟨q0, q1⟩ | go_keep) (first
    | (go_at_call 106; refine (wstr_any _ b _ _ _ _ (HV.out.ext D0.out) (by rw [Lib.byteCells_length, ByteArray.size_append, HNM.out, bsz]; have := HNL.out; have : (⟨#[40]⟩ : ByteArray).size = 1 := rfl; omega) (Nat.le_trans hsV D0.out.size)).mono ?_; rintro e6 w6 ⟨rfl, h6, b6, o6⟩; have H6 := hid h6; have B6 := hid (HBV.out.trans ((D0.out.mono hsV).trans b6)); have O6 := hid (HOV.out.trans ((Oth.below D0.out).trans o6)); have q6 := o6.cell HN1.out (by decide) hne Q3.out; have q06 := o6.cell HN1.out (by decide) hne Q0.out; have q16 := o6.cell HN2.out (by decide) hne2 Q1.out; clear h6 b6 o6))
  all_goals
    have hpre : Wr W0.heap.size b (.pointer (some ⟨sa, 0, none⟩)) (Lib.byteCells (bs ++ preT xs x 0)) w6 := by
      have h6 := H6.out
      rw [HNM.out, show (⟨#[40]⟩ : ByteArray) = ⟨[40].toArray⟩ from rfl, str_app, str_cells, bytes_app] at h6
      rw [preT_zero, HO.out]; exact h6
    have HP := hid hpre
    have HNL' := hid (show (preT xs x 0).length ≤ 6 by rw [preT_zero, HO.out, List.length_append]; have := HNL.out; simp; omega)
    clear hpre H6 HV HBV HOV HN1 HN2 q0 q1 q3 Q3 Q0 Q1 D0 q06 q16
    go_upto_region 10 with fail
    clear q6
    go_loopw [61] (fun v wr => ∃ (j : Nat) (out : List UInt8), v = .int .i64 j ∧ j ≤ x.l.length ∧ Hid (Cut bs.length (preT xs x j) out) ∧ Hid (bs.length + out.length ≤ 4430 + 80 * t + j) ∧ Hid (Wr W0.heap.size b (.pointer (some ⟨sa, 0, none⟩)) (Lib.byteCells (bs ++ out)) wr) ∧ Hid (Below W0.heap.size W0 wr) ∧ Hid (Oth b w wr)) (fun v _ => x.l.length - (intOf v).toNat)
    case atStart => exact ⟨0, preT xs x 0, rfl, Nat.zero_le _, hid (cut_all _ _), hid (by have := HNL'.out; omega), HP, B6, O6⟩
    case round =>
      clear HP B6 O6 HNL'
      obtain ⟨j, out, hv, hj, hcut, hlen, hwr, hbr, hor⟩ := hrel
      subst hv
      by_cases hlt : j < x.l.length
      · have hlt' : (j : Int) < (x.l.length : Int) := by omega
        obtain ⟨bq, oq, y, rfl, hy, hcy⟩ := (HCC.out wr hbr.out).2.2.2.2.2.elemI hlt
        obtain ⟨i, rfl, hit, hwc⟩ := IH.out y (List.mem_of_getElem? hy)
        have HWC := hid hwc
        have HST := hid (preT_step (xs := xs) hy)
        clear hwc hy
        by_cases hj0 : j = 0
        · subst hj0
          rw [Nat.add_zero] at hcy
          go_upto_region 14 with fail
          go_wp2_with fail
          refine (HWC.out _ _ hbr.out hwr.out).mono ?_
          rintro e5 w5 ⟨rfl, o5, cut5, len5, wr5, b5, ot5⟩
          have HC5 := hid (show Cut bs.length (preT xs x 1) (out ++ o5) by
            have e : preT xs x 1 = preT xs x 0 ++ showL xs i := by have := HST.out; simpa using this
            rw [e]
            exact hcut.out.app (by rw [← List.length_append]; exact cut5))
          have HL5 := hid (show bs.length + (out ++ o5).length ≤ 4430 + 80 * t + 1 by
            have := hlen.out
            rw [List.length_append] at len5 ⊢
            omega)
          have HW5 := hid wr5; have HB5 := hid b5; have HO5 := hid (hor.out.trans ot5)
          clear cut5 len5 wr5 b5 ot5
          rw [List.append_assoc] at HW5
          go_wp2_with fail
          go_roundw
          case rel => exact ⟨1, out ++ o5, by go_num, by omega, HC5, HL5, HW5, HB5, HO5⟩
          case measure => simp [intOf]; omega
        · have hj0' : (0 : Int) < (j : Int) := by omega
          go_upto_region 13 with fail
          go_wp2_with fail
          refine (wbyte_any _ b _ _ _ _ hwr.out (by rw [Lib.byteCells_length, List.length_append]; have := hlen.out; omega) hbr.out.size).mono ?_
          rintro e4 w4 ⟨rfl, h4, b4, o4⟩
          have H4 := hid (show Wr W0.heap.size b (.pointer (some ⟨sa, 0, none⟩)) (Lib.byteCells (bs ++ (out ++ [44]))) w4 by
            have e : Lib.byteCells (bs ++ (out ++ [44])) = Lib.byteCells (bs ++ out) ++ [.int .u8 44] := by simp [Lib.byteCells]
            rw [e]; exact h4)
          have B4 := hid (hbr.out.trans b4); have O4 := hid (hor.out.trans o4)
          clear h4 b4 o4
          go_wp2_with fail
          refine (HWC.out _ _ B4.out H4.out).mono ?_
          rintro e5 w5 ⟨rfl, o5, cut5, len5, wr5, b5, ot5⟩
          have HC5 := hid (show Cut bs.length (preT xs x (j + 1)) (out ++ ([44] ++ o5)) by
            have e : preT xs x (j + 1) = preT xs x j ++ ([44] ++ showL xs i) := by have := HST.out; rw [if_neg hj0] at this; simpa using this
            rw [e]
            refine hcut.out.app (Cut.app (cut_all _ _) ?_)
            have e : bs.length + out.length + ([44] : List UInt8).length = (bs ++ (out ++ [44])).length := by simp; omega
            rw [e]; exact cut5)
          have HL5 := hid (show bs.length + (out ++ ([44] ++ o5)).length ≤ 4430 + 80 * t + (j + 1) by
            have := hlen.out
            simp only [List.length_append, List.length_cons, List.length_nil] at len5 ⊢
            omega)
          have HW5 := hid wr5; have HB5 := hid b5; have HO5 := hid (O4.out.trans ot5)
          clear cut5 len5 wr5 b5 ot5
          rw [show bs ++ (out ++ [44]) ++ o5 = bs ++ (out ++ ([44] ++ o5)) by simp] at HW5
          go_wp2_with fail
          go_roundw
          case rel => exact ⟨j + 1, out ++ ([44] ++ o5), by go_num, by omega, HC5, HL5, HW5, HB5, HO5⟩
          case measure => simp [intOf]; omega
      · obtain rfl : j = x.l.length := by omega
        have hlt' : ¬ (x.l.length : Int) < (x.l.length : Int) := by omega
        go_wp2_with fail
        refine (wbyte_any _ b _ _ _ _ hwr.out (by rw [Lib.byteCells_length, List.length_append]; have := hlen.out; omega) hbr.out.size).mono ?_
        rintro e4 w4 ⟨rfl, h4, b4, o4⟩
        have H4 := hid h4; have B4 := hid (hbr.out.trans b4); have O4 := hid (hor.out.trans o4)
        clear h4 b4 o4
        go_wp2_with fail
        go_end0
        refine ⟨rfl, out ++ [41], ?_, ?_, ?_, B4.out, O4.out⟩
        · rw [HSH.out]; exact hcut.out.app (cut_all _ _)
        · have := hlen.out
          rw [List.length_append]; simp; omega
        · have e : Lib.byteCells (bs ++ (out ++ [41])) = Lib.byteCells (bs ++ out) ++ [.int .u8 41] := by simp [Lib.byteCells]
          rw [e]; exact H4.out
/-- A writer writes any term of an arena without texts. -/
theorem wt_any (hA : ArV W0 124 sa xs) (hT : Tb W0.heap.size W0) (hno : ∀ x ∈ xs, x.o ≠ 2) : ∀ (N t : Nat), t < N → t < xs.length → WtC W0 sa b xs t := by
  intro N
  induction N with
  | zero => intro t h; omega
  | succ N ih =>
    intro t hN ht bs w hb h
    by_cases hl : 4000 < bs.length
    · exact wt_over W0 sa b t bs w _ _ hb h hl
    have hl' : bs.length ≤ 4000 := by omega
    have hx : xs[t]? = some xs[t] := List.getElem?_eq_getElem ht
    generalize xs[t] = x at hx
    have hm := hA.ok.may t x hx
    have hw := hA.ok.w64 t x hx
    have h2 := hno x (List.mem_of_getElem? hx)
    by_cases h1 : x.o = 1
    · have hn : 0 ≤ x.n := by
        unfold mayB shB at hm
        simp only [Bool.and_eq_true, decide_eq_true_eq] at hm
        exact hm.1.1.1.1.1.2
      exact wt_atom W0 sa b xs t bs w hA hT hb h hl' x hx h1 ⟨by omega, by omega⟩
    · have ho : 3 ≤ x.o ∧ x.o ≤ 12 := by
        unfold mayB shB at hm
        simp only [Bool.and_eq_true] at hm
        have := hm.1.1.1.1.1.1.1
        exact ⟨by have := op_range this; omega, (op_range this).2⟩
      refine wt_node W0 sa b xs t bs w hA hb h hl' x hx x.o.toNat (by omega) (by omega) (by omega) fun y hy => ?_
      unfold mayB at hm
      simp only [Bool.and_eq_true, List.all_eq_true] at hm
      have h3 := has_iff.1 (hm.1.2 y hy)
      rw [List.length_take] at h3
      exact ⟨y.toNat, by omega, by omega, ih y.toNat (by omega) (by omega)⟩
end
end Go.Proofs.YtkgobglmkhkbbaaGreatDoor

/- Rows of cells in words (of no program). -/
namespace Go.KK
open Go.RowKit
set_option linter.unusedVariables false
set_option linter.unusedSimpArgs false

/-- A list with another one stored over it. -/
def setL (L : List Value) : Nat → List Value → List Value
  | _, [] => L
  | o, v :: r => setL (L.set o v) (o + 1) r
theorem setL_len : ∀ (vs : List Value) (o : Nat) (L : List Value), (setL L o vs).length = L.length
  | [], _, _ => rfl
  | v :: r, o, L => by rw [setL, setL_len r]; simp
theorem setL_get : ∀ (vs : List Value) (o : Nat) (L : List Value) (j : Nat), o + vs.length ≤ L.length → (setL L o vs)[j]? = if o ≤ j ∧ j < o + vs.length then vs[j - o]? else L[j]?
  | [], o, L, j, h => by
    rw [setL, if_neg (show ¬ (o ≤ j ∧ j < o + ([] : List Value).length) by rw [List.length_nil]; omega)]
  | v :: r, o, L, j, h => by
    have h' : o + (r.length + 1) ≤ L.length := by simpa using h
    rw [setL, setL_get r (o + 1) (L.set o v) j (by simp; omega), List.length_cons]
    by_cases h1 : j = o
    · subst h1
      rw [if_neg (by omega), if_pos (by omega), List.getElem?_set_self (by omega), Nat.sub_self]; rfl
    · by_cases h2 : o ≤ j ∧ j < o + (r.length + 1)
      · rw [if_pos (by omega), if_pos h2, show j - o = (j - (o + 1)) + 1 by omega, List.getElem?_cons_succ]
      · rw [if_neg (by omega), if_neg h2, List.getElem?_set_ne (by omega)]

section
variable {w : World} {base : Nat} {e : TypeId} {g n cap : Nat} {xs : List Value}
theorem own_full (h : w.ownsRow base e 1 (.slice (some ⟨g, 0, none⟩) n cap) n xs) : ∃ L : List Value, w.ownsRow base e 1 (.slice (some ⟨g, 0, none⟩) cap cap) cap L ∧ L.length = cap ∧ L.take n = xs ∧ n ≤ cap ∧ cap ≤ maxLen := by
  rcases h.2 with ⟨h', _⟩ | ⟨g', cap', cur, h', hb, hg, hnc, hcm, hcs, htake⟩
  · simp at h'
  · simp only [Value.slice.injEq, Option.some.injEq, Addr.mk.injEq, and_true, true_and] at h'
    obtain ⟨rfl, rfl⟩ := h'
    have hl : cur.toList.length = cap := by simpa using hcs
    exact ⟨cur.toList, ⟨by rw [hl]; omega, .inr ⟨g, cap, cur, rfl, hb, hg, Nat.le_refl _, hcm, hcs, List.take_of_length_le (by omega)⟩⟩, hl, by rw [← htake]; simp, hnc, hcm⟩
theorem own_part {L : List Value} (h : w.ownsRow base e 1 (.slice (some ⟨g, 0, none⟩) cap cap) cap L) (hn : n ≤ cap) : w.ownsRow base e 1 (.slice (some ⟨g, 0, none⟩) n cap) n (L.take n) := by
  rcases h.2 with ⟨h', _⟩ | ⟨g', cap', cur, h', hb, hg, hnc, hcm, hcs, htake⟩
  · simp at h'
  · simp only [Value.slice.injEq, Option.some.injEq, Addr.mk.injEq, and_true, true_and] at h'
    obtain ⟨rfl, rfl⟩ := h'
    have hl : cur.toList.length = cap := by simpa using hcs
    have hL : L = cur.toList := by rw [← htake]; exact List.take_of_length_le (by omega)
    subst hL
    exact ⟨by rw [List.length_take, hl, Nat.min_eq_left hn]; omega, .inr ⟨g, cap, cur, rfl, hb, hg, hn, hcm, hcs, by rw [Nat.mul_one]⟩⟩
theorem own_made {cur : Array Value} (hb : base ≤ w.heap.size) (hm : cap ≤ maxLen) (hs : cur.size = cap) :
    (w.alloc (.cells cur e)).ownsRow base e 1 (.slice (some ⟨w.heap.size, 0, none⟩) cap cap) cap cur.toList :=
  ⟨by simpa using hs, .inr ⟨w.heap.size, cap, cur, rfl, hb, heap_alloc_new w _, Nat.le_refl _, hm, by omega, List.take_of_length_le (by simpa using by omega)⟩⟩
theorem own_setCells : ∀ (vs : List Value) (o : Nat) (w : World) (L : List Value), w.ownsRow base e 1 (.slice (some ⟨g, 0, none⟩) n cap) n L → (w.setCells g o vs).ownsRow base e 1 (.slice (some ⟨g, 0, none⟩) n cap) n (setL L o vs)
  | [], _, _, _, h => h
  | v :: r, o, w, L, h => by
    rw [World.setCells, setL]
    exact own_setCells r (o + 1) _ _ (h.stored o v).1
end
theorem grown_setCells {a : World} {g : Nat} : ∀ (vs : List Value) (o : Nat) (w : World), a.grownBy w (some g) → a.grownBy (w.setCells g o vs) (some g)
  | [], _, _, h => h
  | v :: r, o, w, h => by
    rw [World.setCells]
    exact grown_setCells r (o + 1) _ ⟨h.os, h.tape, h.output, by simpa [World.setCell] using h.size, fun i hi hne => (Below.heap_setCell w ⟨g, o, none⟩ v i (by rintro rfl; exact hne rfl)).trans (h.block i hi hne)⟩
theorem grown_drew {a w : World} {r : Option Nat} (h : a.grownBy w r) : a.grownBy w.drew r := ⟨h.os, h.tape, h.output, h.size, h.block⟩
theorem grown_drewN {a w : World} {r : Option Nat} (h : a.grownBy w r) (k : Nat) : a.grownBy (w.drewN k) r := ⟨h.os, h.tape, h.output, h.size, h.block⟩
theorem grown_undrew {a w : World} {r : Option Nat} (h : a.drew.grownBy w r) : a.grownBy w r := ⟨h.os, h.tape, h.output, h.size, h.block⟩
theorem below_grown {a w : World} (h : a.grownBy w none) : Below a.heap.size a w := ⟨h.os, h.tape, h.output, h.size, fun i hi => h.block i hi (by simp)⟩

/-- A number put in at its place. -/
def insL (u : List Int) (i : Nat) (x : Int) : List Int := u.take i ++ x :: u.drop i
theorem insL_len (u : List Int) (i : Nat) (x : Int) (h : i ≤ u.length) : (insL u i x).length = u.length + 1 := by
  unfold insL; simp; omega
theorem insL_get {u : List Int} {i : Nat} (x : Int) (h : i ≤ u.length) (j : Nat) : ((insL u i x).map (Value.int .i64))[j]? = if j < i then (u.map (Value.int .i64))[j]? else if j = i then some (Value.int .i64 x) else (u.map (Value.int .i64))[j - 1]? := by
  unfold insL
  rw [List.map_append, List.map_cons, List.map_take, List.map_drop]
  have hl : ((u.map (Value.int .i64)).take i).length = i := by simp; omega
  by_cases h1 : j < i
  · rw [if_pos h1, List.getElem?_append_left (by omega), List.getElem?_take, if_pos h1]
  · rw [if_neg h1, List.getElem?_append_right (by omega), hl]
    by_cases h2 : j = i
    · subst h2; simp
    · rw [if_neg h2, show j - i = (j - 1 - i) + 1 by omega, List.getElem?_cons_succ, List.getElem?_drop, show i + (j - 1 - i) = j - 1 by omega]

end Go.KK

/- term: what is carried from call to call: an arena, a row of numbers. -/
namespace Go.Proofs.YtkgobglmkhkbbaaGreatDoor
open Go.RowKit Go.KK Go.Shelf Go.Maps
set_option linter.unusedVariables false
set_option linter.unusedSimpArgs false

/-- The law's arena, and what the call has left alone. -/
structure LA (w0 W : World) (Z : Nat → Prop) (sa : Nat) (xs : List ND) : Prop where
  ar : AR W Z sa xs
  z : ∀ b, Z b → w0.heap.size ≤ b
  bl : Below w0.heap.size w0 W
/-- From one world to the next. -/
structure Mv (Z : Nat → Prop) (W : World) (Z' : Nat → Prop) (W' : World) : Prop where
  t : Turn Z W W'
  n : ∀ b, Z' b → Z b ∨ W.heap.size ≤ b
theorem Mv.below {Z : Nat → Prop} {W W' : World} (hb : Below W.heap.size W W') : Mv Z W Z W' := ⟨.of_below hb, fun _ h => .inl h⟩
section
variable {w0 W W' : World} {Z Z' : Nat → Prop} {sa : Nat} {xs xs' : List ND}
theorem LA.mv (h : LA w0 W Z sa xs) (m : Mv Z W Z' W') (ha : AR W' Z' sa xs') : LA w0 W' Z' sa xs' :=
  ⟨ha, fun b hb => (m.n b hb).elim (h.z b) fun h' => Nat.le_trans h.bl.size h', h.bl.trans (m.t.below h.z h.bl.size)⟩
theorem LA.ext (h : LA w0 W Z sa xs) (hb : Below W.heap.size W W') : LA w0 W' Z sa xs := h.mv (.below hb) (h.ar.ext hb)
theorem LA.alloc (h : LA w0 W Z sa xs) (o : Obj) : LA w0 (W.alloc o) Z sa xs := h.ext ((Below.refl _ _).alloc (Nat.le_refl _) o)
theorem LA.sz (h : LA w0 W Z sa xs) : w0.heap.size ≤ W.heap.size := h.bl.size
theorem l_mke (h : LA w0 W Z sa xs) (hT : Tb w0.heap.size w0) {x : ND} {A : Option Addr} {c : Nat} (hl : SlA W 1 A x.l.length c (x.l.map (.int .i64))) (hx : NdI x) :
    Calls Tryz.prog 57 #[.pointer (some ⟨sa, 0, none⟩), .agg #[.int .i64 x.o, .int .i64 x.n, .string x.s, .slice A x.l.length c]] W fun e w' => ∃ Z', e = .returned (.tuple #[.int .i64 (makI xs x), .int .i64 (makE xs x)]) ∧ LA w0 w' Z' sa (makT xs x) ∧ Mv Z W Z' w' := by
  refine (mke_any Z sa xs w0.heap.size W x A c h.ar hl (hT.on h.bl) h.bl.size hx).mono ?_
  rintro e w' ⟨rfl, Z', h1, h2, h3⟩
  exact ⟨Z', rfl, h.mv ⟨h2, h3⟩ h1, ⟨h2, h3⟩⟩
end
/-- A row of numbers of the call's own. -/
abbrev RowI (W : World) (b0 : Nat) (v : Value) (l : List Int) : Prop := W.ownsRow b0 3 1 v l.length (l.map (.int .i64))
/-- The arena and a row. -/
structure T1 (w W : World) (sa : Nat) (Z : Nat → Prop) (X : List ND) (nv : Value) (ns : List Int) : Prop where
  la : LA w W Z sa X
  nr : RowI W w.heap.size nv ns
  na : ∀ b, nv.ownBlock = some b → ¬ Z b
section
variable {w W W' : World} {sa : Nat} {Z Z' : Nat → Prop} {X X' : List ND} {nv : Value} {ns : List Int}
theorem T1.ext (h : T1 w W sa Z X nv ns) (hb : Below W.heap.size W W') : T1 w W' sa Z X nv ns := ⟨h.la.ext hb, own_ext h.nr hb, h.na⟩
theorem T1.mv (h : T1 w W sa Z X nv ns) (hl : LA w W' Z' sa X') (hv : Mv Z W Z' W') : T1 w W' sa Z' X' nv ns where
  la := hl
  nr := own_block h.nr fun b hb => hv.t.block b (h.nr.lt b hb).2 (h.na b hb)
  na := fun b hb hz => (hv.n b hz).elim (h.na b hb) fun h' => by have := (h.nr.lt b hb).2; omega
theorem T1.app (h : T1 w W sa Z X nv ns) {nv' : Value} {ns' : List Int} (hn : RowI W' w.heap.size nv' ns') (hg : W.grownBy W' nv.ownBlock) (hl : nv'.ownBlock = nv.ownBlock ∨ nv'.ownBlock = some W.heap.size) : T1 w W' sa Z X nv' ns' := by
  have ht : Turn (fun b => nv.ownBlock = some b) W W' := Turn.grown hg fun b hb => .inl hb
  refine ⟨⟨h.la.ar.turn ht (fun b hz e => h.na b e hz), h.la.z, h.la.bl.trans (ht.below (fun b e => (h.nr.lt b e).1) h.la.sz)⟩, hn, fun b hb => ?_⟩
  rcases hl with hl | hl
  · exact h.na b (hl ▸ hb)
  · rw [hl] at hb
    injection hb with hb
    subst hb
    intro hz
    have := h.la.ar.zlt _ hz
    omega
theorem t1_nil (h : LA w W Z sa X) : T1 w W sa Z X (.slice none 0 0) [] := ⟨h, World.ownsRow_nil _ _ _ _, fun b hb => by cases hb⟩
end
/-- A number more at a row's end. -/
theorem rowI_snoc {W : World} {b0 : Nat} {v : Value} {l : List Int} {x : Int} (h : W.ownsRow b0 3 1 v (l.length + 1) (l.map (.int .i64) ++ [.int .i64 x])) : RowI W b0 v (l ++ [x]) := by
  unfold RowI
  rw [List.length_append, List.map_append]
  exact h
theorem rowI_at {W : World} {b0 b o n c : Nat} {l : List Int} {i : Nat} {x : Int} (h : W.ownsRow b0 3 1 (.slice (some ⟨b, o, none⟩) n c) l.length (l.map (.int .i64))) (hx : l[i]? = some x) : W.cell? ⟨b, o + i, none⟩ = some (.int .i64 x) := by
  obtain ⟨b', off, e, hc⟩ := (SlA.of_own h).2.cells i (.int .i64 x) (by rw [List.getElem?_map, hx]; rfl)
  injection e with e
  injection e with e1 e2
  subst e1; subst e2
  exact hc
end Go.Proofs.YtkgobglmkhkbbaaGreatDoor

/- term: Show (without a law's live). -/
namespace Go.Proofs.YtkgobglmkhkbbaaGreatDoor
open Go.RowKit Go.KK Go.Shelf Go.Maps
set_option linter.unusedVariables false
set_option linter.unusedSimpArgs false

/-- A term's text, or why there is none. -/
def showF (xs : List ND) (t : Int) : List UInt8 × Int := if hasB xs t then (if (showL xs t.toNat).length ≤ 4000 then (showL xs t.toNat, 0) else ([], 2)) else ([], 4)
theorem show_ne {xs : List ND} (ok : Okay xs) {t : Nat} (h : t < xs.length) : showL xs t ≠ [] := by
  have hx : xs[t]? = some xs[t] := List.getElem?_eq_getElem h
  generalize xs[t] = x at hx
  rw [show_at hx]
  unfold textOf
  split
  · simp
  · split
    · simp
    · simp
set_option maxHeartbeats 2000000 in
set_option maxRecDepth 100000 in
theorem show_any (sa : Nat) (xs : List ND) (w : World) (hA : ArV w 124 sa xs) (hT : Tb w.heap.size w) (hno : ∀ x ∈ xs, x.o ≠ 2) (t : Int) :
    Calls Tryz.prog 54 #[.pointer (some ⟨sa, 0, none⟩), .int .i64 t] w fun e w' => e = .returned (.tuple #[.string ⟨(showF xs t).1.toArray⟩, .int .i64 (showF xs t).2]) ∧ Below w.heap.size w w' := by
  have H := hid hA
  rcases hh : hasB xs t with _ | _
  · have HF := hid (show showF xs t = ([], 4) by unfold showF; rw [hh]; rfl)
    clear hA hT
    go_enter Tryz.func54, Tryz.ntmps54
    go_wp2_with fail
    refine (has_any sa xs t _ H.out).mono ?_
    rintro e w' ⟨rfl, hw⟩
    subst hw
    rw [hh]
    go_wp2_with fail
    go_ret2
    exact ⟨by first | (rw [HF.out]; rfl) | rfl, Below.refl _ _⟩
  · have h2 := has_iff.1 hh
    obtain ⟨j, rfl⟩ := Int.eq_ofNat_of_zero_le h2.1
    have hj : j < xs.length := by omega
    have HF := hid (show showF xs (j : Int) = if (showL xs j).length ≤ 4000 then (showL xs j, 0) else ([], 2) by unfold showF; rw [hh]; rfl)
    have HWT := hid (wt_any w sa w.heap.size xs hA hT hno (j + 1) j (by omega) hj)
    have HNE := hid (show_ne hA.ok hj)
    have HWN := hid (wr_new w (.pointer (some ⟨sa, 0, none⟩)))
    have HB1 := hid (show Below w.heap.size w (w.alloc (.cells #[.pointer none, .slice none 0 0, .pointer (some ⟨sa, 0, none⟩)] 132)) from (Below.refl _ _).alloc (Nat.le_refl _) _)
    clear hA hT h2
    go_enter Tryz.func54, Tryz.ntmps54
    go_wp2_with fail
    refine (has_any sa xs _ _ H.out).mono ?_
    rintro e w' ⟨rfl, hw⟩
    subst hw
    rw [hh]
    go_wp2_with fail
    refine (HWT.out [] _ HB1.out HWN.out).mono ?_
    rintro e w2 ⟨rfl, out, hcut, hlen, hwr, hb2, -⟩
    rw [List.nil_append] at hwr
    have HW2 := hid hwr; have HB2 := hid hb2; have HCUT := hid hcut
    clear hwr hb2 hcut hlen HWN HB1
    go_wp2_with fail
    refine (wlen_any _ _ _ _ _ HW2.out).mono ?_
    rintro e w' ⟨rfl, hw⟩
    subst hw
    rw [Lib.byteCells_length]
    by_cases hle : (showL xs j).length ≤ 4000
    · have ho := HCUT.out.1 (by simpa using hle)
      subst ho
      have hle' : ¬ (4000 : Int) < ((showL xs j).length : Int) := by omega
      have HF2 := hid (show showF xs (j : Int) = (showL xs j, 0) by rw [HF.out, if_pos hle])
      clear hle
      go_wp2_with fail
      refine (wout_any _ _ _ _ _ HW2.out HNE.out).mono ?_
      rintro e w3 ⟨rfl, b3⟩
      have B3 := hid (HB2.out.trans b3)
      clear b3
      go_wp2_with fail
      go_ret2
      exact ⟨by first | (rw [HF2.out]; rfl) | rfl, B3.out⟩
    · have ho := HCUT.out.2 (by simp; omega)
      have hle' : (4000 : Int) < (out.length : Int) := by simp at ho; omega
      have HF2 := hid (show showF xs (j : Int) = ([], 2) by rw [HF.out, if_neg hle])
      clear hle ho
      go_wp2_with fail
      go_ret2
      exact ⟨by first | (rw [HF2.out]; rfl) | rfl, HB2.out⟩
section
variable {w0 W : World} {Z : Nat → Prop} {sa : Nat} {xs : List ND}
theorem l_mk (h : LA w0 W Z sa xs) (hT : Tb w0.heap.size w0) {x : ND} {A : Option Addr} {c : Nat} (hl : SlA W 1 A x.l.length c (x.l.map (.int .i64))) (hx : NdI x) {xs' : List ND} {i er : Int} (hr : mk xs x = (xs', i, er)) :
    Calls Tryz.prog 57 #[.pointer (some ⟨sa, 0, none⟩), .agg #[.int .i64 x.o, .int .i64 x.n, .string x.s, .slice A x.l.length c]] W fun e w' => ∃ Z', e = .returned (.tuple #[.int .i64 i, .int .i64 er]) ∧ LA w0 w' Z' sa xs' ∧ Mv Z W Z' w' := by
  unfold mk at hr
  injection hr with h1 h2
  injection h2 with h2 h3
  rw [← h1, ← h2, ← h3]
  exact l_mke h hT hl hx
theorem l_show (h : LA w0 W Z sa xs) (hT : Tb w0.heap.size w0) (hno : ∀ x ∈ xs, x.o ≠ 2) {t er : Int} {S : ByteArray} (hr : (⟨(showF xs t).1.toArray⟩ : ByteArray) = S) (he : (showF xs t).2 = er) :
    Calls Tryz.prog 54 #[.pointer (some ⟨sa, 0, none⟩), .int .i64 t] W fun e w' => e = .returned (.tuple #[.string S, .int .i64 er]) ∧ LA w0 w' Z sa xs := by
  refine (show_any sa xs W h.ar.vw (Tb.up (hT.on h.bl) h.sz) hno t).mono ?_
  rintro e w' ⟨rfl, hb⟩
  rw [hr, he]
  exact ⟨rfl, h.ext hb⟩
end
theorem la_new {w w' : World} {Z : Nat → Prop} {sa : Nat} (h : AR w' Z sa []) (hz : ∀ b, Z b → w.heap.size ≤ b) (hb : Below w.heap.size w w') : LA w w' Z sa [] := ⟨h, hz, hb⟩
end Go.Proofs.YtkgobglmkhkbbaaGreatDoor

/- plain: texts' nodes, a node made twice (of TermShort's plain text, without its atoms). -/
namespace Go.KK
open Go.RowKit
set_option linter.unusedVariables false
set_option linter.unusedSimpArgs false

/-- A text's node. -/
def txN (s : ByteArray) : ND := ⟨2, 0, s, []⟩
/-- A node that is made twice. -/
theorem mak_again (xs : List ND) (x : ND) : makI (makT xs x) x = makI xs x ∧ makE (makT xs x) x = makE xs x ∧ makT (makT xs x) x = makT xs x := by
  by_cases hm : mayB xs x = true
  · by_cases hx : x ∈ xs
    · have e : makT xs x = xs := by unfold makT; rw [if_pos hm, if_pos hx]
      rw [e]; exact ⟨rfl, rfl, e⟩
    · by_cases hl : 100000 ≤ xs.length
      · have e : makT xs x = xs := by unfold makT; rw [if_pos hm, if_neg hx, if_pos hl]
        rw [e]; exact ⟨rfl, rfl, e⟩
      · have e : makT xs x = xs ++ [x] := by unfold makT; rw [if_pos hm, if_neg hx, if_neg hl]
        have hm2 := may_app [x] hm
        have hx2 : x ∈ xs ++ [x] := by simp
        rw [e]
        refine ⟨?_, ?_, ?_⟩
        · unfold makI
          rw [if_pos hm2, if_pos hx2, if_pos hm, if_neg hx, if_neg hl, List.idxOf_append, if_neg hx]
          simp
        · unfold makE
          rw [if_pos hm2, if_pos hx2, if_pos hm, if_neg hx, if_neg hl]
        · unfold makT
          rw [if_pos hm2, if_pos hx2]
  · have e : makT xs x = xs := by unfold makT; rw [if_neg hm]
    rw [e]; exact ⟨rfl, rfl, e⟩
theorem text_may (xs : List ND) (s : ByteArray) : mayB xs (txN s) = decide (s.size ≤ 200) := by
  unfold mayB shB lenB txN
  simp [arN]
theorem text_e {xs : List ND} (h : xs.length < 100000) (s : ByteArray) : (s.size ≤ 200 ∧ makE xs (txN s) = 0) ∨ (200 < s.size ∧ makE xs (txN s) = 1) := by
  have hm := text_may xs s
  unfold makE
  by_cases hs : s.size ≤ 200
  · rw [hm, decide_eq_true hs, if_pos rfl]
    refine .inl ⟨hs, ?_⟩
    split
    · rfl
    · rw [if_neg (by omega)]
  · rw [hm, decide_eq_false hs]
    exact .inr ⟨by omega, rfl⟩
theorem mak_len (xs : List ND) (x : ND) : (makT xs x).length ≤ xs.length + 1 := by
  unfold makT
  split
  · split
    · omega
    · split
      · omega
      · simp
  · omega
theorem makI_b {xs : List ND} (h : xs.length ≤ 100000) (x : ND) : 0 ≤ makI xs x ∧ makI xs x ≤ 100000 := by
  unfold makI
  split
  · split
    · rename_i hx
      have := List.idxOf_lt_length_of_mem hx
      omega
    · split <;> omega
  · omega
end Go.KK

/- plain: layers 4 and 11: secrets in words of makes; what was made once is made again. -/
namespace Go.KK
open Go.RowKit
set_option linter.unusedVariables false
set_option linter.unusedSimpArgs false

/-- A step: the arena, the number, the error. -/
abbrev Rs := List ND × Int × Int
/-- A step behind another one, if that one went well. -/
def bdF (r : Rs) (f : List ND → Int → Rs) : Rs := if r.2.2 = 0 then f r.1 r.2.1 else (r.1, 0, r.2.2)
def exF (xs : List ND) (s t : Int) : Rs := mk xs (ndN 5 [s, t])
def exdF (xs : List ND) (s : Int) (lab : ByteArray) (c : Int) : Rs := if kno xs [s, c] = true then bdF (mk xs (txN lab)) fun ys t => mk ys (ndN 6 [s, t, c]) else (xs, 0, 1)
def dvF (xs : List ND) (s : Int) (lab : ByteArray) : Rs := if kno xs [s] = true then bdF (mk xs (ndN 3 [])) fun ys n => exdF ys s lab n else (xs, 0, 1)
def pbF (xs : List ND) (s : Int) : Rs := mk xs (ndN 7 [s])
/-- A number's node. -/
def At (X : List ND) (i : Int) (x : ND) : Prop := 0 ≤ i ∧ X[i.toNat]? = some x
theorem At.ext {X : List ND} {i : Int} {x : ND} (h : At X i x) (m : List ND) : At (X ++ m) i x :=
  ⟨h.1, by rw [List.getElem?_append_left (List.getElem?_eq_some_iff.1 h.2).1]; exact h.2⟩
theorem At.eq {X : List ND} {i : Int} {x y : ND} (h : At X i x) (k : At X i y) : x = y := by
  have := h.2.symm.trans k.2
  injection this
theorem At.uniq {X : List ND} (ok : Okay X) {i j : Int} {x : ND} (h : At X i x) (k : At X j x) : i = j := by
  have hi := (List.getElem?_eq_some_iff.1 h.2).1
  have := (List.getElem?_inj hi ok.nd).1 (h.2.trans k.2.symm)
  have h1 := h.1; have h2 := k.1
  omega
theorem At.has {X : List ND} {i : Int} {x : ND} (h : At X i x) : hasB X i = true := by
  have hi := (List.getElem?_eq_some_iff.1 h.2).1
  have := h.1
  exact has_iff.2 ⟨h.1, by omega⟩
theorem has_ext {X : List ND} {i : Int} (h : hasB X i = true) (m : List ND) : hasB (X ++ m) i = true := by
  have := has_iff.1 h
  exact has_iff.2 ⟨this.1, by rw [List.length_append]; omega⟩
theorem kno_ext {X : List ND} {l : List Int} (h : kno X l = true) (m : List ND) : kno (X ++ m) l = true := by
  unfold kno at h ⊢
  rw [List.all_eq_true] at h ⊢
  exact fun i hi => has_ext (h i hi) m
theorem mk_at {xs : List ND} {x : ND} (h : makE xs x = 0) : At (makT xs x) (makI xs x) x ∧ mayB (makT xs x) x = true := by
  unfold makE at h
  by_cases hm : mayB xs x = true
  · rw [if_pos hm] at h
    by_cases hx : x ∈ xs
    · have e : makT xs x = xs := by unfold makT; rw [if_pos hm, if_pos hx]
      have ei : makI xs x = ((xs.idxOf x : Nat) : Int) := by unfold makI; rw [if_pos hm, if_pos hx]
      rw [e, ei]
      exact ⟨⟨by omega, by rw [Int.toNat_natCast]; exact idxOf_get hx⟩, hm⟩
    · rw [if_neg hx] at h
      by_cases hl : 100000 ≤ xs.length
      · rw [if_pos hl] at h; cases h
      · have e : makT xs x = xs ++ [x] := by unfold makT; rw [if_pos hm, if_neg hx, if_neg hl]
        have ei : makI xs x = ((xs.length : Nat) : Int) := by unfold makI; rw [if_pos hm, if_neg hx, if_neg hl]
        rw [e, ei]
        exact ⟨⟨by omega, by rw [Int.toNat_natCast, List.getElem?_append_right (Nat.le_refl _), Nat.sub_self]; rfl⟩, may_app [x] hm⟩
  · rw [if_neg hm] at h; cases h
theorem mk_fix {Y : List ND} (ok : Okay Y) {i : Int} {x : ND} (h : At Y i x) (hm : mayB Y x = true) : mk Y x = (Y, i, 0) := by
  have hx : x ∈ Y := List.mem_of_getElem? h.2
  have ei : ((Y.idxOf x : Nat) : Int) = i := At.uniq ok (x := x) ⟨by omega, by rw [Int.toNat_natCast]; exact idxOf_get hx⟩ h
  unfold mk makT makI makE
  rw [if_pos hm, if_pos hx, if_pos hm, if_pos hx, if_pos hm, if_pos hx, ei]
/-- A step that goes on an arena, and that an arena which went on takes again as it was. -/
structure Sb (F : List ND → Rs) : Prop where
  ext : ∀ xs, ∃ m, (F xs).1 = xs ++ m
  fix : ∀ xs m, Okay ((F xs).1 ++ m) → (F xs).2.2 = 0 → F ((F xs).1 ++ m) = ((F xs).1 ++ m, (F xs).2.1, 0)
  has : ∀ xs, (F xs).2.2 = 0 → hasB (F xs).1 (F xs).2.1 = true
  ok : ∀ xs, Okay xs → Okay (F xs).1
theorem sb_mk (x : ND) (hn : x.n < 9223372036854775808) : Sb fun xs => mk xs x :=
  ⟨fun xs => mak_pre xs x, fun xs m ok h => mk_fix ok ((mk_at h).1.ext m) (may_app m (mk_at h).2), fun _ h => (mk_at h).1.has, fun _ ok => okay_mak ok hn⟩
theorem sb_bd {F : List ND → Rs} {G : Int → List ND → Rs} (hF : Sb F) (hG : ∀ i, Sb (G i)) : Sb fun xs => bdF (F xs) fun ys i => G i ys := by
  refine ⟨fun xs => ?_, fun xs m ok h => ?_, fun xs h => ?_, fun xs ok => ?_⟩
  · obtain ⟨m, hm⟩ := hF.ext xs
    unfold bdF
    try dsimp only
    split
    · obtain ⟨m', hm'⟩ := (hG (F xs).2.1).ext (F xs).1
      exact ⟨m ++ m', by rw [hm', hm, List.append_assoc]⟩
    · exact ⟨m, hm⟩
  · try dsimp only at ok h ⊢
    unfold bdF at ok h ⊢
    by_cases he : (F xs).2.2 = 0
    · rw [if_pos he] at ok h ⊢
      obtain ⟨m', hm'⟩ := (hG (F xs).2.1).ext (F xs).1
      have e : (G (F xs).2.1 (F xs).1).1 ++ m = (F xs).1 ++ (m' ++ m) := by rw [hm', List.append_assoc]
      have h1 := hF.fix xs (m' ++ m) (by rw [← e]; exact ok) he
      have h2 := (hG (F xs).2.1).fix (F xs).1 m ok h
      rw [e, h1]
      try dsimp only
      rw [if_pos rfl, ← e]
      exact h2
    · rw [if_neg he] at h
      exact absurd h he
  · try dsimp only at h ⊢
    unfold bdF at h ⊢
    by_cases he : (F xs).2.2 = 0
    · rw [if_pos he] at h ⊢
      exact (hG _).has _ h
    · rw [if_neg he] at h
      exact absurd h he
  · have := hF.ok xs ok
    unfold bdF
    try dsimp only
    split
    · exact (hG _).ok _ this
    · exact this
theorem sb_kno {F : List ND → Rs} (l : List Int) (hF : Sb F) : Sb fun xs => if kno xs l = true then F xs else (xs, 0, 1) := by
  refine ⟨fun xs => ?_, fun xs m ok h => ?_, fun xs h => ?_, fun xs ok => ?_⟩
  · try dsimp only
    split
    · exact hF.ext xs
    · exact ⟨[], by simp⟩
  · try dsimp only at ok h ⊢
    by_cases hk : kno xs l = true
    · rw [if_pos hk] at ok h ⊢
      obtain ⟨m', hm'⟩ := hF.ext xs
      have hk2 : kno ((F xs).1 ++ m) l = true := by rw [hm']; exact kno_ext (kno_ext hk m') m
      rw [if_pos hk2]
      exact hF.fix xs m ok h
    · rw [if_neg hk] at h; cases h
  · try dsimp only at h ⊢
    by_cases hk : kno xs l = true
    · rw [if_pos hk] at h ⊢; exact hF.has xs h
    · rw [if_neg hk] at h; cases h
  · try dsimp only
    split
    · exact hF.ok xs ok
    · exact ok
theorem sb_nd (o : Int) (l : List Int) : Sb fun xs => mk xs (ndN o l) := sb_mk _ (by show (0 : Int) < _; decide)
theorem sb_tx (s : ByteArray) : Sb fun xs => mk xs (txN s) := sb_mk _ (by show (0 : Int) < _; decide)
theorem sb_ex (s t : Int) : Sb fun xs => exF xs s t := sb_nd 5 [s, t]
theorem sb_exd (s : Int) (lab : ByteArray) (c : Int) : Sb fun xs => exdF xs s lab c := sb_kno _ (sb_bd (G := fun t ys => mk ys (ndN 6 [s, t, c])) (sb_tx lab) fun t => sb_nd 6 [s, t, c])
theorem sb_dv (s : Int) (lab : ByteArray) : Sb fun xs => dvF xs s lab := sb_kno _ (sb_bd (G := fun n ys => exdF ys s lab n) (sb_nd 3 []) fun n => sb_exd s lab n)
theorem sb_pb (s : Int) : Sb fun xs => pbF xs s := sb_nd 7 [s]
theorem bd_ok {r : Rs} {f : List ND → Int → Rs} (h : (bdF r f).2.2 = 0) : r.2.2 = 0 ∧ bdF r f = f r.1 r.2.1 := by
  unfold bdF at h ⊢
  by_cases he : r.2.2 = 0
  · rw [if_pos he]; exact ⟨he, rfl⟩
  · rw [if_neg he] at h; exact absurd h he
/-- A secret that was derived: of which one, with which label and context. -/
def KeyAt (X : List ND) (i s : Int) (lab : ByteArray) (c : Int) : Prop := ∃ t, At X t (txN lab) ∧ At X i (ndN 6 [s, t, c])
def DvAt (X : List ND) (i s : Int) (lab : ByteArray) : Prop := ∃ n, At X n (ndN 3 []) ∧ KeyAt X i s lab n
theorem KeyAt.ext {X : List ND} {i s c : Int} {lab : ByteArray} (h : KeyAt X i s lab c) (m : List ND) : KeyAt (X ++ m) i s lab c := by
  obtain ⟨t, h1, h2⟩ := h; exact ⟨t, h1.ext m, h2.ext m⟩
theorem DvAt.ext {X : List ND} {i s : Int} {lab : ByteArray} (h : DvAt X i s lab) (m : List ND) : DvAt (X ++ m) i s lab := by
  obtain ⟨n, h1, h2⟩ := h; exact ⟨n, h1.ext m, h2.ext m⟩
theorem KeyAt.eq {X : List ND} {i s s' c c' : Int} {lab lab' : ByteArray} (h : KeyAt X i s lab c) (k : KeyAt X i s' lab' c') : s = s' ∧ lab = lab' ∧ c = c' := by
  obtain ⟨t, h1, h2⟩ := h; obtain ⟨t', k1, k2⟩ := k
  have e := h2.eq k2
  unfold ndN at e
  simp only [ND.mk.injEq, List.cons.injEq, true_and, and_true] at e
  obtain ⟨e1, e2, e3⟩ := e
  subst e2
  have e4 := h1.eq k1
  unfold txN at e4
  simp only [ND.mk.injEq, true_and, and_true] at e4
  exact ⟨e1, e4, e3⟩
theorem KeyAt.uniq {X : List ND} (ok : Okay X) {i j s c : Int} {lab : ByteArray} (h : KeyAt X i s lab c) (k : KeyAt X j s lab c) : i = j := by
  obtain ⟨t, h1, h2⟩ := h; obtain ⟨t', k1, k2⟩ := k
  obtain rfl := At.uniq ok h1 k1
  exact At.uniq ok h2 k2
theorem DvAt.eq {X : List ND} {i s s' : Int} {lab lab' : ByteArray} (h : DvAt X i s lab) (k : DvAt X i s' lab') : s = s' ∧ lab = lab' := by
  obtain ⟨n, -, h2⟩ := h; obtain ⟨n', -, k2⟩ := k
  have e := h2.eq k2
  exact ⟨e.1, e.2.1⟩
theorem DvAt.uniq {X : List ND} (ok : Okay X) {i j s : Int} {lab : ByteArray} (h : DvAt X i s lab) (k : DvAt X j s lab) : i = j := by
  obtain ⟨n, h1, h2⟩ := h; obtain ⟨n', k1, k2⟩ := k
  obtain rfl := At.uniq ok h1 k1
  exact KeyAt.uniq ok h2 k2
theorem mk_at' {xs : List ND} {x : ND} (h : (mk xs x).2.2 = 0) : At (mk xs x).1 (mk xs x).2.1 x := (mk_at h).1
theorem exd_at {xs : List ND} {s c : Int} {lab : ByteArray} (h : (exdF xs s lab c).2.2 = 0) : KeyAt (exdF xs s lab c).1 (exdF xs s lab c).2.1 s lab c := by
  unfold exdF at h ⊢
  by_cases hk : kno xs [s, c] = true
  · rw [if_pos hk] at h ⊢
    obtain ⟨h1, h2⟩ := bd_ok h
    rw [h2] at h ⊢
    obtain ⟨m, hm⟩ := (sb_nd 6 [s, (mk xs (txN lab)).2.1, c]).ext (mk xs (txN lab)).1
    refine ⟨(mk xs (txN lab)).2.1, ?_, mk_at' h⟩
    try dsimp only at hm
    rw [hm]
    exact (mk_at' h1).ext m
  · rw [if_neg hk] at h; cases h
theorem dv_at {xs : List ND} {s : Int} {lab : ByteArray} (h : (dvF xs s lab).2.2 = 0) : DvAt (dvF xs s lab).1 (dvF xs s lab).2.1 s lab := by
  unfold dvF at h ⊢
  by_cases hk : kno xs [s] = true
  · rw [if_pos hk] at h ⊢
    obtain ⟨h1, h2⟩ := bd_ok h
    rw [h2] at h ⊢
    obtain ⟨m, hm⟩ := (sb_exd s lab (mk xs (ndN 3 [])).2.1).ext (mk xs (ndN 3 [])).1
    refine ⟨(mk xs (ndN 3 [])).2.1, ?_, exd_at h⟩
    try dsimp only at hm
    rw [hm]
    exact (mk_at' h1).ext m
  · rw [if_neg hk] at h; cases h

/-! several shared secrets in one -/
def pskG : Rs → List Int → Rs
  | r, [] => r
  | r, s :: l => pskG (bdF r fun ys p => exF ys p s) l
def pskF (xs : List ND) (l : List Int) : Rs := pskG (mk xs (txN ⟨#[]⟩)) l
theorem psk_snoc (r : Rs) : ∀ (l : List Int) (s : Int), pskG r (l ++ [s]) = bdF (pskG r l) fun ys p => exF ys p s := by
  intro l
  induction l generalizing r with
  | nil => intro s; rfl
  | cons a l ih => intro s; exact ih _ s
theorem sb_psk (l : List Int) : Sb fun xs => pskF xs l := by
  refine snoc_ind (P := fun l => Sb fun xs => pskF xs l) (sb_tx _) (fun l s ih => ?_) l
  unfold pskF at ih ⊢
  simp only [psk_snoc]
  exact sb_bd (G := fun p ys => exF ys p s) ih fun p => sb_ex p s
/-- What shared secrets in one are. -/
inductive PskAt (X : List ND) : Int → List Int → Prop
  | nil {i : Int} (h : At X i (txN ⟨#[]⟩)) : PskAt X i []
  | snoc {i p s : Int} {l : List Int} (hp : PskAt X p l) (h : At X i (ndN 5 [p, s])) : PskAt X i (l ++ [s])
theorem PskAt.ext {X : List ND} {i : Int} {l : List Int} (h : PskAt X i l) (m : List ND) : PskAt (X ++ m) i l := by
  induction h with
  | nil h => exact .nil (h.ext m)
  | snoc _ h ih => exact .snoc ih (h.ext m)
theorem psk_at (xs : List ND) : ∀ l : List Int, (pskF xs l).2.2 = 0 → PskAt (pskF xs l).1 (pskF xs l).2.1 l := by
  intro l
  refine snoc_ind (P := fun l => (pskF xs l).2.2 = 0 → PskAt (pskF xs l).1 (pskF xs l).2.1 l) (fun h => .nil (mk_at' h)) (fun l s ih h => ?_) l
  unfold pskF at ih h ⊢
  rw [psk_snoc] at h ⊢
  obtain ⟨h1, h2⟩ := bd_ok h
  rw [h2] at h ⊢
  obtain ⟨m, hm⟩ := (sb_ex (pskG (mk xs (txN ⟨#[]⟩)) l).2.1 s).ext (pskG (mk xs (txN ⟨#[]⟩)) l).1
  try dsimp only at hm
  refine .snoc (p := (pskG (mk xs (txN ⟨#[]⟩)) l).2.1) ?_ (mk_at' h)
  have := (ih h1).ext m
  rw [← hm] at this
  exact this
theorem PskAt.eq {X : List ND} {i : Int} {l l' : List Int} (h : PskAt X i l) (k : PskAt X i l') : l = l' := by
  induction h generalizing l' with
  | nil h =>
    cases k with
    | nil _ => rfl
    | snoc hp h' => have := h.eq h'; unfold txN ndN at this; simp at this
  | snoc hp h ih =>
    cases k with
    | nil h' => have := h.eq h'; unfold txN ndN at this; simp at this
    | snoc hp' h' =>
      have e := h.eq h'
      unfold ndN at e
      simp only [ND.mk.injEq, List.cons.injEq, true_and, and_true] at e
      obtain ⟨rfl, rfl⟩ := e
      rw [ih hp']
theorem PskAt.uniq {X : List ND} (ok : Okay X) {i j : Int} {l : List Int} (h : PskAt X i l) (k : PskAt X j l) : i = j := by
  induction h generalizing j with
  | nil h =>
    generalize hl : ([] : List Int) = l' at k
    cases k with
    | nil h' => exact At.uniq ok h h'
    | snoc hp h' => simp at hl
  | @snoc i p s l hp h ih =>
    generalize hl : l ++ [s] = l' at k
    cases k with
    | nil h' => simp at hl
    | @snoc _ p' s' m hp' h' =>
      have e := List.append_inj' hl rfl
      obtain ⟨rfl, e2⟩ := e
      simp at e2
      subst e2
      obtain rfl := ih hp'
      exact At.uniq ok h h'
end Go.KK

