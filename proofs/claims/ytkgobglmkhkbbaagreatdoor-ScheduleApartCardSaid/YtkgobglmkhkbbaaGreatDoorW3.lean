/- term: Show (without a law's live). -/
import Derived.Test.YtkgobglmkhkbbaaGreatDoorW2
import Derived.Test.YtkgobglmkhkbbaaGreatDoorM3
namespace Go.Proofs.YtkgobglmkhkbbaaGreatDoor
open Go.RowKit Go.KK Go.Shelf Go.Maps
set_option linter.unusedVariables false
set_option linter.unusedSimpArgs false

/-- A term's text, or why there is none. -/
def showF (xs : List ND) (t : Int) : List UInt8 × Int := if hasB xs t then (if (showL xs t.toNat).length ≤ 4000 then (showL xs t.toNat, 0) else ([], 2)) else ([], 4)
theorem show_ne {xs : List ND} (ok : Okay xs) {t : Nat} (h : t < xs.length) : showL xs t ≠ [] := by
  have hx : xs[t]? = some xs[t] := List.getElem?_eq_getElem h
  generalize xs[t] = x at hx
  rw [show_at hx]
  unfold textOf
  split
  · simp
  · split
    · simp
    · simp
set_option maxHeartbeats 2000000 in
set_option maxRecDepth 100000 in
theorem show_any (sa : Nat) (xs : List ND) (w : World) (hA : ArV w 124 sa xs) (hT : Tb w.heap.size w) (hno : ∀ x ∈ xs, x.o ≠ 2) (t : Int) :
    Calls Tryz.prog 54 #[.pointer (some ⟨sa, 0, none⟩), .int .i64 t] w fun e w' => e = .returned (.tuple #[.string ⟨(showF xs t).1.toArray⟩, .int .i64 (showF xs t).2]) ∧ Below w.heap.size w w' := by
  have H := hid hA
  rcases hh : hasB xs t with _ | _
  · have HF := hid (show showF xs t = ([], 4) by unfold showF; rw [hh]; rfl)
    clear hA hT
    go_enter Tryz.func54, Tryz.ntmps54
    go_wp2_with fail
    refine (has_any sa xs t _ H.out).mono ?_
    rintro e w' ⟨rfl, hw⟩
    subst hw
    rw [hh]
    go_wp2_with fail
    go_ret2
    exact ⟨by first | (rw [HF.out]; rfl) | rfl, Below.refl _ _⟩
  · have h2 := has_iff.1 hh
    obtain ⟨j, rfl⟩ := Int.eq_ofNat_of_zero_le h2.1
    have hj : j < xs.length := by omega
    have HF := hid (show showF xs (j : Int) = if (showL xs j).length ≤ 4000 then (showL xs j, 0) else ([], 2) by unfold showF; rw [hh]; rfl)
    have HWT := hid (wt_any w sa w.heap.size xs hA hT hno (j + 1) j (by omega) hj)
    have HNE := hid (show_ne hA.ok hj)
    have HWN := hid (wr_new w (.pointer (some ⟨sa, 0, none⟩)))
    have HB1 := hid (show Below w.heap.size w (w.alloc (.cells #[.pointer none, .slice none 0 0, .pointer (some ⟨sa, 0, none⟩)] 132)) from (Below.refl _ _).alloc (Nat.le_refl _) _)
    clear hA hT h2
    go_enter Tryz.func54, Tryz.ntmps54
    go_wp2_with fail
    refine (has_any sa xs _ _ H.out).mono ?_
    rintro e w' ⟨rfl, hw⟩
    subst hw
    rw [hh]
    go_wp2_with fail
    refine (HWT.out [] _ HB1.out HWN.out).mono ?_
    rintro e w2 ⟨rfl, out, hcut, hlen, hwr, hb2, -⟩
    rw [List.nil_append] at hwr
    have HW2 := hid hwr; have HB2 := hid hb2; have HCUT := hid hcut
    clear hwr hb2 hcut hlen HWN HB1
    go_wp2_with fail
    refine (wlen_any _ _ _ _ _ HW2.out).mono ?_
    rintro e w' ⟨rfl, hw⟩
    subst hw
    rw [Lib.byteCells_length]
    by_cases hle : (showL xs j).length ≤ 4000
    · have ho := HCUT.out.1 (by simpa using hle)
      subst ho
      have hle' : ¬ (4000 : Int) < ((showL xs j).length : Int) := by omega
      have HF2 := hid (show showF xs (j : Int) = (showL xs j, 0) by rw [HF.out, if_pos hle])
      clear hle
      go_wp2_with fail
      refine (wout_any _ _ _ _ _ HW2.out HNE.out).mono ?_
      rintro e w3 ⟨rfl, b3⟩
      have B3 := hid (HB2.out.trans b3)
      clear b3
      go_wp2_with fail
      go_ret2
      exact ⟨by first | (rw [HF2.out]; rfl) | rfl, B3.out⟩
    · have ho := HCUT.out.2 (by simp; omega)
      have hle' : (4000 : Int) < (out.length : Int) := by simp at ho; omega
      have HF2 := hid (show showF xs (j : Int) = ([], 2) by rw [HF.out, if_neg hle])
      clear hle ho
      go_wp2_with fail
      go_ret2
      exact ⟨by first | (rw [HF2.out]; rfl) | rfl, HB2.out⟩
section
variable {w0 W : World} {Z : Nat → Prop} {sa : Nat} {xs : List ND}
theorem l_mk (h : LA w0 W Z sa xs) (hT : Tb w0.heap.size w0) {x : ND} {A : Option Addr} {c : Nat} (hl : SlA W 1 A x.l.length c (x.l.map (.int .i64))) (hx : NdI x) {xs' : List ND} {i er : Int} (hr : mk xs x = (xs', i, er)) :
    Calls Tryz.prog 57 #[.pointer (some ⟨sa, 0, none⟩), .agg #[.int .i64 x.o, .int .i64 x.n, .string x.s, .slice A x.l.length c]] W fun e w' => ∃ Z', e = .returned (.tuple #[.int .i64 i, .int .i64 er]) ∧ LA w0 w' Z' sa xs' ∧ Mv Z W Z' w' := by
  unfold mk at hr
  injection hr with h1 h2
  injection h2 with h2 h3
  rw [← h1, ← h2, ← h3]
  exact l_mke h hT hl hx
theorem l_show (h : LA w0 W Z sa xs) (hT : Tb w0.heap.size w0) (hno : ∀ x ∈ xs, x.o ≠ 2) {t er : Int} {S : ByteArray} (hr : (⟨(showF xs t).1.toArray⟩ : ByteArray) = S) (he : (showF xs t).2 = er) :
    Calls Tryz.prog 54 #[.pointer (some ⟨sa, 0, none⟩), .int .i64 t] W fun e w' => e = .returned (.tuple #[.string S, .int .i64 er]) ∧ LA w0 w' Z sa xs := by
  refine (show_any sa xs W h.ar.vw (Tb.up (hT.on h.bl) h.sz) hno t).mono ?_
  rintro e w' ⟨rfl, hb⟩
  rw [hr, he]
  exact ⟨rfl, h.ext hb⟩
end
theorem la_new {w w' : World} {Z : Nat → Prop} {sa : Nat} (h : AR w' Z sa []) (hz : ∀ b, Z b → w.heap.size ≤ b) (hb : Below w.heap.size w w') : LA w w' Z sa [] := ⟨h, hz, hb⟩
end Go.Proofs.YtkgobglmkhkbbaaGreatDoor
