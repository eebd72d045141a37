/- term's law: few, SameNode. -/
import Derived.Test.YtadbgmfdbahcbaaGreatDoorRA
import Derived.Test.YtadbgmfdbahcbaaGreatDoorK8
namespace Go.Proofs.YtadbgmfdbahcbaaGreatDoor
open Go.RowKit Go.KK Go.Shelf Go.Maps
set_option linter.unusedVariables false
set_option linter.unusedSimpArgs false

/-- Few nodes, of short texts and lists. -/
def fewB (xs : List ND) : Bool := decide (xs.length ≤ 300) && xs.all fun x => decide (x.s.size ≤ 300) && decide (x.l.length ≤ 80)
theorem few_iff {xs : List ND} : fewB xs = true ↔ xs.length ≤ 300 ∧ ∀ x ∈ xs, x.s.size ≤ 300 ∧ x.l.length ≤ 80 := by
  unfold fewB
  simp only [Bool.and_eq_true, decide_eq_true_eq, List.all_eq_true]
theorem few_no {xs : List ND} {x : ND} (hx : x ∈ xs) (h : ¬ (x.s.size ≤ 300 ∧ x.l.length ≤ 80)) : fewB xs = false := by
  rcases hb : fewB xs with _ | _
  · rfl
  · exact absurd ((few_iff.1 hb).2 x hx) h
set_option maxHeartbeats 2000000 in
theorem few_any (A : Option Addr) (n c : Nat) (xs : List ND) (w : World) (h : NdA w A n c xs) :
    Calls Tryz.prog 10 #[.slice A n c] w fun e w' => e = .returned (.bool (fewB xs)) ∧ Below w.heap.size w w' := by
  have HN := hid h.len
  have HL := hid h
  clear h
  by_cases hbig : 300 < n
  · have HF := hid (show fewB xs = false by
      rcases hb : fewB xs with _ | _
      · rfl
      · have := (few_iff.1 hb).1; have := HN.out; omega)
    have hb' : (300 : Int) < (n : Int) := by omega
    clear hbig
    go_enter Tryz.func10, Tryz.ntmps10
    go_wp2_with fail
    go_ret
    exact ⟨by first | (rw [HF.out]; rfl) | rfl, Below.refl _ _⟩
  have hb' : ¬ (300 : Int) < (n : Int) := by omega
  go_enter Tryz.func10, Tryz.ntmps10
  go_wp2_with fail
  go_loopw [10] (fun v wr => ∃ j : Nat, v = .int .i64 j ∧ j ≤ n ∧ (∀ (k : Nat) x, k < j → xs[k]? = some x → x.s.size ≤ 300 ∧ x.l.length ≤ 80) ∧ Below w.heap.size w wr) (fun v _ => n - (intOf v).toNat)
  case atStart => exact ⟨0, rfl, Nat.zero_le _, fun k x h => by omega, Below.refl _ _⟩
  case round =>
    obtain ⟨j, hv, hj, hq, hbr⟩ := hrel
    subst hv
    have HQ := hid hq; have HB := hid hbr
    clear hq hbr
    by_cases hlt : j < n
    · obtain ⟨b, off, x, A', c', rfl, hx, y0, y1, y2, y3, -⟩ := (HL.out.ext HB.out).at hlt
      have HX := hid hx
      have HBA := hid (HB.out.alloc HB.out.size (.cells #[.int .i64 x.o, .int .i64 x.n, .string x.s, .slice A' x.l.length c'] 29))
      clear hx
      have hlt' : (j : Int) < (n : Int) := by omega
      by_cases hs : 300 < x.s.size
      · have HF := hid (few_no (List.mem_of_getElem? HX.out) (by omega))
        have hs' : (300 : Int) < (x.s.size : Int) := by omega
        clear hs
        go_wp2_with fail
        go_ret
        exact ⟨by first | (rw [HF.out]; rfl) | rfl, HBA.out⟩
      · have hs' : ¬ (300 : Int) < (x.s.size : Int) := by omega
        by_cases hl : 80 < x.l.length
        · have HF := hid (few_no (List.mem_of_getElem? HX.out) (by omega))
          have hl' : (80 : Int) < (x.l.length : Int) := by omega
          clear hs hl
          go_wp2_with fail
          go_ret
          exact ⟨by first | (rw [HF.out]; rfl) | rfl, HBA.out⟩
        · have hl' : ¬ (80 : Int) < (x.l.length : Int) := by omega
          have HO := hid (show x.s.size ≤ 300 ∧ x.l.length ≤ 80 by omega)
          clear hs hl
          go_wp2_with fail
          go_roundw
          case rel =>
            refine ⟨j + 1, by go_num, by omega, fun k y hk hy => ?_, HBA.out⟩
            by_cases hkj : k = j
            · subst hkj
              have := HX.out.symm.trans hy
              injection this with this
              rw [← this]; exact HO.out
            · exact HQ.out k y (by omega) hy
          case measure => simp [intOf]; omega
    · have HF := hid (show fewB xs = true from few_iff.2 ⟨by have := HN.out; omega, fun x hx => by
        obtain ⟨k, hk, rfl⟩ := List.mem_iff_getElem.1 hx
        exact HQ.out k _ (by have := HN.out; omega) (List.getElem?_eq_getElem hk)⟩)
      go_wp2_with fail
      go_ret
      exact ⟨by first | (rw [HF.out]; rfl) | rfl, HB.out⟩
set_option maxHeartbeats 2000000 in
theorem same_node (x y : ND) (A A' : Option Addr) (c c' : Nat) (w : World) (hx : SlA w 1 A x.l.length c (x.l.map (.int .i64))) (hy : SlA w 1 A' y.l.length c' (y.l.map (.int .i64))) (hxl : x.l.length ≤ 2147483648) (hyl : y.l.length ≤ 2147483648) :
    Calls Tryz.prog 14 #[.agg #[.int .i64 x.o, .int .i64 x.n, .string x.s, .slice A x.l.length c], .agg #[.int .i64 y.o, .int .i64 y.n, .string y.s, .slice A' y.l.length c']] w fun e w' => e = .returned (.bool (decide (x = y))) ∧ Below w.heap.size w w' := by
  have HX := hid hx; have HY := hid hy
  clear hx hy
  obtain ⟨o, n, s, l⟩ := x
  obtain ⟨o', n', s', l'⟩ := y
  have hb : Below w.heap.size w ((w.alloc (.cells #[.int .i64 o, .int .i64 n, .string s, .slice A l.length c] 29)).alloc (.cells #[.int .i64 o', .int .i64 n', .string s', .slice A' l'.length c'] 29)) := ((Below.refl _ _).alloc (Nat.le_refl _) _).alloc (by simp) _
  have HB := hid hb
  clear hb
  by_cases ho : o = o'
  · subst ho
    by_cases hn : n = n'
    · subst hn
      by_cases hs : s = s'
      · subst hs
        have HF := hid (show (l == l') = decide ((⟨o, n, s, l⟩ : ND) = ⟨o, n, s, l'⟩) by
          by_cases h : l = l'
          · subst h; simp
          · rw [beq_eq_false_iff_ne.2 h, decide_eq_false (fun e => h (by injection e))])
        go_enter Tryz.func14, Tryz.ntmps14
        go_wp2_with fail
        refine (same_ints A _ c l A' _ c' l' _ (HX.out.ext HB.out) (HY.out.ext HB.out) hxl hyl).mono ?_
        rintro e w' ⟨rfl, q, rfl⟩
        go_wp2_with fail
        go_ret
        exact ⟨by first | (rw [HF.out]; rfl) | rfl, below_drewN HB.out q⟩
      · have HF := hid (show decide ((⟨o, n, s, l⟩ : ND) = ⟨o, n, s', l'⟩) = false from decide_eq_false (fun e => hs (by injection e)))
        have hs' : (s == s') = false := by
          rw [Bool.eq_false_iff]
          intro e
          rw [Go.MapKept.bytes_beq] at e
          exact hs e
        have hs2 : (s.toList == s'.toList) = false := by rw [← beq_toListBytes]; exact hs' 
        go_enter Tryz.func14, Tryz.ntmps14
        go_wp2_with fail
        go_ret
        exact ⟨by first | (rw [HF.out]; rfl) | rfl, HB.out⟩
    · have HF := hid (show decide ((⟨o, n, s, l⟩ : ND) = ⟨o, n', s', l'⟩) = false from decide_eq_false (fun e => hn (by injection e)))
      have hn' : (n == n') = false := beq_eq_false_iff_ne.2 hn
      go_enter Tryz.func14, Tryz.ntmps14
      go_wp2_with fail
      go_ret
      exact ⟨by first | (rw [HF.out]; rfl) | rfl, HB.out⟩
  · have HF := hid (show decide ((⟨o, n, s, l⟩ : ND) = ⟨o', n', s', l'⟩) = false from decide_eq_false (fun e => ho (by injection e)))
    have ho' : (o == o') = false := beq_eq_false_iff_ne.2 ho
    go_enter Tryz.func14, Tryz.ntmps14
    go_wp2_with fail
    go_ret
    exact ⟨by first | (rw [HF.out]; rfl) | rfl, HB.out⟩
end Go.Proofs.YtadbgmfdbahcbaaGreatDoor
