import Derived.Test.YtadbgmfdbahcbaaDoorZM2
import Derived.Test.YtadbgmfdbahcbaaDoorZk
import Derived.Test.YtadbgmfdbahcbaaDoorZRA
import Derived.Test.YtadbgmfdbahcbaaDoorZa
import Derived.Test.YtadbgmfdbahcbaaDoorZE3
/- deduce's law: two, few, SameTexts. -/
namespace Go.KK
open Go.RowKit
set_option linter.unusedVariables false
set_option linter.unusedSimpArgs false
theorem arr_eq {p q : List UInt8} : (⟨p.toArray⟩ : ByteArray) = ⟨q.toArray⟩ ↔ p = q := by
  constructor
  · intro e
    injection e with e
    have := congrArg Array.toList e
    simpa using this
  · rintro rfl; rfl
theorem takeL_step {α : Type} {l m : List α} {j : Nat} {x : α} (h : l.take j = m.take j) (h1 : l[j]? = some x) (h2 : m[j]? = some x) : l.take (j + 1) = m.take (j + 1) := by rw [take_one h1, take_one h2, h]
theorem atL_ne {α : Type} {l m : List α} {j : Nat} {x y : α} (h1 : l[j]? = some x) (h2 : m[j]? = some y) (h : x ≠ y) : l ≠ m := fun e => h (by rw [e, h2] at h1; injection h1 with h1; exact h1.symm)
/-- Few nodes, and lists. -/
def few5B (xs : List ND) (ns : List Nat) : Bool := decide (xs.length ≤ 40) && (xs.all (fun x => decide (x.s.size ≤ 60) && decide (x.l.length ≤ 6)) && ns.all fun k => decide (k ≤ 20))
theorem few5_iff {xs : List ND} {ns : List Nat} : few5B xs ns = true ↔ xs.length ≤ 40 ∧ (∀ x ∈ xs, x.s.size ≤ 60 ∧ x.l.length ≤ 6) ∧ ∀ k ∈ ns, k ≤ 20 := by
  unfold few5B
  simp only [Bool.and_eq_true, decide_eq_true_eq, List.all_eq_true]
theorem few5_no {xs : List ND} {ns : List Nat} (h : ¬ (xs.length ≤ 40 ∧ (∀ x ∈ xs, x.s.size ≤ 60 ∧ x.l.length ≤ 6) ∧ ∀ k ∈ ns, k ≤ 20)) : few5B xs ns = false := by
  rcases hb : few5B xs ns with _ | _
  · rfl
  · exact absurd (few5_iff.1 hb) h
end Go.KK
namespace Go.Proofs.YtadbgmfdbahcbaaDoor
open Go.RowKit Go.KK Go.Shelf Go.Maps

theorem ndI_w {x : ND} (h : NdW x) : NdI x := ⟨h.o, h.n, h.l⟩
theorem strRow_at {w : World} {A : Option Addr} {n c : Nat} {ps : List (List UInt8)} (h : SlA w 1 A n c (ps.map strV)) {j : Nat} (hj : j < n) : ∃ b o p, A = some ⟨b, o, none⟩ ∧ ps[j]? = some p ∧ w.cell? ⟨b, o + j, none⟩ = some (.string ⟨p.toArray⟩) := by
  have hl := h.len
  rw [List.length_map, Nat.mul_one] at hl
  have hx : ps[j]? = some ps[j] := List.getElem?_eq_getElem (by omega)
  obtain ⟨b, o, e, hc⟩ := h.cells j (strV ps[j]) (by rw [List.getElem?_map, hx]; rfl)
  exact ⟨b, o, _, e, hx, hc⟩
theorem strRow_len {w : World} {A : Option Addr} {n c : Nat} {ps : List (List UInt8)} (h : SlA w 1 A n c (ps.map strV)) : ps.length = n := by
  have hl := h.len
  rw [List.length_map, Nat.mul_one] at hl
  exact hl
set_option maxHeartbeats 1000000 in
theorem same_texts (A : Option Addr) (n c : Nat) (l : List (List UInt8)) (B : Option Addr) (m d : Nat) (l' : List (List UInt8)) (w : World) (h : SlA w 1 A n c (l.map strV)) (h' : SlA w 1 B m d (l'.map strV)) (hn : n ≤ 2147483648) :
    Calls Tryd.prog 13 #[.slice A n c, .slice B m d] w fun e w' => e = .returned (.bool (decide (l = l'))) ∧ ∃ q, w' = w.drewN q := by
  have HL := hid (strRow_len h); have HS := hid h; have HL' := hid (strRow_len h'); have HS' := hid h'
  clear h h'
  by_cases hnm : n = m
  · subst hnm
    go_enter Tryd.func13, Tryd.ntmps13
    go_wp2
    go_loopw [13, 5] (fun i _ wr => ∃ j q : Nat, i = .int .i64 j ∧ j ≤ n ∧ Hid (l.take j = l'.take j) ∧ wr = w.drewN q) (fun i _ _ => n - (intOf i).toNat)
    case atStart => exact ⟨0, 0, rfl, by omega, hid rfl, rfl⟩
    case round =>
      obtain ⟨j, q, hi, hj, HJ, hw⟩ := hrel
      subst hi; subst hw
      by_cases hlt : j < n
      · obtain ⟨b, o, z, rfl, hz, hc⟩ := strRow_at HS.out hlt
        obtain ⟨b', o', z', rfl, hz', hc'⟩ := strRow_at HS'.out hlt
        have hj0 : (0 : Int) ≤ (j : Int) := by omega
        have hj1 : (j : Int) < (n : Int) := by omega
        have HZ := hid hz; have HZ' := hid hz'
        clear hz hz'
        by_cases hzx : z = z'
        · have HF := hid (takeL_step HJ.out HZ.out (hzx ▸ HZ'.out))
          subst hzx
          clear HZ HZ'
          generalize (⟨z.toArray⟩ : ByteArray) = S at *
          have h2 : (S == S) = true := by rw [Go.MapKept.bytes_beq]
          have h1 : (S != S) = false := by unfold bne; rw [h2]; rfl
          go_wp2
          go_quiet (fail)
          go_wp2
          go_roundw
          case rel => exact ⟨j + 1, _, by go_num, by omega, HF, rfl⟩
          case measure => simp [intOf]; omega
        · have HF := hid (show decide (l = l') = false from decide_eq_false (atL_ne HZ.out HZ'.out hzx))
          have hS : (⟨z.toArray⟩ : ByteArray) ≠ ⟨z'.toArray⟩ := fun e => hzx (arr_eq.1 e)
          clear HZ HZ' hzx
          generalize (⟨z.toArray⟩ : ByteArray) = S at *
          generalize (⟨z'.toArray⟩ : ByteArray) = S' at *
          have h1 : (S == S') = false := by
            rw [Bool.eq_false_iff]
            intro e
            rw [Go.MapKept.bytes_beq] at e
            exact hS e
          have h2 : (S != S') = true := by unfold bne; rw [h1]; rfl
          have h3 : (S.toList == S'.toList) = false := by rw [← beq_toListBytes]; exact h1
          clear hS
          go_wp2
          go_quiet (fail)
          go_wp2
          go_ret
          exact ⟨by rw [HF.out]; rfl, _, World.drewN_drewN _ _ _⟩
      · have HF := hid (show decide (l = l') = true from decide_eq_true (by
          have := HJ.out
          rwa [List.take_of_length_le (by have := HL.out; omega), List.take_of_length_le (by have := HL'.out; omega)] at this))
        go_wp2
        go_ret
        exact ⟨by rw [HF.out]; rfl, q, rfl⟩
  · have HF := hid (show decide (l = l') = false from decide_eq_false fun e => hnm (by rw [← HL.out, ← HL'.out, e]))
    have hnm' : ((n : Int) != (m : Int)) = true := bne_iff_ne.2 (by omega)
    clear hnm
    go_enter Tryd.func13, Tryd.ntmps13
    go_wp2
    go_ret
    exact ⟨by rw [HF.out]; rfl, 0, rfl⟩
set_option maxHeartbeats 1000000 in
theorem eq_texts (A : Option Addr) (n c : Nat) (l : List (List UInt8)) (B : Option Addr) (m d : Nat) (l' : List (List UInt8)) (w : World) (h : SlA w 1 A n c (l.map strV)) (h' : SlA w 1 B m d (l'.map strV)) (hn : n ≤ 2147483648) :
    Calls Tryd.prog 34 #[.slice A n c, .slice B m d] w fun e w' => e = .returned (.bool (decide (l = l'))) ∧ ∃ q, w' = w.drewN q := by
  have HL := hid (strRow_len h); have HS := hid h; have HL' := hid (strRow_len h'); have HS' := hid h'
  clear h h'
  by_cases hnm : n = m
  · subst hnm
    go_enter Tryd.func34, Tryd.ntmps34
    go_wp2
    go_loopw [13, 5] (fun i _ wr => ∃ j q : Nat, i = .int .i64 j ∧ j ≤ n ∧ Hid (l.take j = l'.take j) ∧ wr = w.drewN q) (fun i _ _ => n - (intOf i).toNat)
    case atStart => exact ⟨0, 0, rfl, by omega, hid rfl, rfl⟩
    case round =>
      obtain ⟨j, q, hi, hj, HJ, hw⟩ := hrel
      subst hi; subst hw
      by_cases hlt : j < n
      · obtain ⟨b, o, z, rfl, hz, hc⟩ := strRow_at HS.out hlt
        obtain ⟨b', o', z', rfl, hz', hc'⟩ := strRow_at HS'.out hlt
        have hj0 : (0 : Int) ≤ (j : Int) := by omega
        have hj1 : (j : Int) < (n : Int) := by omega
        have HZ := hid hz; have HZ' := hid hz'
        clear hz hz'
        by_cases hzx : z = z'
        · have HF := hid (takeL_step HJ.out HZ.out (hzx ▸ HZ'.out))
          subst hzx
          clear HZ HZ'
          generalize (⟨z.toArray⟩ : ByteArray) = S at *
          have h2 : (S == S) = true := by rw [Go.MapKept.bytes_beq]
          have h1 : (S != S) = false := by unfold bne; rw [h2]; rfl
          go_wp2
          go_quiet (fail)
          go_wp2
          go_roundw
          case rel => exact ⟨j + 1, _, by go_num, by omega, HF, rfl⟩
          case measure => simp [intOf]; omega
        · have HF := hid (show decide (l = l') = false from decide_eq_false (atL_ne HZ.out HZ'.out hzx))
          have hS : (⟨z.toArray⟩ : ByteArray) ≠ ⟨z'.toArray⟩ := fun e => hzx (arr_eq.1 e)
          clear HZ HZ' hzx
          generalize (⟨z.toArray⟩ : ByteArray) = S at *
          generalize (⟨z'.toArray⟩ : ByteArray) = S' at *
          have h1 : (S == S') = false := by
            rw [Bool.eq_false_iff]
            intro e
            rw [Go.MapKept.bytes_beq] at e
            exact hS e
          have h2 : (S != S') = true := by unfold bne; rw [h1]; rfl
          have h3 : (S.toList == S'.toList) = false := by rw [← beq_toListBytes]; exact h1
          clear hS
          go_wp2
          go_quiet (fail)
          go_wp2
          go_ret
          exact ⟨by rw [HF.out]; rfl, _, World.drewN_drewN _ _ _⟩
      · have HF := hid (show decide (l = l') = true from decide_eq_true (by
          have := HJ.out
          rwa [List.take_of_length_le (by have := HL.out; omega), List.take_of_length_le (by have := HL'.out; omega)] at this))
        go_wp2
        go_ret
        exact ⟨by rw [HF.out]; rfl, q, rfl⟩
  · have HF := hid (show decide (l = l') = false from decide_eq_false fun e => hnm (by rw [← HL.out, ← HL'.out, e]))
    have hnm' : ((n : Int) != (m : Int)) = true := bne_iff_ne.2 (by omega)
    clear hnm
    go_enter Tryd.func34, Tryd.ntmps34
    go_wp2
    go_ret
    exact ⟨by rw [HF.out]; rfl, 0, rfl⟩
/-- What two leaves. -/
def TwoP (w : World) (X : List ND) (e : Ending) (w' : World) : Prop := ∃ sa sb Z Z', e = .returned (.tuple #[.pointer (some ⟨sa, 0, none⟩), .pointer (some ⟨sb, 0, none⟩)]) ∧ Tw w w' sa sb Z Z' X
set_option maxHeartbeats 2000000 in
set_option maxRecDepth 100000 in
theorem two_any (A : Option Addr) (n c : Nat) (l : List ND) (w : World) (hl : NdA w A n c l) (hI : ∀ x ∈ l, NdW x) (hT : Tb w.heap.size w) (hn : n ≤ 100000) : Calls Tryd.prog 10 #[.slice A n c] w (TwoP w (mksT [] l)) := by
  have hln := hl.len
  have HT := hid hT; have HL := hid hl; have HI := hid hI
  clear hT hl hI
  go_enter Tryd.func10, Tryd.ntmps10
  go_wp2_with fail
  refine (new_any _).mono ?_
  rintro e w3 ⟨Z0, sa, rfl, h1, h2, h3⟩
  have H1 := hid h1; have H2 := hid h2; have H3 := hid h3
  clear h1 h2 h3
  go_wp2_with fail
  refine (rnew_any _).mono ?_
  rintro e w4 ⟨Z1, sb, rfl, k1, k2, k3⟩
  have LC := hid (show Tw w w4 sa sb Z0 Z1 [] from ⟨H1.out.ext k3, k1, fun b hb hb' => by have := H1.out.zlt b hb; have := k2 b hb'; omega, H2.out, fun b hb => Nat.le_trans H3.out.size (k2 b hb), H3.out.trans (k3.mono H3.out.size)⟩)
  clear k1 k2 k3 H1 H2 H3
  go_wp2_with fail
  go_loopw [12] (fun v wr => ∃ (j : Nat) (Z Z' : Nat → Prop), v = .int .i64 j ∧ j ≤ n ∧ Tw w wr sa sb Z Z' (mksT [] (l.take j))) (fun v _ => n - (intOf v).toNat)
  case atStart => exact ⟨0, Z0, Z1, rfl, Nat.zero_le _, LC.out⟩
  case round =>
    clear LC
    obtain ⟨j, Z, Z', hv, hj, ht⟩ := hrel
    subst hv
    have HTT := hid ht
    clear ht
    by_cases hlt : j < n
    · obtain ⟨b, off, x, A', c', rfl, hx, y0', y1', y2', y3', ys⟩ := HL.out.at hlt
      have up : ∀ {p : Addr} {u : Value}, w.cell? p = some u → wr.cell? p = some u := fun h => (HTT.out.bl.cell (p := _) (block_lt_of_cell h)).trans h
      have y0 := up y0'; have y1 := up y1'; have y2 := up y2'; have y3 := up y3'
      clear up y0' y1' y2' y3'
      have HS := hid ys
      have HXI := hid (ndI_w (HI.out x (List.mem_of_getElem? hx)))
      have HM1 := hid (mksT_take (xs := []) hx)
      clear hx ys
      have hlt' : (j : Int) < (n : Int) := by omega
      have HZ1 := hid HTT.out.a.zlt
      have HZ2 := hid HTT.out.b.zlt
      have HBE := hid (show Below wr.heap.size wr (wr.alloc (.cells #[.int .i64 x.o, .int .i64 x.n, .string x.s, .slice A' x.l.length c'] 32)) from (Below.refl _ _).alloc (Nat.le_refl _) _)
      have h3w : w.heap.size ≤ wr.heap.size := HTT.out.sz
      go_upto_region 6 with fail
      refine forget (R := fun W => W.ownsRow wr.heap.size 32 4 (.slice (some ⟨wr.heap.size, 0, none⟩) 1 1) 1 [.int .i64 x.o, .int .i64 x.n, .string x.s, .slice A' x.l.length c'] ∧ Tw w W sa sb Z Z' (mksT [] (l.take j))) ?_ ⟨boxN, HTT.out.ext HBE.out⟩
      clear HTT HBE y0 y1 y2 y3
      rintro W6 ⟨h6, t6⟩
      have H6 := hid h6; have T6 := hid t6
      clear h6 t6
      obtain ⟨⟨p0, p1, p2, p3⟩, -⟩ := box4 H6.out
      go_wp2_with fail
      refine (mke_any Z sa _ w.heap.size W6 x A' c' T6.out.a (HS.out.ext T6.out.bl) (HT.out.on T6.out.bl) T6.out.sz HXI.out).mono ?_
      rintro e W7 ⟨rfl, hs7⟩
      obtain ⟨Z7, a7, q7, d7, z7, n7, t7, b7⟩ := T6.out.mkA hs7
      have H7 := hid (own_block H6.out (w' := W7) fun b hb => t7.block b (H6.out.lt b hb).2 fun hz => by have := HZ1.out b hz; have := (H6.out.lt b hb).1; omega)
      have A7 := hid a7; have Q7 := hid q7; have D7 := hid d7; have ZZ7 := hid z7; have B7 := hid b7
      have ZB := hid T6.out.zb
      clear a7 q7 d7 z7 n7 t7 b7 hs7 p0 p1 p2 p3 H6 T6
      obtain ⟨⟨p0, p1, p2, p3⟩, -⟩ := box4 H7.out
      go_wp2_with fail
      refine (rmke_any Z' sb _ W7 x A' c' Q7.out (HS.out.ext B7.out) HXI.out).mono ?_
      rintro e W8 ⟨rfl, hs8⟩
      obtain ⟨Z8, t8, u8, n8⟩ := Tw.mkB A7.out Q7.out D7.out ZZ7.out ZB.out B7.out hs8
      rw [← HM1.out] at t8
      have T8 := hid t8
      clear t8 u8 n8 hs8 p0 p1 p2 p3 H7 A7 Q7 D7 ZZ7 B7 ZB
      go_wp2_with fail
      go_roundw
      case rel => exact ⟨j + 1, Z7, Z8, by go_num, by omega, T8.out⟩
      case measure => simp [intOf]; omega
    · obtain rfl : j = n := by omega
      have hlt' : ¬ (j : Int) < (j : Int) := by omega
      rw [show l.take j = l from List.take_of_length_le (by omega)] at HTT
      go_wp2_with fail
      first | go_ret2 | go_ret
      exact (show TwoP _ _ _ _ from ⟨sa, sb, Z, Z', rfl, HTT.out⟩)
set_option maxHeartbeats 2000000 in
theorem few_any (A : Option Addr) (n c : Nat) (xs : List ND) (A2 : Option Addr) (m c2 : Nat) (qs : List (Option Addr × Nat × Nat)) (w : World) (h : NdA w A n c xs) (h2 : SlA w 1 A2 m c2 (qs.map fun q => .slice q.1 q.2.1 q.2.2)) (hm : m ≤ 1000) :
    Calls Tryd.prog 9 #[.slice A n c, .slice A2 m c2] w fun e w' => e = .returned (.bool (few5B xs (qs.map fun q => q.2.1))) ∧ Below w.heap.size w w' := by
  have HN := hid h.len
  have HL := hid h; have HQ2 := hid h2
  have HQL := hid (show qs.length = m by have := h2.len; simpa using this)
  clear h h2
  by_cases hbig : 40 < n
  · have HF := hid (few5_no (xs := xs) (ns := qs.map fun q => q.2.1) (fun e => by have := e.1; have := HN.out; omega))
    have hb' : (40 : Int) < (n : Int) := by omega
    clear hbig
    go_enter Tryd.func9, Tryd.ntmps9
    go_wp2_with fail
    go_ret
    exact ⟨by first | (rw [HF.out]; rfl) | rfl, Below.refl _ _⟩
  have hb' : ¬ (40 : Int) < (n : Int) := by omega
  go_enter Tryd.func9, Tryd.ntmps9
  go_wp2_with fail
  go_loopw [14] (fun v wr => ∃ j : Nat, v = .int .i64 j ∧ j ≤ n ∧ (∀ (k : Nat) x, k < j → xs[k]? = some x → x.s.size ≤ 60 ∧ x.l.length ≤ 6) ∧ Below w.heap.size w wr) (fun v _ => n - (intOf v).toNat)
  case atStart => exact ⟨0, rfl, Nat.zero_le _, fun k x h => by omega, Below.refl _ _⟩
  case round =>
    obtain ⟨j, hv, hj, hq, hbr⟩ := hrel
    subst hv
    have HQ := hid hq; have HB := hid hbr
    clear hq hbr
    by_cases hlt : j < n
    · obtain ⟨b, off, x, A', c', rfl, hx, y0, y1, y2, y3, -⟩ := (HL.out.ext HB.out).at hlt
      have HX := hid hx
      have HBA := hid (HB.out.alloc HB.out.size (.cells #[.int .i64 x.o, .int .i64 x.n, .string x.s, .slice A' x.l.length c'] 32))
      clear hx
      have hlt' : (j : Int) < (n : Int) := by omega
      by_cases hs : 60 < x.s.size
      · have HF := hid (few5_no (xs := xs) (ns := qs.map fun q => q.2.1) (fun e => by have := (e.2.1 x (List.mem_of_getElem? HX.out)).1; omega))
        have hs' : (60 : Int) < (x.s.size : Int) := by omega
        clear hs
        go_wp2_with fail
        go_ret
        exact ⟨by first | (rw [HF.out]; rfl) | rfl, HBA.out⟩
      · have hs' : ¬ (60 : Int) < (x.s.size : Int) := by omega
        by_cases hl : 6 < x.l.length
        · have HF := hid (few5_no (xs := xs) (ns := qs.map fun q => q.2.1) (fun e => by have := (e.2.1 x (List.mem_of_getElem? HX.out)).2; omega))
          have hl' : (6 : Int) < (x.l.length : Int) := by omega
          clear hs hl
          go_wp2_with fail
          go_ret
          exact ⟨by first | (rw [HF.out]; rfl) | rfl, HBA.out⟩
        · have hl' : ¬ (6 : Int) < (x.l.length : Int) := by omega
          have HO := hid (show x.s.size ≤ 60 ∧ x.l.length ≤ 6 by omega)
          clear hs hl
          go_wp2_with fail
          go_roundw
          case rel =>
            refine ⟨j + 1, by go_num, by omega, fun k y hk hy => ?_, HBA.out⟩
            by_cases hkj : k = j
            · subst hkj
              have := HX.out.symm.trans hy
              injection this with this
              rw [← this]; exact HO.out
            · exact HQ.out k y (by omega) hy
          case measure => simp [intOf]; omega
    · have HXF := hid (show ∀ x ∈ xs, x.s.size ≤ 60 ∧ x.l.length ≤ 6 from fun x hx => by
        obtain ⟨k, hk, rfl⟩ := List.mem_iff_getElem.1 hx
        exact HQ.out k _ (by have := HN.out; omega) (List.getElem?_eq_getElem hk))
      go_wp2_with fail
      go_loopw [31] (fun v wq => ∃ j2 : Nat, v = .int .i64 j2 ∧ j2 ≤ m ∧ (∀ (k : Nat) q, k < j2 → qs[k]? = some q → q.2.1 ≤ 20) ∧ wq = wr) (fun v _ => m - (intOf v).toNat)
      case atStart => exact ⟨0, rfl, Nat.zero_le _, fun k x h => by omega, rfl⟩
      case round =>
        obtain ⟨j2, hv, hj2, hq2, hw⟩ := hrel
        subst hv; subst hw
        have HQQ := hid hq2
        clear hq2
        by_cases hlt2 : j2 < m
        · have hlq : j2 < qs.length := by have := HQL.out; omega
          have hx : qs[j2]? = some qs[j2] := List.getElem?_eq_getElem hlq
          generalize qs[j2] = q at hx
          obtain ⟨qA, qn, qc⟩ := q
          obtain ⟨b, o, e, hc⟩ := (HQ2.out.ext HB.out).cells j2 (.slice qA qn qc) (by rw [List.getElem?_map, hx]; rfl)
          subst e
          have HX := hid hx
          clear hx
          have hlt2' : (j2 : Int) < (m : Int) := by omega
          by_cases hs : 20 < qn
          · have HF := hid (few5_no (xs := xs) (ns := qs.map fun q => q.2.1) (fun e => by have := e.2.2 qn (List.mem_map.2 ⟨_, List.mem_of_getElem? HX.out, rfl⟩); omega))
            have hs' : (20 : Int) < (qn : Int) := by omega
            clear hs
            go_wp2_with fail
            go_ret
            exact ⟨by first | (rw [HF.out]; rfl) | rfl, HB.out⟩
          · have hs' : ¬ (20 : Int) < (qn : Int) := by omega
            have HO := hid (show qn ≤ 20 by omega)
            clear hs
            go_wp2_with fail
            go_roundw
            case rel =>
              refine ⟨j2 + 1, by go_num, by omega, fun k y hk hy => ?_, by first | rfl | trivial⟩
              by_cases hkj : k = j2
              · subst hkj
                have := HX.out.symm.trans hy
                injection this with this
                rw [← this]; exact HO.out
              · exact HQQ.out k y (by omega) hy
            case measure => simp [intOf]; omega
        · have HF := hid (show few5B xs (qs.map fun q => q.2.1) = true from few5_iff.2 ⟨by have := HN.out; omega, HXF.out, fun k hk => by
            obtain ⟨q, hq, rfl⟩ := List.mem_map.1 hk
            obtain ⟨i, hi, rfl⟩ := List.mem_iff_getElem.1 hq
            exact HQQ.out i _ (by have := HQL.out; omega) (List.getElem?_eq_getElem hi)⟩)
          have hlt2' : ¬ (j2 : Int) < (m : Int) := by omega
          go_wp2_with fail
          go_ret
          exact ⟨by first | (rw [HF.out]; rfl) | rfl, HB.out⟩
end Go.Proofs.YtadbgmfdbahcbaaDoor

