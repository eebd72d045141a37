/- The reference's numbers read; vectors read, of both. -/
import Derived.Test.YtdleikgcgbokmaaA3
namespace Go.Proofs.Ytdleikgcgbokmaa
open Go.RowKit Go.KK
set_option linter.unusedVariables false
set_option linter.unusedSimpArgs false

def RInt (w : World) (l : List Int) (e : Ending) (w' : World) : Prop := e = .returned (.tuple #[.int .i64 (tint l).1, .int .i64 (tint l).2.1, .int .i64 (tint l).2.2]) ∧ Below w.heap.size w w'

theorem rtint_empty (A : Option Addr) (c : Nat) (w : World) :
    Calls Try.prog 26 #[.slice A 0 c] w (RInt w []) := by
  go_enter Try.func26, Try.ntmps26
  go_wp2
  go_ret3
  exact ⟨rfl, Below.refl _ _⟩

set_option maxHeartbeats 400000 in
theorem rtint_3 (A : Option Addr) (n c : Nat) (b0 : Int) (l : List Int) (w : World) (h : SlA w 1 A n c (l.map (.int .u8))) (hx : l[0]? = some b0) (hq : b0 / 64 = 3) (hn : 0 < n) :
    Calls Try.prog 26 #[.slice A n c] w fun e w' => e = .returned (.tuple #[.int .i64 0, .int .i64 0, .int .i64 11]) ∧ w = w' := by
  obtain ⟨b, off, x, rfl, hx', hc⟩ := h.elemI hn
  rw [hx] at hx'
  injection hx' with hx'
  subst hx'
  simp only [Nat.add_zero] at hc
  clear hx
  go_enter Try.func26, Try.ntmps26
  go_wp2
  go_ret3
  exact ⟨rfl, rfl⟩

set_option maxHeartbeats 400000 in
theorem rtint_short (A : Option Addr) (n c : Nat) (b0 : Int) (l : List Int) (q : Nat) (w : World) (h : SlA w 1 A n c (l.map (.int .u8))) (hx : l[0]? = some b0) (hq : b0 / 64 = q) (hq1 : q = 1 ∨ q = 2) (hn : 0 < n) (hs : n < 2 ^ q) :
    Calls Try.prog 26 #[.slice A n c] w fun e w' => e = .returned (.tuple #[.int .i64 0, .int .i64 0, .int .i64 10]) ∧ w = w' := by
  obtain ⟨b, off, x, rfl, hx', hc⟩ := h.elemI hn
  rw [hx] at hx'
  injection hx' with hx'
  subst hx'
  simp only [Nat.add_zero] at hc
  clear hx
  rcases hq1 with rfl | rfl
  · simp only [Int.cast_ofNat_Int, Nat.reducePow] at hq hs
    go_enter Try.func26, Try.ntmps26
    go_wp2
    go_ret3
    exact ⟨rfl, rfl⟩
  · simp only [Int.cast_ofNat_Int, Nat.reducePow] at hq hs
    go_enter Try.func26, Try.ntmps26
    go_wp2
    go_ret3
    exact ⟨rfl, rfl⟩

/-- The number behind j further bytes. -/
def acc (b0 : Int) (l : List Int) (j : Nat) : Int := ((l.drop 1).take j).foldl (fun a c => a * 256 + c) (b0 % 64)
theorem acc_snoc (b0 : Int) (l : List Int) (j : Nat) (x : Int) (h : l[j + 1]? = some x) : acc b0 l (j + 1) = acc b0 l j * 256 + x := by
  have : (l.drop 1)[j]? = some x := by rw [List.getElem?_drop, Nat.add_comm]; exact h
  unfold acc
  rw [take_snoc this, List.foldl_append]
  rfl
theorem acc_bd (b0 : Int) (l : List Int) (j : Nat) (hl : ∀ x ∈ l, 0 ≤ x ∧ x < 256) (hj : j ≤ 3) : 0 ≤ acc b0 l j ∧ acc b0 l j < 1073741824 := by
  obtain ⟨h1, h2⟩ := val_bd' ((l.drop 1).take j) (b0 % 64) (fun x hx => hl x (List.mem_of_mem_drop (List.mem_of_mem_take hx))) (by omega)
  refine ⟨h1, Int.lt_of_lt_of_le h2 ?_⟩
  have hlen : ((l.drop 1).take j).length ≤ 3 := by rw [List.length_take]; omega
  have : ((l.drop 1).take j).length = 0 ∨ ((l.drop 1).take j).length = 1 ∨ ((l.drop 1).take j).length = 2 ∨ ((l.drop 1).take j).length = 3 := by omega
  rcases this with e | e | e | e <;> rw [e] <;> simp <;> omega

set_option maxHeartbeats 1000000 in
theorem rtint_road0 (A : Option Addr) (n c : Nat) (b0 : Int) (l : List Int) (m : Int) (w : World) (h : SlA w 1 A n c (l.map (.int .u8))) (hl : ∀ x ∈ l, 0 ≤ x ∧ x < 256)
    (hx : l[0]? = some b0) (hq : b0 / 64 = 0) (hn : 1 ≤ n) (hm : acc b0 l 0 = m) :
    Calls Try.prog 26 #[.slice A n c] w fun e w' => e = .returned (.tuple #[.int .i64 (rd m 0).1, .int .i64 (rd m 0).2.1, .int .i64 (rd m 0).2.2]) ∧ Below w.heap.size w w' := by
  obtain ⟨hm0, hm1⟩ := acc_bd b0 l 0 hl (by omega)
  rw [hm] at hm0 hm1
  have hnc := h.nc
  have hcm := h.cm
  unfold maxLen at hcm
  obtain ⟨b, off, x, rfl, hx', hc⟩ := h.elemI (show 0 < n by omega)
  rw [hx] at hx'
  injection hx' with hx'
  subst hx'
  simp only [Nat.add_zero] at hc
  clear hx
  have hlen : (enc m).length = if m < 64 then 1 else if m < 16384 then 2 else 4 := by
    unfold enc
    by_cases h1 : m < 64
    · simp [h1]
    · by_cases h2 : m < 16384
      · simp [h1, h2]
      · simp [h1, h2]
  have hpos : 0 < (enc m).length := by rw [hlen]; split <;> (try split) <;> omega
  have HLEN := hid hlen; clear hlen
  have HM := hid hm; clear hm
  by_cases hc1 : c = 1
  · subst hc1
    by_cases hs : sz m = 0
    · have HG := hid (show rd m 0 = (m, 1, 0) by unfold rd; rw [hs]; rfl)
      have htest : (((enc m).length : Int) != 1) = false := by
        have h1 := sz_iff m
        have h2 := HLEN.out
        simp only [bne_eq_false_iff_eq]
        rw [h2]
        split <;> (try split) <;> omega
      clear hs
      go_enter Try.func26, Try.ntmps26
      go_wp2
      go_loop [6, 8, 37] (fun s _ i => ∃ j : Nat, j ≤ 0 ∧ i = .int .i64 j ∧ s = .int .i64 (acc b0 l j)) (fun _ _ i => 0 - (intOf i).toNat)
      case atStart => exact ⟨0, by omega, by simp, by simp [acc]⟩
      case round =>
        obtain ⟨j, hj, hi', hs'⟩ := hrel
        subst hi'; subst hs'
        by_cases hlt : j < 0
        · omega
        · have : j = 0 := by omega
          subst this
          rw [HM.out]
          go_wp2_with (go_at_call 16; refine (rint_ok m _ hm0 (by omega)).mono ?_; rintro e w1 ⟨v1, rfl, hown1, hb1⟩; obtain ⟨g, cap, rfl, _, _⟩ := hown1.form hpos)
          go_ret3
          exact ⟨by simp only [HG.out]; rfl, hb1⟩
    · have HG := hid (show rd m 0 = (0, 0, 11) by unfold rd; exact if_neg hs)
      have htest : (((enc m).length : Int) != 1) = true := by
        have h1 := sz_iff m
        have h2 := HLEN.out
        simp only [bne_iff_ne, ne_eq]
        rw [h2]
        split <;> (try split) <;> omega
      clear hs
      go_enter Try.func26, Try.ntmps26
      go_wp2
      go_loop [6, 8, 37] (fun s _ i => ∃ j : Nat, j ≤ 0 ∧ i = .int .i64 j ∧ s = .int .i64 (acc b0 l j)) (fun _ _ i => 0 - (intOf i).toNat)
      case atStart => exact ⟨0, by omega, by simp, by simp [acc]⟩
      case round =>
        obtain ⟨j, hj, hi', hs'⟩ := hrel
        subst hi'; subst hs'
        by_cases hlt : j < 0
        · omega
        · have : j = 0 := by omega
          subst this
          rw [HM.out]
          go_wp2_with (go_at_call 16; refine (rint_ok m _ hm0 (by omega)).mono ?_; rintro e w1 ⟨v1, rfl, hown1, hb1⟩; obtain ⟨g, cap, rfl, _, _⟩ := hown1.form hpos)
          go_ret3
          exact ⟨by simp only [HG.out]; rfl, hb1⟩
  · by_cases hs : sz m = 0
    · have HG := hid (show rd m 0 = (m, 1, 0) by unfold rd; rw [hs]; rfl)
      have htest : (((enc m).length : Int) != 1) = false := by
        have h1 := sz_iff m
        have h2 := HLEN.out
        simp only [bne_eq_false_iff_eq]
        rw [h2]
        split <;> (try split) <;> omega
      clear hs
      go_enter Try.func26, Try.ntmps26
      go_wp2
      go_loop [6, 8, 37] (fun s _ i => ∃ j : Nat, j ≤ 0 ∧ i = .int .i64 j ∧ s = .int .i64 (acc b0 l j)) (fun _ _ i => 0 - (intOf i).toNat)
      case atStart => exact ⟨0, by omega, by simp, by simp [acc]⟩
      case round =>
        obtain ⟨j, hj, hi', hs'⟩ := hrel
        subst hi'; subst hs'
        by_cases hlt : j < 0
        · omega
        · have : j = 0 := by omega
          subst this
          rw [HM.out]
          go_wp2_with (go_at_call 16; refine (rint_ok m _ hm0 (by omega)).mono ?_; rintro e w1 ⟨v1, rfl, hown1, hb1⟩; obtain ⟨g, cap, rfl, _, _⟩ := hown1.form hpos)
          go_ret3
          exact ⟨by simp only [HG.out]; rfl, hb1⟩
    · have HG := hid (show rd m 0 = (0, 0, 11) by unfold rd; exact if_neg hs)
      have htest : (((enc m).length : Int) != 1) = true := by
        have h1 := sz_iff m
        have h2 := HLEN.out
        simp only [bne_iff_ne, ne_eq]
        rw [h2]
        split <;> (try split) <;> omega
      clear hs
      go_enter Try.func26, Try.ntmps26
      go_wp2
      go_loop [6, 8, 37] (fun s _ i => ∃ j : Nat, j ≤ 0 ∧ i = .int .i64 j ∧ s = .int .i64 (acc b0 l j)) (fun _ _ i => 0 - (intOf i).toNat)
      case atStart => exact ⟨0, by omega, by simp, by simp [acc]⟩
      case round =>
        obtain ⟨j, hj, hi', hs'⟩ := hrel
        subst hi'; subst hs'
        by_cases hlt : j < 0
        · omega
        · have : j = 0 := by omega
          subst this
          rw [HM.out]
          go_wp2_with (go_at_call 16; refine (rint_ok m _ hm0 (by omega)).mono ?_; rintro e w1 ⟨v1, rfl, hown1, hb1⟩; obtain ⟨g, cap, rfl, _, _⟩ := hown1.form hpos)
          go_ret3
          exact ⟨by simp only [HG.out]; rfl, hb1⟩

set_option maxHeartbeats 1000000 in
theorem rtint_road1 (A : Option Addr) (n c : Nat) (b0 : Int) (l : List Int) (m : Int) (w : World) (h : SlA w 1 A n c (l.map (.int .u8))) (hl : ∀ x ∈ l, 0 ≤ x ∧ x < 256)
    (hx : l[0]? = some b0) (hq : b0 / 64 = 1) (hn : 2 ≤ n) (hm : acc b0 l 1 = m) :
    Calls Try.prog 26 #[.slice A n c] w fun e w' => e = .returned (.tuple #[.int .i64 (rd m 1).1, .int .i64 (rd m 1).2.1, .int .i64 (rd m 1).2.2]) ∧ Below w.heap.size w w' := by
  obtain ⟨hm0, hm1⟩ := acc_bd b0 l 1 hl (by omega)
  rw [hm] at hm0 hm1
  have hnc := h.nc
  have hcm := h.cm
  unfold maxLen at hcm
  obtain ⟨b, off, x, rfl, hx', hc⟩ := h.elemI (show 0 < n by omega)
  rw [hx] at hx'
  injection hx' with hx'
  subst hx'
  simp only [Nat.add_zero] at hc
  clear hx
  have hlen : (enc m).length = if m < 64 then 1 else if m < 16384 then 2 else 4 := by
    unfold enc
    by_cases h1 : m < 64
    · simp [h1]
    · by_cases h2 : m < 16384
      · simp [h1, h2]
      · simp [h1, h2]
  have hpos : 0 < (enc m).length := by rw [hlen]; split <;> (try split) <;> omega
  have HLEN := hid hlen; clear hlen
  have HM := hid hm; clear hm
  by_cases hs : sz m = 1
  · have HG := hid (show rd m 1 = (m, 2, 0) by unfold rd; rw [hs]; rfl)
    have htest : (((enc m).length : Int) != 2) = false := by
      have h1 := sz_iff m
      have h2 := HLEN.out
      simp only [bne_eq_false_iff_eq]
      rw [h2]
      split <;> (try split) <;> omega
    clear hs
    go_enter Try.func26, Try.ntmps26
    go_wp2
    go_loop [6, 8, 37] (fun s _ i => ∃ j : Nat, j ≤ 1 ∧ i = .int .i64 j ∧ s = .int .i64 (acc b0 l j)) (fun _ _ i => 1 - (intOf i).toNat)
    case atStart => exact ⟨0, by omega, by simp, by simp [acc]⟩
    case round =>
      obtain ⟨j, hj, hi', hs'⟩ := hrel
      subst hi'; subst hs'
      by_cases hlt : j < 1
      · obtain ⟨b', off', x, e', hx, hc2⟩ := h.elemI (show j + 1 < n by omega)
        injection e' with e'
        injection e' with e1 e2
        subst e1; subst e2
        obtain ⟨hx0, hx1⟩ := hl x (List.mem_of_getElem? hx)
        obtain ⟨hv0, hv1⟩ := acc_bd b0 l j hl (by omega)
        have HV := hid (acc_snoc b0 l j x hx)
        clear hx
        rw [show off + (j + 1) = off + 1 + j by omega] at hc2
        go_wp2
        go_round
        case rel => exact ⟨j + 1, by omega, by go_num, by rw [HV.out, Int.mul_comm]⟩
        case measure => simp [intOf]; omega
      · have : j = 1 := by omega
        subst this
        rw [HM.out]
        go_wp2_with (go_at_call 16; refine (rint_ok m _ hm0 (by omega)).mono ?_; rintro e w1 ⟨v1, rfl, hown1, hb1⟩; obtain ⟨g, cap, rfl, _, _⟩ := hown1.form hpos)
        go_ret3
        exact ⟨by simp only [HG.out]; rfl, hb1⟩
  · have HG := hid (show rd m 1 = (0, 0, 11) by unfold rd; exact if_neg hs)
    have htest : (((enc m).length : Int) != 2) = true := by
      have h1 := sz_iff m
      have h2 := HLEN.out
      simp only [bne_iff_ne, ne_eq]
      rw [h2]
      split <;> (try split) <;> omega
    clear hs
    go_enter Try.func26, Try.ntmps26
    go_wp2
    go_loop [6, 8, 37] (fun s _ i => ∃ j : Nat, j ≤ 1 ∧ i = .int .i64 j ∧ s = .int .i64 (acc b0 l j)) (fun _ _ i => 1 - (intOf i).toNat)
    case atStart => exact ⟨0, by omega, by simp, by simp [acc]⟩
    case round =>
      obtain ⟨j, hj, hi', hs'⟩ := hrel
      subst hi'; subst hs'
      by_cases hlt : j < 1
      · obtain ⟨b', off', x, e', hx, hc2⟩ := h.elemI (show j + 1 < n by omega)
        injection e' with e'
        injection e' with e1 e2
        subst e1; subst e2
        obtain ⟨hx0, hx1⟩ := hl x (List.mem_of_getElem? hx)
        obtain ⟨hv0, hv1⟩ := acc_bd b0 l j hl (by omega)
        have HV := hid (acc_snoc b0 l j x hx)
        clear hx
        rw [show off + (j + 1) = off + 1 + j by omega] at hc2
        go_wp2
        go_round
        case rel => exact ⟨j + 1, by omega, by go_num, by rw [HV.out, Int.mul_comm]⟩
        case measure => simp [intOf]; omega
      · have : j = 1 := by omega
        subst this
        rw [HM.out]
        go_wp2_with (go_at_call 16; refine (rint_ok m _ hm0 (by omega)).mono ?_; rintro e w1 ⟨v1, rfl, hown1, hb1⟩; obtain ⟨g, cap, rfl, _, _⟩ := hown1.form hpos)
        go_ret3
        exact ⟨by simp only [HG.out]; rfl, hb1⟩

set_option maxHeartbeats 1000000 in
theorem rtint_road2 (A : Option Addr) (n c : Nat) (b0 : Int) (l : List Int) (m : Int) (w : World) (h : SlA w 1 A n c (l.map (.int .u8))) (hl : ∀ x ∈ l, 0 ≤ x ∧ x < 256)
    (hx : l[0]? = some b0) (hq : b0 / 64 = 2) (hn : 4 ≤ n) (hm : acc b0 l 3 = m) :
    Calls Try.prog 26 #[.slice A n c] w fun e w' => e = .returned (.tuple #[.int .i64 (rd m 2).1, .int .i64 (rd m 2).2.1, .int .i64 (rd m 2).2.2]) ∧ Below w.heap.size w w' := by
  obtain ⟨hm0, hm1⟩ := acc_bd b0 l 3 hl (by omega)
  rw [hm] at hm0 hm1
  have hnc := h.nc
  have hcm := h.cm
  unfold maxLen at hcm
  obtain ⟨b, off, x, rfl, hx', hc⟩ := h.elemI (show 0 < n by omega)
  rw [hx] at hx'
  injection hx' with hx'
  subst hx'
  simp only [Nat.add_zero] at hc
  clear hx
  have hlen : (enc m).length = if m < 64 then 1 else if m < 16384 then 2 else 4 := by
    unfold enc
    by_cases h1 : m < 64
    · simp [h1]
    · by_cases h2 : m < 16384
      · simp [h1, h2]
      · simp [h1, h2]
  have hpos : 0 < (enc m).length := by rw [hlen]; split <;> (try split) <;> omega
  have HLEN := hid hlen; clear hlen
  have HM := hid hm; clear hm
  by_cases hs : sz m = 2
  · have HG := hid (show rd m 2 = (m, 4, 0) by unfold rd; rw [hs]; rfl)
    have htest : (((enc m).length : Int) != 4) = false := by
      have h1 := sz_iff m
      have h2 := HLEN.out
      simp only [bne_eq_false_iff_eq]
      rw [h2]
      split <;> (try split) <;> omega
    clear hs
    go_enter Try.func26, Try.ntmps26
    go_wp2
    go_loop [6, 8, 37] (fun s _ i => ∃ j : Nat, j ≤ 3 ∧ i = .int .i64 j ∧ s = .int .i64 (acc b0 l j)) (fun _ _ i => 3 - (intOf i).toNat)
    case atStart => exact ⟨0, by omega, by simp, by simp [acc]⟩
    case round =>
      obtain ⟨j, hj, hi', hs'⟩ := hrel
      subst hi'; subst hs'
      by_cases hlt : j < 3
      · obtain ⟨b', off', x, e', hx, hc2⟩ := h.elemI (show j + 1 < n by omega)
        injection e' with e'
        injection e' with e1 e2
        subst e1; subst e2
        obtain ⟨hx0, hx1⟩ := hl x (List.mem_of_getElem? hx)
        obtain ⟨hv0, hv1⟩ := acc_bd b0 l j hl (by omega)
        have HV := hid (acc_snoc b0 l j x hx)
        clear hx
        rw [show off + (j + 1) = off + 1 + j by omega] at hc2
        go_wp2
        go_round
        case rel => exact ⟨j + 1, by omega, by go_num, by rw [HV.out, Int.mul_comm]⟩
        case measure => simp [intOf]; omega
      · have : j = 3 := by omega
        subst this
        rw [HM.out]
        go_wp2_with (go_at_call 16; refine (rint_ok m _ hm0 (by omega)).mono ?_; rintro e w1 ⟨v1, rfl, hown1, hb1⟩; obtain ⟨g, cap, rfl, _, _⟩ := hown1.form hpos)
        go_ret3
        exact ⟨by simp only [HG.out]; rfl, hb1⟩
  · have HG := hid (show rd m 2 = (0, 0, 11) by unfold rd; exact if_neg hs)
    have htest : (((enc m).length : Int) != 4) = true := by
      have h1 := sz_iff m
      have h2 := HLEN.out
      simp only [bne_iff_ne, ne_eq]
      rw [h2]
      split <;> (try split) <;> omega
    clear hs
    go_enter Try.func26, Try.ntmps26
    go_wp2
    go_loop [6, 8, 37] (fun s _ i => ∃ j : Nat, j ≤ 3 ∧ i = .int .i64 j ∧ s = .int .i64 (acc b0 l j)) (fun _ _ i => 3 - (intOf i).toNat)
    case atStart => exact ⟨0, by omega, by simp, by simp [acc]⟩
    case round =>
      obtain ⟨j, hj, hi', hs'⟩ := hrel
      subst hi'; subst hs'
      by_cases hlt : j < 3
      · obtain ⟨b', off', x, e', hx, hc2⟩ := h.elemI (show j + 1 < n by omega)
        injection e' with e'
        injection e' with e1 e2
        subst e1; subst e2
        obtain ⟨hx0, hx1⟩ := hl x (List.mem_of_getElem? hx)
        obtain ⟨hv0, hv1⟩ := acc_bd b0 l j hl (by omega)
        have HV := hid (acc_snoc b0 l j x hx)
        clear hx
        rw [show off + (j + 1) = off + 1 + j by omega] at hc2
        go_wp2
        go_round
        case rel => exact ⟨j + 1, by omega, by go_num, by rw [HV.out, Int.mul_comm]⟩
        case measure => simp [intOf]; omega
      · have : j = 3 := by omega
        subst this
        rw [HM.out]
        go_wp2_with (go_at_call 16; refine (rint_ok m _ hm0 (by omega)).mono ?_; rintro e w1 ⟨v1, rfl, hown1, hb1⟩; obtain ⟨g, cap, rfl, _, _⟩ := hown1.form hpos)
        go_ret3
        exact ⟨by simp only [HG.out]; rfl, hb1⟩


/-- The reference's TakeInt, all of it. -/
theorem rtint_any (A : Option Addr) (n c : Nat) (l : List Int) (w : World) (h : SlA w 1 A n c (l.map (.int .u8))) (hl : ∀ x ∈ l, 0 ≤ x ∧ x < 256) :
    Calls Try.prog 26 #[.slice A n c] w (RInt w l) := by
  have hn := h.lenI
  rcases l with _ | ⟨b0, t⟩
  · have : n = 0 := by simpa using hn.symm
    subst this
    exact rtint_empty A c w
  · simp only [List.length_cons] at hn
    obtain ⟨hb0, hb1⟩ := hl b0 (by simp)
    by_cases h1 : b0 < 64
    · refine (rtint_road0 A n c b0 (b0 :: t) b0 w h hl rfl (by omega) (by omega) (by simp [acc]; omega)).mono fun e w' ⟨he, hw⟩ => ⟨?_, hw⟩
      rw [he]
      have : rd b0 0 = (b0, 1, 0) := by unfold rd; rw [if_pos]; exact (sz_iff b0).1.2 h1
      simp [this, tint, h1]
    · by_cases h2 : b0 < 128
      · rcases t with _ | ⟨b1, t⟩
        · refine (rtint_short A n c b0 [b0] 1 w h rfl (by omega) (.inl rfl) (by omega) (by simp at hn; omega)).mono fun e w' ⟨he, hw⟩ => ⟨?_, hw ▸ Below.refl _ _⟩
          rw [he]
          simp [tint, h1, h2]
        · obtain ⟨hc0, hc1⟩ := hl b1 (by simp)
          simp only [List.length_cons] at hn
          refine (rtint_road1 A n c b0 (b0 :: b1 :: t) ((b0 - 64) * 256 + b1) w h hl rfl (by omega) (by omega) (by simp [acc]; omega)).mono fun e w' ⟨he, hw⟩ => ⟨?_, hw⟩
          rw [he]
          by_cases h3 : (b0 - 64) * 256 + b1 < 64
          · have : rd ((b0 - 64) * 256 + b1) 1 = (0, 0, 11) := by unfold rd; rw [if_neg]; intro h4; have := (sz_iff _).2.1.1 h4; omega
            simp [this, tint, h1, h2, h3]
          · have : rd ((b0 - 64) * 256 + b1) 1 = ((b0 - 64) * 256 + b1, 2, 0) := by unfold rd; rw [if_pos]; exact (sz_iff _).2.1.2 ⟨by omega, by omega⟩
            simp [this, tint, h1, h2, h3]
      · by_cases h3 : b0 < 192
        · by_cases h4 : n < 4
          · refine (rtint_short A n c b0 (b0 :: t) 2 w h rfl (by omega) (.inr rfl) (by omega) (by omega)).mono fun e w' ⟨he, hw⟩ => ⟨?_, hw ▸ Below.refl _ _⟩
            rw [he]
            match t, hn with
            | [], _ => simp [tint, h1, h2, h3]
            | [_], _ => simp [tint, h1, h2, h3]
            | [_, _], _ => simp [tint, h1, h2, h3]
            | _ :: _ :: _ :: t, hn => simp at hn; omega
          · match t, hn, h, hl with
            | [], hn, _, _ => simp at hn; omega
            | [_], hn, _, _ => simp at hn; omega
            | [_, _], hn, _, _ => simp at hn; omega
            | b1 :: b2 :: b3 :: t, hn, h, hl =>
              obtain ⟨hc0, hc1⟩ := hl b1 (by simp)
              obtain ⟨hd0, hd1⟩ := hl b2 (by simp)
              obtain ⟨he0, he1⟩ := hl b3 (by simp)
              refine (rtint_road2 A n c b0 (b0 :: b1 :: b2 :: b3 :: t) ((b0 - 128) * 16777216 + b1 * 65536 + b2 * 256 + b3) w h hl rfl (by omega) (by omega) (by simp [acc]; omega)).mono fun e w' ⟨he, hw⟩ => ⟨?_, hw⟩
              rw [he]
              by_cases h5 : (b0 - 128) * 16777216 + b1 * 65536 + b2 * 256 + b3 < 16384
              · have : rd ((b0 - 128) * 16777216 + b1 * 65536 + b2 * 256 + b3) 2 = (0, 0, 11) := by unfold rd; rw [if_neg]; intro h4; have := (sz_iff _).2.2.1 h4; omega
                simp [this, tint, h1, h2, h3, h5]
              · have : rd ((b0 - 128) * 16777216 + b1 * 65536 + b2 * 256 + b3) 2 = ((b0 - 128) * 16777216 + b1 * 65536 + b2 * 256 + b3, 4, 0) := by unfold rd; rw [if_pos]; exact (sz_iff _).2.2.2 (by omega)
                simp [this, tint, h1, h2, h3, h5]
        · refine (rtint_3 A n c b0 (b0 :: t) w h rfl (by omega) (by omega)).mono fun e w' ⟨he, hw⟩ => ⟨?_, hw ▸ Below.refl _ _⟩
          rw [he]
          simp [tint, h1, h2, h3]

end Go.Proofs.Ytdleikgcgbokmaa
