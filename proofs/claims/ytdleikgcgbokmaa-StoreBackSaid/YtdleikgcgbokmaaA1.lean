/- wire, the program's and the reference's: numbers and vectors. -/
import Derived.Test.YtdleikgcgbokmaaRows
import Derived.Test.YtdleikgcgbokmaaK1
import Derived.Test.YtdleikgcgbokmaaShelf
namespace Go.Proofs.Ytdleikgcgbokmaa
open Go.RowKit Go.KK
set_option linter.unusedVariables false
set_option linter.unusedSimpArgs false

theorem Try.infoU8 : (Try.prog.info? 5).map (fun i => (i.zero, i.size, i.bytes)) = some (some (.int .u8 0), 1, 1) := by kernel_rfl

/-- The power of two of a number's width. -/
def sz (n : Int) : Int := if n < 64 then 0 else if n < 16384 then 1 else 2

set_option maxHeartbeats 400000 in
theorem size_any (n : Int) (w : World) :
    Calls Try.prog 20 #[.int .i64 n] w fun e w' => e = .returned (.int .i64 (sz n)) ∧ w = w' := by
  unfold sz
  by_cases h1 : n < 64
  · go_enter Try.func20, Try.ntmps20
    go_wp2
    go_ret
    exact ⟨by simp, rfl⟩
  · by_cases h2 : n < 16384
    · go_enter Try.func20, Try.ntmps20
      go_wp2
      go_ret
      exact ⟨by simp, rfl⟩
    · go_enter Try.func20, Try.ntmps20
      go_wp2
      go_ret
      exact ⟨by simp, rfl⟩

/-- n in k bytes, the highest first. -/
def be (n : Int) : Nat → List Int
  | 0 => []
  | k+1 => (n / 2 ^ (8 * k)) % 256 :: be n k
theorem be_len (n : Int) : ∀ k, (be n k).length = k
  | 0 => rfl
  | k+1 => by simp [be, be_len n k]
theorem be_get (n : Int) : ∀ (k j : Nat), j < k → (be n k)[j]? = some ((n / 2 ^ (8 * (k - 1 - j))) % 256)
  | 0, j, h => by omega
  | k+1, 0, _ => by simp [be]
  | k+1, j+1, h => by
    rw [be, List.getElem?_cons_succ, be_get n k j (by omega)]
    congr 5
    omega
theorem take_snoc {α : Type} {l : List α} {j : Nat} {x : α} (h : l[j]? = some x) : l.take (j + 1) = l.take j ++ [x] := by
  rw [List.take_add_one, h]; rfl

set_option maxHeartbeats 400000 in
theorem wide_any (n : Int) (k : Int) (w : World) (h0 : 0 ≤ n) (hk : 1 ≤ k) (hk8 : k ≤ 4) (h1 : n.toNat < 2 ^ (8 * k.toNat)) :
    Calls Try.prog 21 #[.int .u64 n, .int .i64 k] w fun e w' => ∃ v, e = .returned (.tuple #[v, .int .i64 0]) ∧ w'.ownsRow w.heap.size 5 1 v k.toNat ((be n k.toNat).map (.int .u8)) ∧ Below w.heap.size w w' := by
  obtain ⟨i0, hi, hz0, hz1, hz2⟩ := info_parts Try.infoU8
  have hb : (Lib.bitLen n.toNat : Int) ≤ 8 * k := by
    have := Lib.bitLen_le n.toNat (8 * k.toNat) (by omega) (by omega)
    omega
  have hn64 : n ≤ 18446744073709551615 := by
    have h2 : (2:Nat) ^ (8 * k.toNat) ≤ 2 ^ 32 := Nat.pow_le_pow_right (by omega) (by omega)
    omega
  have H1 := hid h1; clear h1
  have H64 := hid hn64; clear hn64
  go_enter Try.func21, Try.ntmps21
  go_wp2_with (go_at_call 27; refine (Try.bits_Len64 n _ h0 H64.out).mono ?_; rintro e w' ⟨rfl, rfl⟩)
  go_loopw [6, 7] (fun b i wr => ∃ j : Nat, (j : Int) ≤ k ∧ i = .int .i64 (k - 1 - j) ∧ wr.ownsRow w'.heap.size 5 1 b j (((be n k.toNat).take j).map (.int .u8)) ∧ Below w'.heap.size w' wr) (fun _ i _ => (intOf i + 1).toNat)
  case atStart => exact ⟨0, by omega, by simp, World.ownsRow_nil _ _ _ _, Below.refl _ _⟩
  case round =>
    obtain ⟨j, hj, rfl, hown, hbel⟩ := hrel
    by_cases hlt : (j:Int) < k
    · have HG := hid (be_get n k.toNat j (by omega))
      have hbs := hbel.size
      go_wp2_with (at_builtin; refine wpList_append_own _ rfl _ _ 24 rfl w'.heap.size 5 i0 (.int .u8 0) 1 1 Try.underlying24 hi hz0 hz1 hz2 rfl (by decide) _ _ _ rfl (hown.alloc _) ⟨wr.heap.size, 0, none⟩ 1 1 _ rfl rfl (cell_one_new _ _ _) (one_int _ _) (by unfold maxLen; omega) (by omega) (by simp; omega) ?_; intro v1 w1 hown1 hg1 _)
      have hb1 : Below w'.heap.size w' w1 := below_append (hbel.alloc hbel.size _) hg1 (hown.alloc _) (Nat.le_refl _) (by have := hbel.size; simp; omega)
      have hown2 : w1.ownsRow w'.heap.size 5 1 v1 (j + 1) (((be n k.toNat).take (j + 1)).map (.int .u8)) := by
        rw [take_snoc HG.out]
        simpa [show (8 * (k - 1 - (j:Int))).toNat = 8 * (k.toNat - 1 - j) by omega] using hown1
      clear hown1 hg1 hown
      go_wp2
      go_roundw
      case rel => exact ⟨j + 1, by omega, by go_num, hown2, hb1⟩
      case measure => simp [intOf]; omega
    · go_wp2
      go_ret2
      have : k.toNat = j := by omega
      rw [List.take_of_length_le (by rw [be_len]; omega)] at hown
      exact ⟨_, rfl, this ▸ hown, hbel⟩

/-- A number's bytes. -/
def enc (n : Int) : List Int := if n < 64 then [n] else if n < 16384 then [64 + n / 256, n % 256] else [128 + n / 16777216, n / 65536 % 256, n / 256 % 256, n % 256]

set_option maxHeartbeats 400000 in
theorem int_bad (n : Int) (w : World) (h : n < 0 ∨ 1073741823 < n) :
    Calls Try.prog 14 #[.int .i64 n] w fun e w' => e = .returned (.tuple #[.slice none 0 0, .int .i64 1]) ∧ w = w' := by
  rcases h with h | h
  · go_enter Try.func14, Try.ntmps14
    go_wp2
    go_ret2
    exact ⟨rfl, rfl⟩
  · go_enter Try.func14, Try.ntmps14
    go_wp2
    go_ret2
    exact ⟨rfl, rfl⟩

theorem or_fin : ∀ x : Fin 64, bits .or .u8 (x.val : Int) 0 = (x.val : Int) ∧ bits .or .u8 (x.val : Int) 64 = 64 + (x.val : Int) ∧ bits .or .u8 (x.val : Int) 128 = 128 + (x.val : Int) := by decide +kernel
theorem or_u8 (x : Int) (h0 : 0 ≤ x) (h1 : x < 64) : bits .or .u8 x 0 = x ∧ bits .or .u8 x 64 = 64 + x ∧ bits .or .u8 x 128 = 128 + x := by
  have := or_fin ⟨x.toNat, by omega⟩
  simpa [Int.toNat_of_nonneg h0] using this

set_option maxHeartbeats 400000 in
theorem int_1 (n : Int) (w : World) (h0 : 0 ≤ n) (h1 : n < 64) :
    Calls Try.prog 14 #[.int .i64 n] w fun e w' => ∃ v, e = .returned (.tuple #[v, .int .i64 0]) ∧ w'.ownsRow w.heap.size 5 1 v 1 ((enc n).map (.int .u8)) ∧ Below w.heap.size w w' := by
  have hs : sz n = 0 := by simp [sz, h1]
  have hbe : be n (Int.toNat 1) = [n] := by simp only [be, Int.toNat, Int.reduceToNat]; simp; omega
  have hen : enc n = [n] := by simp [enc, *]
  have HB := hid hbe; have HE := hid hen; clear hbe hen
  go_enter Try.func14, Try.ntmps14
  go_wp2_with (first | (go_at_call 20; refine (size_any n _).mono ?_; rintro e w' ⟨rfl, rfl⟩) | (go_at_call 21; refine (wide_any n 1 _ (by omega) (by omega) (by omega) (by simp; omega)).mono ?_; rintro e w' ⟨v, rfl, hown, hb⟩; rw [HB.out] at hown; obtain ⟨g, cap, rfl, hbg, hlt⟩ := hown.form (by decide); have hc : w'.cell? ⟨g, 0, none⟩ = some (.int .u8 n) := hown.cellAt 0 (by decide); have hf := hown.frozenAt 0; have hcap := (SlA.of_own hown).2.nc))
  go_ret2
  obtain ⟨h2, h3⟩ := hown.stored 0 (.int .u8 (bits .or .u8 n 0))
  refine ⟨_, rfl, ?_, hb.setCell hbg _⟩
  rw [HE.out]
  simpa [(or_u8 n h0 h1).1] using h2

set_option maxHeartbeats 400000 in
theorem int_2 (n : Int) (w : World) (h0 : 64 ≤ n) (h1 : n < 16384) :
    Calls Try.prog 14 #[.int .i64 n] w fun e w' => ∃ v, e = .returned (.tuple #[v, .int .i64 0]) ∧ w'.ownsRow w.heap.size 5 1 v 2 ((enc n).map (.int .u8)) ∧ Below w.heap.size w w' := by
  have hs : sz n = 1 := by simp only [sz]; rw [if_neg (by omega), if_pos h1]
  have hbe : be n (Int.toNat 2) = [n / 256 % 256, n % 256] := by simp only [be, Int.toNat, Int.reduceToNat]; simp
  have hen : enc n = [64 + n / 256, n % 256] := by unfold enc; rw [if_neg (by omega)]; rw [if_pos (by omega)]
  have HB := hid hbe; have HE := hid hen; clear hbe hen
  go_enter Try.func14, Try.ntmps14
  go_wp2_with (first | (go_at_call 20; refine (size_any n _).mono ?_; rintro e w' ⟨rfl, rfl⟩) | (go_at_call 21; refine (wide_any n 2 _ (by omega) (by omega) (by omega) (by simp; omega)).mono ?_; rintro e w' ⟨v, rfl, hown, hb⟩; rw [HB.out] at hown; obtain ⟨g, cap, rfl, hbg, hlt⟩ := hown.form (by decide); have hc : w'.cell? ⟨g, 0, none⟩ = some (.int .u8 (n / 256 % 256)) := hown.cellAt 0 (by decide); have hf := hown.frozenAt 0; have hcap := (SlA.of_own hown).2.nc))
  go_ret2
  obtain ⟨h2, h3⟩ := hown.stored 0 (.int .u8 (bits .or .u8 (n / 256 % 256) 64))
  refine ⟨_, rfl, ?_, hb.setCell hbg _⟩
  rw [HE.out]
  simpa [(or_u8 (n / 256) (by omega) (by omega)).2.1, show n / 256 % 256 = n / 256 by omega] using h2

set_option maxHeartbeats 400000 in
theorem int_4 (n : Int) (w : World) (h0 : 16384 ≤ n) (h1 : n ≤ 1073741823) :
    Calls Try.prog 14 #[.int .i64 n] w fun e w' => ∃ v, e = .returned (.tuple #[v, .int .i64 0]) ∧ w'.ownsRow w.heap.size 5 1 v 4 ((enc n).map (.int .u8)) ∧ Below w.heap.size w w' := by
  have hs : sz n = 2 := by simp only [sz]; rw [if_neg (by omega), if_neg (by omega)]
  have hbe : be n (Int.toNat 4) = [n / 16777216 % 256, n / 65536 % 256, n / 256 % 256, n % 256] := by simp only [be, Int.toNat, Int.reduceToNat]; simp
  have hen : enc n = [128 + n / 16777216, n / 65536 % 256, n / 256 % 256, n % 256] := by unfold enc; rw [if_neg (by omega)]; rw [if_neg (by omega)]
  have HB := hid hbe; have HE := hid hen; clear hbe hen
  go_enter Try.func14, Try.ntmps14
  go_wp2_with (first | (go_at_call 20; refine (size_any n _).mono ?_; rintro e w' ⟨rfl, rfl⟩) | (go_at_call 21; refine (wide_any n 4 _ (by omega) (by omega) (by omega) (by simp; omega)).mono ?_; rintro e w' ⟨v, rfl, hown, hb⟩; rw [HB.out] at hown; obtain ⟨g, cap, rfl, hbg, hlt⟩ := hown.form (by decide); have hc : w'.cell? ⟨g, 0, none⟩ = some (.int .u8 (n / 16777216 % 256)) := hown.cellAt 0 (by decide); have hf := hown.frozenAt 0; have hcap := (SlA.of_own hown).2.nc))
  go_ret2
  obtain ⟨h2, h3⟩ := hown.stored 0 (.int .u8 (bits .or .u8 (n / 16777216 % 256) 128))
  refine ⟨_, rfl, ?_, hb.setCell hbg _⟩
  rw [HE.out]
  simpa [(or_u8 (n / 16777216) (by omega) (by omega)).2.2, show n / 16777216 % 256 = n / 16777216 by omega] using h2

/-- wire.Int, all of it. -/
theorem int_ok (n : Int) (w : World) (h0 : 0 ≤ n) (h1 : n ≤ 1073741823) :
    Calls Try.prog 14 #[.int .i64 n] w fun e w' => ∃ v, e = .returned (.tuple #[v, .int .i64 0]) ∧ w'.ownsRow w.heap.size 5 1 v (enc n).length ((enc n).map (.int .u8)) ∧ Below w.heap.size w w' := by
  by_cases h2 : n < 64
  · exact (int_1 n w h0 h2).mono fun e w' ⟨v, he, ho, hb⟩ => ⟨v, he, by rw [show (enc n).length = 1 by simp [enc, h2]]; exact ho, hb⟩
  · by_cases h3 : n < 16384
    · exact (int_2 n w (by omega) h3).mono fun e w' ⟨v, he, ho, hb⟩ => ⟨v, he, by rw [show (enc n).length = 2 by simp [enc, h2, h3]]; exact ho, hb⟩
    · exact (int_4 n w (by omega) h1).mono fun e w' ⟨v, he, ho, hb⟩ => ⟨v, he, by rw [show (enc n).length = 4 by simp [enc, h2, h3]]; exact ho, hb⟩

/-- The reference's Int. -/
theorem rint_bad (n : Int) (w : World) (h : n < 0 ∨ 1073741823 < n) :
    Calls Try.prog 16 #[.int .i64 n] w fun e w' => e = .returned (.tuple #[.slice none 0 0, .int .i64 1]) ∧ w = w' := by
  rcases h with h | h
  · go_enter Try.func16, Try.ntmps16
    go_wp2
    go_ret2
    exact ⟨rfl, rfl⟩
  · go_enter Try.func16, Try.ntmps16
    go_wp2
    go_ret2
    exact ⟨rfl, rfl⟩

set_option maxHeartbeats 400000 in
theorem rint_ok (n : Int) (w : World) (h0 : 0 ≤ n) (h1 : n ≤ 1073741823) :
    Calls Try.prog 16 #[.int .i64 n] w fun e w' => ∃ v, e = .returned (.tuple #[v, .int .i64 0]) ∧ w'.ownsRow w.heap.size 5 1 v (enc n).length ((enc n).map (.int .u8)) ∧ Below w.heap.size w w' := by
  by_cases h2 : n < 64
  · have hen : enc n = [n] := by simp [enc, h2]
    have HE := hid hen; clear hen
    go_enter Try.func16, Try.ntmps16
    go_wp2
    go_ret2
    refine ⟨_, rfl, ?_, (Below.refl _ _).alloc (Nat.le_refl _) _⟩
    rw [HE.out]
    exact World.ownsRow_lit w _ 1 (Nat.le_refl _) (by unfold maxLen; omega) rfl
  · by_cases h3 : n < 16384
    · have hen : enc n = [64 + n / 256, n % 256] := by simp [enc, h2, h3]
      have HE := hid hen; clear hen
      go_enter Try.func16, Try.ntmps16
      go_wp2
      go_ret2
      refine ⟨_, rfl, ?_, (Below.refl _ _).alloc (Nat.le_refl _) _⟩
      rw [HE.out]
      exact World.ownsRow_lit w _ 2 (Nat.le_refl _) (by unfold maxLen; omega) rfl
    · have hen : enc n = [128 + n / 16777216, n / 65536 % 256, n / 256 % 256, n % 256] := by simp [enc, h2, h3]
      have HE := hid hen; clear hen
      go_enter Try.func16, Try.ntmps16
      go_wp2
      go_ret2
      refine ⟨_, rfl, ?_, (Below.refl _ _).alloc (Nat.le_refl _) _⟩
      rw [HE.out]
      exact World.ownsRow_lit w _ 4 (Nat.le_refl _) (by unfold maxLen; omega) rfl

end Go.Proofs.Ytdleikgcgbokmaa
