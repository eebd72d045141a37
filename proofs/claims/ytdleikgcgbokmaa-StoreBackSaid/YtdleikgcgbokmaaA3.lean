/- wire: vectors written; numbers and vectors read. -/
import Derived.Test.YtdleikgcgbokmaaA2
namespace Go.Proofs.Ytdleikgcgbokmaa
open Go.RowKit Go.KK
set_option linter.unusedVariables false
set_option linter.unusedSimpArgs false

theorem enc_le (n : Int) : (enc n).length ≤ 4 := by
  unfold enc
  by_cases h1 : n < 64
  · simp [h1]
  · by_cases h2 : n < 16384
    · simp [h1, h2]
    · simp [h1, h2]
theorem slb_two {w : World} {A B : Option Addr} {n m c d : Nat} {l k : List Int} (ha : SlA w 1 A n c (l.map (.int .u8))) (hb : SlA w 1 B m d (k.map (.int .u8))) :
    SlB (w.alloc (.cells #[.slice A n c, .slice B m d] 24)) (some ⟨w.heap.size, 0, none⟩) 2 2 [l, k] := by
  refine ⟨[.slice A n c, .slice B m d], (SlA.of_own (World.ownsRow_lit (e := 24) (base := 0) (size := 1) w #[.slice A n c, .slice B m d] 2 (Nat.zero_le _) (by unfold maxLen; omega) rfl)).2, rfl, ?_⟩
  intro i v x hv hx
  match i, hv, hx with
  | 0, hv, hx =>
    simp at hv hx; subst hv; subst hx
    exact ⟨_, _, _, rfl, ha.alloc _⟩
  | 1, hv, hx =>
    simp at hv hx; subst hv; subst hx
    exact ⟨_, _, _, rfl, hb.alloc _⟩

set_option maxHeartbeats 400000 in
theorem bytes_ok (A : Option Addr) (n c : Nat) (l : List Int) (w : World) (h : SlA w 1 A n c (l.map (.int .u8))) (hn : n ≤ 1073741823) :
    Calls Try.prog 15 #[.slice A n c] w fun e w' => ∃ v, e = .returned (.tuple #[v, .int .i64 0]) ∧ w'.ownsRow w.heap.size 5 1 v (enc n ++ l).length ((enc n ++ l).map (.int .u8)) ∧ Below w.heap.size w w' := by
  have hel : (enc n).length ≤ 4 := enc_le n
  have hll : l.length = n := by have := h.len; simpa using this
  have HLL := hid hll; clear hll
  go_enter Try.func15, Try.ntmps15
  go_wp2_with (first
    | (go_at_call 14; refine (int_ok n _ (by omega) (by omega)).mono ?_; rintro e w1 ⟨v1, rfl, hown1, hb1⟩; obtain ⟨A1, c1, rfl, hs1⟩ := SlA.owned hown1; have hsz1 := hb1.size)
    | (go_at_call 22; refine (concat_u8 _ 2 2 _ _ (slb_two hs1 (h.ext hb1)) (by omega) (by simp [HLL.out]; omega)).mono ?_; rintro e w2 ⟨v2, rfl, hown2, hb2⟩))
  go_ret2
  refine ⟨_, rfl, ?_, (hb1.alloc hsz1 _).trans (hb2.mono (by simp; omega))⟩
  rw [show (enc (n:Int) ++ l) = [enc (n:Int), l].flatten by simp]
  exact own_mono hown2 (by simp; omega)

theorem or64 (s x : Int) (h0 : 0 ≤ s) (h1 : s < 4294967296) (hx0 : 0 ≤ x) (hx1 : x < 256) : bits .or .u64 (s * 256) x = s * 256 + x := by
  rw [u64_or _ _ (by omega) (by omega) hx0 (by omega), nat_join 8 _ _ (by omega) (by omega)]
  omega

/-- The number of some bytes, the highest first. -/
def val (l : List Int) : Int := l.foldl (fun a c => a * 256 + c) 0
theorem val_snoc (l : List Int) (x : Int) : val (l ++ [x]) = val l * 256 + x := by simp [val]
theorem val_bd' : ∀ (l : List Int) (a : Int), (∀ x ∈ l, 0 ≤ x ∧ x < 256) → 0 ≤ a → 0 ≤ l.foldl (fun a c => a * 256 + c) a ∧ l.foldl (fun a c => a * 256 + c) a < (a + 1) * 256 ^ l.length
  | [], a, _, h0 => by simp; omega
  | x :: l, a, h, h0 => by
    obtain ⟨hx0, hx1⟩ := h x (by simp)
    obtain ⟨h1, h2⟩ := val_bd' l (a * 256 + x) (fun y hy => h y (by simp [hy])) (by omega)
    refine ⟨h1, Int.lt_of_lt_of_le h2 ?_⟩
    rw [List.length_cons, Int.pow_succ, Int.mul_comm (256 ^ l.length) 256, ← Int.mul_assoc]
    exact Int.mul_le_mul_of_nonneg_right (by omega) (Int.pow_nonneg (by omega))
theorem val_bd (l : List Int) (h : ∀ x ∈ l, 0 ≤ x ∧ x < 256) : 0 ≤ val l ∧ val l < 256 ^ l.length := by
  have := val_bd' l 0 h (by omega)
  simpa [val] using this
theorem val_bd3 (l : List Int) (h : ∀ x ∈ l, 0 ≤ x ∧ x < 256) (hl : l.length ≤ 4) : 0 ≤ val l ∧ val l < 4294967296 := by
  obtain ⟨h1, h2⟩ := val_bd l h
  refine ⟨h1, Int.lt_of_lt_of_le h2 ?_⟩
  have : l.length = 0 ∨ l.length = 1 ∨ l.length = 2 ∨ l.length = 3 ∨ l.length = 4 := by omega
  rcases this with e | e | e | e | e <;> rw [e] <;> decide

set_option maxHeartbeats 400000 in
theorem takewide_ok (A : Option Addr) (n c : Nat) (l : List Int) (k : Nat) (w : World) (h : SlA w 1 A n c (l.map (.int .u8))) (hl : ∀ x ∈ l, 0 ≤ x ∧ x < 256) (hk : 1 ≤ k) (hk4 : k ≤ 4) (hkn : k ≤ n) :
    Calls Try.prog 30 #[.slice A n c, .int .i64 k] w fun e w' => e = .returned (.tuple #[.int .u64 (val (l.take k)), .int .i64 0]) ∧ w = w' := by
  have hnc := h.nc
  have hcm := h.cm
  unfold maxLen at hcm
  go_enter Try.func30, Try.ntmps30
  go_wp2
  go_loop [4, 7, 24] (fun s _ i => ∃ j : Nat, j ≤ k ∧ i = .int .i64 j ∧ s = .int .u64 (val (l.take j))) (fun _ _ i => k - (intOf i).toNat)
  case atStart => exact ⟨0, by omega, by simp, by simp [val]⟩
  case round =>
    obtain ⟨j, hj, hi', hs'⟩ := hrel
    subst hi'; subst hs'
    by_cases hlt : j < k
    · obtain ⟨b, off, x, rfl, hx, hc⟩ := h.elemI (show j < n by omega)
      obtain ⟨hx0, hx1⟩ := hl x (List.mem_of_getElem? hx)
      obtain ⟨hv0, hv1⟩ := val_bd3 (l.take j) (fun y hy => hl y (List.mem_of_mem_take hy)) (by rw [List.length_take]; omega)
      have HV := hid (show val (l.take (j + 1)) = val (l.take j) * 256 + x by rw [take_snoc hx, val_snoc])
      clear hx
      have HO := hid (or64 _ x hv0 hv1 hx0 hx1)
      go_wp2
      go_round
      case rel => exact ⟨j + 1, by omega, by go_num, by rw [HV.out, HO.out]⟩
      case measure => simp [intOf]; omega
    · have : j = k := by omega
      subst this
      go_wp2
      go_ret2
      exact ⟨rfl, rfl⟩


set_option maxHeartbeats 400000 in
theorem takewide_short (A : Option Addr) (n c : Nat) (k : Nat) (w : World) (hk : 1 ≤ k) (hk4 : k ≤ 4) (hkn : n < k) :
    Calls Try.prog 30 #[.slice A n c, .int .i64 k] w fun e w' => e = .returned (.tuple #[.int .u64 0, .int .i64 10]) ∧ w = w' := by
  go_enter Try.func30, Try.ntmps30
  go_wp2
  go_ret2
  exact ⟨rfl, rfl⟩

/-- What stands at the beginning: the number, how many bytes it has, an error. -/
def tint : List Int → Int × Nat × Int
  | [] => (0, 0, 10)
  | b0 :: t =>
    if b0 < 64 then (b0, 1, 0)
    else if b0 < 128 then (match t with | b1 :: _ => if (b0 - 64) * 256 + b1 < 64 then (0, 0, 11) else ((b0 - 64) * 256 + b1, 2, 0) | _ => (0, 0, 10))
    else if b0 < 192 then (match t with | b1 :: b2 :: b3 :: _ => if (b0 - 128) * 16777216 + b1 * 65536 + b2 * 256 + b3 < 16384 then (0, 0, 11) else ((b0 - 128) * 16777216 + b1 * 65536 + b2 * 256 + b3, 4, 0) | _ => (0, 0, 10))
    else (0, 0, 11)

def TInt (w : World) (l : List Int) (e : Ending) (w' : World) : Prop := e = .returned (.tuple #[.int .i64 (tint l).1, .int .i64 (tint l).2.1, .int .i64 (tint l).2.2]) ∧ w = w'

theorem tint_empty (A : Option Addr) (c : Nat) (w : World) :
    Calls Try.prog 24 #[.slice A 0 c] w (TInt w []) := by
  go_enter Try.func24, Try.ntmps24
  go_wp2
  go_ret3
  exact ⟨rfl, rfl⟩

/-- The common road behind the first byte: the bytes are there. -/
theorem mask_i64 (V m : Int) (k : Nat) (hk : k ≤ 32) (h0 : 0 ≤ V) (h1 : V < 4294967296) (hm : V % 2 ^ k = m) : bits .and .i64 V (2 ^ k - 1) = m := by
  have hp : (2:Nat) ^ k ≤ 2 ^ 32 := Nat.pow_le_pow_right (by omega) hk
  have hp1 : 1 ≤ (2:Nat) ^ k := Nat.one_le_two_pow
  have e : ((2:Int) ^ k - 1) = ((2 ^ k - 1 : Nat) : Int) := by
    rw [Int.natCast_sub hp1]; simp
  rw [e, i64_and _ _ h0 (by omega) (by omega) (by omega), Int.toNat_natCast, Nat.and_two_pow_sub_one_eq_mod]
  rw [← hm, Int.natCast_emod, Int.toNat_of_nonneg h0]
  simp

def rd (m : Int) (q : Nat) : Int × Nat × Int := if sz m = q then (m, 2 ^ q, 0) else (0, 0, 11)

set_option maxHeartbeats 400000 in
theorem tint_road (A : Option Addr) (n c : Nat) (b0 : Int) (l : List Int) (q : Nat) (V m : Int) (w : World) (h : SlA w 1 A n c (l.map (.int .u8))) (hl : ∀ x ∈ l, 0 ≤ x ∧ x < 256)
    (hx : l[0]? = some b0) (hq : b0 / 64 = q) (hq2 : q ≤ 2) (hn : 2 ^ q ≤ n) (hV : val (l.take (2 ^ q)) = V) (hm : V % 2 ^ (8 * 2 ^ q - 2) = m) :
    Calls Try.prog 24 #[.slice A n c] w fun e w' => e = .returned (.tuple #[.int .i64 (rd m q).1, .int .i64 (rd m q).2.1, .int .i64 (rd m q).2.2]) ∧ w = w' := by
  have hb : 0 ≤ V ∧ V < 4294967296 := by
    rw [← hV]
    refine val_bd3 _ (fun y hy => hl y (List.mem_of_mem_take hy)) ?_
    rw [List.length_take]
    have : (2:Nat) ^ q ≤ 2 ^ 2 := Nat.pow_le_pow_right (by omega) hq2
    omega
  obtain ⟨hV0, hV1⟩ := hb
  have HV := hid hV; clear hV
  have h1n : 0 < n := Nat.lt_of_lt_of_le (Nat.two_pow_pos q) hn
  obtain ⟨b, off, x, rfl, hx', hc⟩ := h.elemI h1n
  rw [hx] at hx'
  injection hx' with hx'
  subst hx'
  simp only [Nat.add_zero] at hc
  clear hx
  have HM := hid hm; clear hm
  have hcase : q = 0 ∨ q = 1 ∨ q = 2 := by omega
  rcases hcase with rfl | rfl | rfl
  · have HA : bits .and .i64 V 63 = m := mask_i64 V m 6 (by omega) hV0 hV1 HM.out
    simp only [Int.cast_ofNat_Int, Nat.reducePow] at hq hn
    by_cases hs : sz m = 0
    · have HG := hid (show rd m 0 = (m, 1, 0) by unfold rd; rw [hs]; rfl)
      have hs2 : (sz m != 0) = false := by simp [hs]
      clear hs
      go_enter Try.func24, Try.ntmps24
      go_wp2_with (first
        | (go_at_call 30; refine (takewide_ok _ n c l 1 _ h hl (by omega) (by omega) hn).mono ?_; rintro e w' ⟨rfl, rfl⟩; rw [show List.take 1 l = List.take (2 ^ 0) l from rfl, HV.out])
        | (go_at_call 20; refine (size_any _ _).mono ?_; rintro e w' ⟨rfl, rfl⟩))
      go_ret3
      exact ⟨by simp only [HG.out]; rfl, rfl⟩
    · have HG := hid (show rd m 0 = (0, 0, 11) by unfold rd; exact if_neg hs)
      have hs2 : (sz m != 0) = true := by simpa using hs
      clear hs
      go_enter Try.func24, Try.ntmps24
      go_wp2_with (first
        | (go_at_call 30; refine (takewide_ok _ n c l 1 _ h hl (by omega) (by omega) hn).mono ?_; rintro e w' ⟨rfl, rfl⟩; rw [show List.take 1 l = List.take (2 ^ 0) l from rfl, HV.out])
        | (go_at_call 20; refine (size_any _ _).mono ?_; rintro e w' ⟨rfl, rfl⟩))
      go_ret3
      exact ⟨by simp only [HG.out]; rfl, rfl⟩
  · have HA : bits .and .i64 V 16383 = m := mask_i64 V m 14 (by omega) hV0 hV1 HM.out
    simp only [Int.cast_ofNat_Int, Nat.reducePow] at hq hn
    by_cases hs : sz m = 1
    · have HG := hid (show rd m 1 = (m, 2, 0) by unfold rd; rw [hs]; rfl)
      have hs2 : (sz m != 1) = false := by simp [hs]
      clear hs
      go_enter Try.func24, Try.ntmps24
      go_wp2_with (first
        | (go_at_call 30; refine (takewide_ok _ n c l 2 _ h hl (by omega) (by omega) hn).mono ?_; rintro e w' ⟨rfl, rfl⟩; rw [show List.take 2 l = List.take (2 ^ 1) l from rfl, HV.out])
        | (go_at_call 20; refine (size_any _ _).mono ?_; rintro e w' ⟨rfl, rfl⟩))
      go_ret3
      exact ⟨by simp only [HG.out]; rfl, rfl⟩
    · have HG := hid (show rd m 1 = (0, 0, 11) by unfold rd; exact if_neg hs)
      have hs2 : (sz m != 1) = true := by simpa using hs
      clear hs
      go_enter Try.func24, Try.ntmps24
      go_wp2_with (first
        | (go_at_call 30; refine (takewide_ok _ n c l 2 _ h hl (by omega) (by omega) hn).mono ?_; rintro e w' ⟨rfl, rfl⟩; rw [show List.take 2 l = List.take (2 ^ 1) l from rfl, HV.out])
        | (go_at_call 20; refine (size_any _ _).mono ?_; rintro e w' ⟨rfl, rfl⟩))
      go_ret3
      exact ⟨by simp only [HG.out]; rfl, rfl⟩
  · have HA : bits .and .i64 V 1073741823 = m := mask_i64 V m 30 (by omega) hV0 hV1 HM.out
    simp only [Int.cast_ofNat_Int, Nat.reducePow] at hq hn
    by_cases hs : sz m = 2
    · have HG := hid (show rd m 2 = (m, 4, 0) by unfold rd; rw [hs]; rfl)
      have hs2 : (sz m != 2) = false := by simp [hs]
      clear hs
      go_enter Try.func24, Try.ntmps24
      go_wp2_with (first
        | (go_at_call 30; refine (takewide_ok _ n c l 4 _ h hl (by omega) (by omega) hn).mono ?_; rintro e w' ⟨rfl, rfl⟩; rw [show List.take 4 l = List.take (2 ^ 2) l from rfl, HV.out])
        | (go_at_call 20; refine (size_any _ _).mono ?_; rintro e w' ⟨rfl, rfl⟩))
      go_ret3
      exact ⟨by simp only [HG.out]; rfl, rfl⟩
    · have HG := hid (show rd m 2 = (0, 0, 11) by unfold rd; exact if_neg hs)
      have hs2 : (sz m != 2) = true := by simpa using hs
      clear hs
      go_enter Try.func24, Try.ntmps24
      go_wp2_with (first
        | (go_at_call 30; refine (takewide_ok _ n c l 4 _ h hl (by omega) (by omega) hn).mono ?_; rintro e w' ⟨rfl, rfl⟩; rw [show List.take 4 l = List.take (2 ^ 2) l from rfl, HV.out])
        | (go_at_call 20; refine (size_any _ _).mono ?_; rintro e w' ⟨rfl, rfl⟩))
      go_ret3
      exact ⟨by simp only [HG.out]; rfl, rfl⟩

set_option maxHeartbeats 400000 in
theorem tint_3 (A : Option Addr) (n c : Nat) (b0 : Int) (l : List Int) (w : World) (h : SlA w 1 A n c (l.map (.int .u8))) (hx : l[0]? = some b0) (hq : b0 / 64 = 3) (hn : 0 < n) :
    Calls Try.prog 24 #[.slice A n c] w fun e w' => e = .returned (.tuple #[.int .i64 0, .int .i64 0, .int .i64 11]) ∧ w = w' := by
  obtain ⟨b, off, x, rfl, hx', hc⟩ := h.elemI hn
  rw [hx] at hx'
  injection hx' with hx'
  subst hx'
  simp only [Nat.add_zero] at hc
  clear hx
  go_enter Try.func24, Try.ntmps24
  go_wp2
  go_ret3
  exact ⟨rfl, rfl⟩

set_option maxHeartbeats 400000 in
theorem tint_short (A : Option Addr) (n c : Nat) (b0 : Int) (l : List Int) (q : Nat) (w : World) (h : SlA w 1 A n c (l.map (.int .u8))) (hx : l[0]? = some b0) (hq : b0 / 64 = q) (hq1 : q = 1 ∨ q = 2) (hn : 0 < n) (hs : n < 2 ^ q) :
    Calls Try.prog 24 #[.slice A n c] w fun e w' => e = .returned (.tuple #[.int .i64 0, .int .i64 0, .int .i64 10]) ∧ w = w' := by
  obtain ⟨b, off, x, rfl, hx', hc⟩ := h.elemI hn
  rw [hx] at hx'
  injection hx' with hx'
  subst hx'
  simp only [Nat.add_zero] at hc
  clear hx
  rcases hq1 with rfl | rfl
  · simp only [Int.cast_ofNat_Int, Nat.reducePow] at hq hs
    go_enter Try.func24, Try.ntmps24
    go_wp2_with (go_at_call 30; refine (takewide_short _ n c 2 _ (by omega) (by omega) hs).mono ?_; rintro e w' ⟨rfl, rfl⟩)
    go_ret3
    exact ⟨rfl, rfl⟩
  · simp only [Int.cast_ofNat_Int, Nat.reducePow] at hq hs
    go_enter Try.func24, Try.ntmps24
    go_wp2_with (go_at_call 30; refine (takewide_short _ n c 4 _ (by omega) (by omega) hs).mono ?_; rintro e w' ⟨rfl, rfl⟩)
    go_ret3
    exact ⟨rfl, rfl⟩

theorem sz_iff (m : Int) : (sz m = 0 ↔ m < 64) ∧ (sz m = 1 ↔ 64 ≤ m ∧ m < 16384) ∧ (sz m = 2 ↔ 16384 ≤ m) := by
  unfold sz
  split
  · refine ⟨by omega, by omega, by omega⟩
  · split
    · refine ⟨by omega, by omega, by omega⟩
    · refine ⟨by omega, by omega, by omega⟩

/-- wire.TakeInt, all of it. -/
theorem tint_any (A : Option Addr) (n c : Nat) (l : List Int) (w : World) (h : SlA w 1 A n c (l.map (.int .u8))) (hl : ∀ x ∈ l, 0 ≤ x ∧ x < 256) :
    Calls Try.prog 24 #[.slice A n c] w (TInt w l) := by
  have hn := h.lenI
  rcases l with _ | ⟨b0, t⟩
  · have : n = 0 := by simpa using hn.symm
    subst this
    exact tint_empty A c w
  · simp only [List.length_cons] at hn
    obtain ⟨hb0, hb1⟩ := hl b0 (by simp)
    by_cases h1 : b0 < 64
    · refine (tint_road A n c b0 (b0 :: t) 0 b0 b0 w h hl rfl (by omega) (by omega) (by simp; omega) (by simp [val]) (by simp; omega)).mono fun e w' ⟨he, hw⟩ => ⟨?_, hw⟩
      rw [he]
      have : rd b0 0 = (b0, 1, 0) := by unfold rd; rw [if_pos]; exact (sz_iff b0).1.2 h1
      simp [this, tint, h1]
    · by_cases h2 : b0 < 128
      · rcases t with _ | ⟨b1, t⟩
        · refine (tint_short A n c b0 [b0] 1 w h rfl (by omega) (.inl rfl) (by omega) (by simp at hn; omega)).mono fun e w' ⟨he, hw⟩ => ⟨?_, hw⟩
          rw [he]
          simp [tint, h1, h2]
        · obtain ⟨hc0, hc1⟩ := hl b1 (by simp)
          simp only [List.length_cons] at hn
          refine (tint_road A n c b0 (b0 :: b1 :: t) 1 (b0 * 256 + b1) ((b0 - 64) * 256 + b1) w h hl rfl (by omega) (by omega) (by omega) (by simp [val]) (by simp; omega)).mono fun e w' ⟨he, hw⟩ => ⟨?_, hw⟩
          rw [he]
          by_cases h3 : (b0 - 64) * 256 + b1 < 64
          · have : rd ((b0 - 64) * 256 + b1) 1 = (0, 0, 11) := by unfold rd; rw [if_neg]; intro h4; have := (sz_iff _).2.1.1 h4; omega
            simp [this, tint, h1, h2, h3]
          · have : rd ((b0 - 64) * 256 + b1) 1 = ((b0 - 64) * 256 + b1, 2, 0) := by unfold rd; rw [if_pos]; exact (sz_iff _).2.1.2 ⟨by omega, by omega⟩
            simp [this, tint, h1, h2, h3]
      · by_cases h3 : b0 < 192
        · by_cases h4 : n < 4
          · refine (tint_short A n c b0 (b0 :: t) 2 w h rfl (by omega) (.inr rfl) (by omega) (by omega)).mono fun e w' ⟨he, hw⟩ => ⟨?_, hw⟩
            rw [he]
            match t, hn with
            | [], _ => simp [tint, h1, h2, h3]
            | [_], _ => simp [tint, h1, h2, h3]
            | [_, _], _ => simp [tint, h1, h2, h3]
            | _ :: _ :: _ :: t, hn => simp at hn; omega
          · match t, hn, h, hl with
            | [], hn, _, _ => simp at hn; omega
            | [_], hn, _, _ => simp at hn; omega
            | [_, _], hn, _, _ => simp at hn; omega
            | b1 :: b2 :: b3 :: t, hn, h, hl =>
              obtain ⟨hc0, hc1⟩ := hl b1 (by simp)
              obtain ⟨hd0, hd1⟩ := hl b2 (by simp)
              obtain ⟨he0, he1⟩ := hl b3 (by simp)
              refine (tint_road A n c b0 (b0 :: b1 :: b2 :: b3 :: t) 2 (((b0 * 256 + b1) * 256 + b2) * 256 + b3) ((b0 - 128) * 16777216 + b1 * 65536 + b2 * 256 + b3) w h hl rfl (by omega) (by omega) (by omega) (by simp [val]) (by simp; omega)).mono fun e w' ⟨he, hw⟩ => ⟨?_, hw⟩
              rw [he]
              by_cases h5 : (b0 - 128) * 16777216 + b1 * 65536 + b2 * 256 + b3 < 16384
              · have : rd ((b0 - 128) * 16777216 + b1 * 65536 + b2 * 256 + b3) 2 = (0, 0, 11) := by unfold rd; rw [if_neg]; intro h4; have := (sz_iff _).2.2.1 h4; omega
                simp [this, tint, h1, h2, h3, h5]
              · have : rd ((b0 - 128) * 16777216 + b1 * 65536 + b2 * 256 + b3) 2 = ((b0 - 128) * 16777216 + b1 * 65536 + b2 * 256 + b3, 4, 0) := by unfold rd; rw [if_pos]; exact (sz_iff _).2.2.2 (by omega)
                simp [this, tint, h1, h2, h3, h5]
        · refine (tint_3 A n c b0 (b0 :: t) w h rfl (by omega) (by omega)).mono fun e w' ⟨he, hw⟩ => ⟨?_, hw⟩
          rw [he]
          simp [tint, h1, h2, h3]

end Go.Proofs.Ytdleikgcgbokmaa
