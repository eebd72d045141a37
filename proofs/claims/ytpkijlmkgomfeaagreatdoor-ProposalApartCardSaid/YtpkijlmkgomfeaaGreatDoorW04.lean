import Derived.Test.YtpkijlmkgomfeaaGreatDoorW03
import Derived.Test.YtpkijlmkgomfeaaGreatDoorW01
import Derived.Test.YtpkijlmkgomfeaaGreatDoorW02
import Derived.Deep.QuietTactic
import Derived.BigQuiet
import Derived.Deep.RegionWith
import Derived.Deep.RegionLaw
import Derived.Lib.ItoaLen
/- term: what is carried from call to call: an arena, a row of numbers. -/
namespace Go.Proofs.YtpkijlmkgomfeaaGreatDoor
open Go.RowKit Go.KK Go.Shelf Go.Maps
set_option linter.unusedVariables false
set_option linter.unusedSimpArgs false

/-- The law's arena, and what the call has left alone. -/
structure LA (w0 W : World) (Z : Nat → Prop) (sa : Nat) (xs : List ND) : Prop where
  ar : AR W Z sa xs
  z : ∀ b, Z b → w0.heap.size ≤ b
  bl : Below w0.heap.size w0 W
/-- From one world to the next. -/
structure Mv (Z : Nat → Prop) (W : World) (Z' : Nat → Prop) (W' : World) : Prop where
  t : Turn Z W W'
  n : ∀ b, Z' b → Z b ∨ W.heap.size ≤ b
theorem Mv.below {Z : Nat → Prop} {W W' : World} (hb : Below W.heap.size W W') : Mv Z W Z W' := ⟨.of_below hb, fun _ h => .inl h⟩
section
variable {w0 W W' : World} {Z Z' : Nat → Prop} {sa : Nat} {xs xs' : List ND}
theorem LA.mv (h : LA w0 W Z sa xs) (m : Mv Z W Z' W') (ha : AR W' Z' sa xs') : LA w0 W' Z' sa xs' :=
  ⟨ha, fun b hb => (m.n b hb).elim (h.z b) fun h' => Nat.le_trans h.bl.size h', h.bl.trans (m.t.below h.z h.bl.size)⟩
theorem LA.ext (h : LA w0 W Z sa xs) (hb : Below W.heap.size W W') : LA w0 W' Z sa xs := h.mv (.below hb) (h.ar.ext hb)
theorem LA.alloc (h : LA w0 W Z sa xs) (o : Obj) : LA w0 (W.alloc o) Z sa xs := h.ext ((Below.refl _ _).alloc (Nat.le_refl _) o)
theorem LA.sz (h : LA w0 W Z sa xs) : w0.heap.size ≤ W.heap.size := h.bl.size
theorem l_mke (h : LA w0 W Z sa xs) (hT : Tb w0.heap.size w0) {x : ND} {A : Option Addr} {c : Nat} (hl : SlA W 1 A x.l.length c (x.l.map (.int .i64))) (hx : NdI x) :
    Calls Tryz.prog 34 #[.pointer (some ⟨sa, 0, none⟩), .agg #[.int .i64 x.o, .int .i64 x.n, .string x.s, .slice A x.l.length c]] W fun e w' => ∃ Z', e = .returned (.tuple #[.int .i64 (makI xs x), .int .i64 (makE xs x)]) ∧ LA w0 w' Z' sa (makT xs x) ∧ Mv Z W Z' w' := by
  refine (mke_any Z sa xs w0.heap.size W x A c h.ar hl (hT.on h.bl) h.bl.size hx).mono ?_
  rintro e w' ⟨rfl, Z', h1, h2, h3⟩
  exact ⟨Z', rfl, h.mv ⟨h2, h3⟩ h1, ⟨h2, h3⟩⟩
end
/-- A row of numbers of the call's own. -/
abbrev RowI (W : World) (b0 : Nat) (v : Value) (l : List Int) : Prop := W.ownsRow b0 3 1 v l.length (l.map (.int .i64))
/-- The arena and a row. -/
structure T1 (w W : World) (sa : Nat) (Z : Nat → Prop) (X : List ND) (nv : Value) (ns : List Int) : Prop where
  la : LA w W Z sa X
  nr : RowI W w.heap.size nv ns
  na : ∀ b, nv.ownBlock = some b → ¬ Z b
section
variable {w W W' : World} {sa : Nat} {Z Z' : Nat → Prop} {X X' : List ND} {nv : Value} {ns : List Int}
theorem T1.ext (h : T1 w W sa Z X nv ns) (hb : Below W.heap.size W W') : T1 w W' sa Z X nv ns := ⟨h.la.ext hb, own_ext h.nr hb, h.na⟩
theorem T1.mv (h : T1 w W sa Z X nv ns) (hl : LA w W' Z' sa X') (hv : Mv Z W Z' W') : T1 w W' sa Z' X' nv ns where
  la := hl
  nr := own_block h.nr fun b hb => hv.t.block b (h.nr.lt b hb).2 (h.na b hb)
  na := fun b hb hz => (hv.n b hz).elim (h.na b hb) fun h' => by have := (h.nr.lt b hb).2; omega
theorem T1.app (h : T1 w W sa Z X nv ns) {nv' : Value} {ns' : List Int} (hn : RowI W' w.heap.size nv' ns') (hg : W.grownBy W' nv.ownBlock) (hl : nv'.ownBlock = nv.ownBlock ∨ nv'.ownBlock = some W.heap.size) : T1 w W' sa Z X nv' ns' := by
  have ht : Turn (fun b => nv.ownBlock = some b) W W' := Turn.grown hg fun b hb => .inl hb
  refine ⟨⟨h.la.ar.turn ht (fun b hz e => h.na b e hz), h.la.z, h.la.bl.trans (ht.below (fun b e => (h.nr.lt b e).1) h.la.sz)⟩, hn, fun b hb => ?_⟩
  rcases hl with hl | hl
  · exact h.na b (hl ▸ hb)
  · rw [hl] at hb
    injection hb with hb
    subst hb
    intro hz
    have := h.la.ar.zlt _ hz
    omega
end
end Go.Proofs.YtpkijlmkgomfeaaGreatDoor

/- term: Show (without a law's live). -/
namespace Go.Proofs.YtpkijlmkgomfeaaGreatDoor
open Go.RowKit Go.KK Go.Shelf Go.Maps
set_option linter.unusedVariables false
set_option linter.unusedSimpArgs false

section
variable {w0 W : World} {Z : Nat → Prop} {sa : Nat} {xs : List ND}
end
end Go.Proofs.YtpkijlmkgomfeaaGreatDoor

/- crypto over the law's arena: of, known, Extract, Expand, Derive, Public; Text, List. -/
namespace Go.Proofs.YtpkijlmkgomfeaaGreatDoor
open Go.RowKit Go.KK Go.Shelf Go.Maps
set_option linter.unusedVariables false
set_option linter.unusedSimpArgs false

theorem idx_i64 {xs : List ND} (ok : Okay xs) (x : ND) : I64 (makI xs x) := by
  have := makI_b ok.len x
  exact ⟨by omega, by omega⟩
theorem ndI_tx (s : ByteArray) : NdI (txN s) := ⟨by unfold I64 txN; simp, by unfold I64 txN; simp, fun i hi => by simp [txN] at hi⟩
theorem Mv.trans {Z Z1 Z2 : Nat → Prop} {W W1 W2 : World} (a : Mv Z W Z1 W1) (b : Mv Z1 W1 Z2 W2) : Mv Z W Z2 W2 :=
  ⟨a.t.trans b.t a.n, fun k hk => (b.n k hk).elim (a.n k) fun h => .inr (Nat.le_trans a.t.size h)⟩
theorem Mv.alloc (Z : Nat → Prop) (W : World) (o : Obj) : Mv Z W Z (W.alloc o) := .below ((Below.refl _ _).alloc (Nat.le_refl _) o)
section
variable {w0 W W' : World} {Z Z' : Nat → Prop} {sa : Nat} {xs xs' : List ND}
/-- A call that takes a step. -/
def LrS (w0 W : World) (Z : Nat → Prop) (sa : Nat) (r : Rs) (e : Ending) (w' : World) : Prop := ∃ Z', e = .returned (.tuple #[.int .i64 r.2.1, .int .i64 r.2.2]) ∧ LA w0 w' Z' sa r.1 ∧ Mv Z W Z' w'
theorem l_list (h : LA w0 W Z sa xs) (hT : Tb w0.heap.size w0) {A : Option Addr} {n c : Nat} {l : List Int} (hl : SlA W 1 A n c (l.map (.int .i64))) (hi : ∀ i ∈ l, I64 i) :
    Calls Tryz.prog 56 #[.pointer (some ⟨sa, 0, none⟩), .slice A n c] W (LrS w0 W Z sa (mk xs (ndN 3 l))) := by
  have e := hl.lenI
  subst e
  have HM := hid (l_mke h hT (x := ndN 3 l) hl (ndI_nd (i64_lit (by decide) (by decide)) hi))
  clear h hl hT
  go_enter Tryz.func56, Tryz.ntmps56
  go_wp2_with fail
  refine HM.out.mono ?_
  rintro e w' ⟨Z', rfl, h1, h2⟩
  have H1 := hid h1; have H2 := hid h2
  clear h1 h2
  go_wp2_with fail
  go_ret2
  exact ⟨Z', rfl, H1.out, H2.out⟩
theorem l_text (h : LA w0 W Z sa xs) (hT : Tb w0.heap.size w0) (s : ByteArray) :
    Calls Tryz.prog 54 #[.pointer (some ⟨sa, 0, none⟩), .string s] W (LrS w0 W Z sa (mk xs (txN s))) := by
  have HM := hid (l_mke h hT (x := txN s) (SlA.nil _ _) (ndI_tx s))
  clear h hT
  go_enter Tryz.func54, Tryz.ntmps54
  go_wp2_with fail
  refine HM.out.mono ?_
  rintro e w' ⟨Z', rfl, h1, h2⟩
  have H1 := hid h1; have H2 := hid h2
  clear h1 h2
  go_wp2_with fail
  go_ret2
  exact ⟨Z', rfl, H1.out, H2.out⟩
end
end Go.Proofs.YtpkijlmkgomfeaaGreatDoor

/- the document's term: Digits. -/
namespace Go.Proofs.YtpkijlmkgomfeaaGreatDoor
open Go.RowKit Go.KK
set_option linter.unusedVariables false
set_option linter.unusedSimpArgs false

/-- A number's text. -/
def digS (n : Nat) : ByteArray := ⟨(Lib.decDigits n).toArray⟩
def Dig (n : Int) (w : World) (e : Ending) (w' : World) : Prop := e = .returned (.string (digS n.toNat)) ∧ ∃ m, w' = w.drewN m
theorem dig_small {n : Nat} (h : n < 10) : Lib.decDigits n = [UInt8.ofNat (48 + n)] := by rw [Lib.decDigits]; simp [h]
theorem dig_step {n : Nat} (h : ¬ n < 10) : Lib.decDigits n = Lib.decDigits (n / 10) ++ [UInt8.ofNat (48 + n % 10)] := by
  conv => lhs; rw [Lib.decDigits]
  simp [h]
theorem ext_digit : ∀ d : Nat, d < 10 → ((⟨#[48, 49, 50, 51, 52, 53, 54, 55, 56, 57]⟩ : ByteArray).extract d (d + 1)).data.toList = [UInt8.ofNat (48 + d)] := by decide +kernel
theorem dig_ext {n : Nat} {K : ByteArray} (h : K.data.toList = Lib.decDigits n) : K = digS n := str_ext h
theorem digS_le (n : Nat) (h : n ≤ 9223372036854775807) : (digS n).size ≤ 21 := by
  have := Lib.itoa_length_le (n : Int) (by omega) (by omega)
  unfold Lib.itoa at this
  rw [if_neg (by omega)] at this
  exact this
theorem itoa_nat {n : Int} (h : 0 ≤ n) : Lib.itoa n = Lib.decDigits n.toNat := by unfold Lib.itoa; rw [if_neg (by omega)]
set_option maxHeartbeats 2000000 in
theorem digits_ind (k : Nat) : ∀ (n : Int) (w : World), 0 ≤ n → n ≤ k → n ≤ 9223372036854775807 →
    Calls Tryz.prog 58 #[.int .i64 n] w (Dig n w) := by
  induction k with
  | zero =>
    intro n w h0 hk _
    have hn : n = 0 := by omega
    subst hn
    go_enter Tryz.func58, Tryz.ntmps58
    go_wp2_with fail
    go_ret
    exact ⟨congrArg (fun K => Ending.returned (.string K)) (dig_ext (n := 0) (by decide +kernel)), 0, rfl⟩
  | succ k ih =>
    intro n w h0 hk h63
    by_cases hn : n < 10
    · obtain ⟨j, rfl⟩ := Int.eq_ofNat_of_zero_le h0
      have hj : j < 10 := by omega
      have he := ext_digit j hj
      have HE := hid he
      clear he
      go_enter Tryz.func58, Tryz.ntmps58
      go_wp2_with fail
      go_ret
      refine ⟨?_, 0, rfl⟩
      rw [Int.toNat_natCast]
      exact congrArg (fun K => Ending.returned (.string K)) (dig_ext (by rw [dig_small hj]; exact HE.out))
    · obtain ⟨j, rfl⟩ := Int.eq_ofNat_of_zero_le h0
      have HIH := hid (fun (W : World) => show Calls Tryz.prog 58 #[.int .i64 ((j : Int) / 10)] W (fun e w' => e = .returned (.string (digS (j / 10))) ∧ ∃ m, w' = W.drewN m) from ih ((j : Int) / 10) W (by omega) (by omega) (by omega))
      have HJ := hid (show ¬ j < 10 by omega)
      have HE := hid (ext_digit (j % 10) (Nat.mod_lt _ (by decide)))
      have hd0 : 0 ≤ (j : Int) % 10 := by omega
      have hd1 : (j : Int) % 10 < 10 := by omega
      have hq : (10 : Int) ≠ 0 := by decide
      have hw1 : IntKind.i64.wrap ((j : Int) % 10 + 1) = (j : Int) % 10 + 1 := by rw [IntKind.wrap_i64]; omega
      have hw0 : IntKind.i64.wrap ((j : Int) / 10) = (j : Int) / 10 := by rw [IntKind.wrap_i64]; omega
      have hm : (j : Int).tmod 10 = (j : Int) % 10 := Int.tmod_eq_emod_of_nonneg (by omega)
      have hv : (j : Int).tdiv 10 = (j : Int) / 10 := Int.tdiv_eq_ediv_of_nonneg (by omega)
      have hsl : ∀ W : World, (Instr.slice 9 (.string ⟨#[48, 49, 50, 51, 52, 53, 54, 55, 56, 57]⟩) (some (.int .i64 ((j : Int) % 10))) (some (.int .i64 ((j : Int) % 10 + 1))) none).run Tryz.prog W = .ok (.string ((⟨#[48, 49, 50, 51, 52, 53, 54, 55, 56, 57]⟩ : ByteArray).extract (j % 10) (j % 10 + 1))) W := fun W => by
        have := run_slice_string (P := Tryz.prog) W 9 ⟨#[48, 49, 50, 51, 52, 53, 54, 55, 56, 57]⟩ .i64 .i64 ((j : Int) % 10) ((j : Int) % 10 + 1) Tryz.underlying9 (by omega) (by omega) (by show (j : Int) % 10 + 1 ≤ 10; omega)
        rw [show ((j : Int) % 10).toNat = j % 10 by omega, show ((j : Int) % 10 + 1).toNat = j % 10 + 1 by omega] at this
        exact this
      have hX : ((⟨#[48, 49, 50, 51, 52, 53, 54, 55, 56, 57]⟩ : ByteArray).extract (j % 10) (j % 10 + 1)).size = 1 := by
        show ((⟨#[48, 49, 50, 51, 52, 53, 54, 55, 56, 57]⟩ : ByteArray).extract (j % 10) (j % 10 + 1)).data.toList.length = 1
        rw [HE.out]; rfl
      have hK := digS_le (j / 10) (by omega)
      generalize hXX : (⟨#[48, 49, 50, 51, 52, 53, 54, 55, 56, 57]⟩ : ByteArray).extract (j % 10) (j % 10 + 1) = X at *
      generalize hKK : digS (j / 10) = K at *
      have hcat : ¬ 9223372036854775807 < K.size + X.size := by omega
      have HXX := hid hXX; have HKK := hid hKK
      clear ih hk hXX hKK hX hK
      go_enter Tryz.func58, Tryz.ntmps58
      go_wp2_with fail
      go_quiet ((go_at_call 58; exact Calls.quiet_of (HIH.out _)))
      go_wp2_with fail
      go_ret
      refine ⟨?_, nq, rfl⟩
      rw [Int.toNat_natCast]
      refine congrArg (fun K => Ending.returned (.string K)) (dig_ext ?_)
      rw [dig_step HJ.out, ByteArray.data_append, Array.toList_append, HE.out, ← HKK.out]; rfl
theorem digits_any (n : Int) (w : World) (h0 : 0 ≤ n) (h : n ≤ 9223372036854775807) : Calls Tryz.prog 58 #[.int .i64 n] w (Dig n w) := digits_ind n.toNat n w h0 (by omega) h
end Go.Proofs.YtpkijlmkgomfeaaGreatDoor

/- the document's term: arity, May. -/
namespace Go.Proofs.YtpkijlmkgomfeaaGreatDoor
open Go.RowKit Go.KK Go.Shelf
set_option linter.unusedVariables false
set_option linter.unusedSimpArgs false

/-- The document's arena, at block st. -/
abbrev ArR (w : World) (Z : Nat → Prop) (st mp : Nat) (v : Value) (xs : List ND) (qs : List Value) : Prop := Ar Tryz.prog 86 9 3 117 keyR w Z st mp v xs qs
def arR (o : Int) : Int := match arN o with | some k => (k : Nat) | none => -1
theorem arR_out {o : Int} (h : o < 1 ∨ 13 ≤ o ∨ o = 3) : arR o = -1 := by
  have : arN o = none := by
    unfold arN
    split <;> first | omega | rfl
  unfold arR
  rw [this]
theorem len_eqR (o : Int) (n : Nat) : lenB o n = !((decide (arR o < 0) && (o != 3)) || (decide (0 ≤ arR o) && ((n : Int) != arR o))) := by
  unfold arR lenB
  rcases arN o with _ | k
  · by_cases h : o = 3
    · rw [h]; rfl
    · simp [h, bne]
  · by_cases hk : n = k
    · subst hk
      simp
    · have h2 : ((n : Int) != (k : Int)) = true := bne_iff_ne.2 (by omega)
      have h3 : (n == k) = false := beq_eq_false_iff_ne.2 hk
      simp [h2, h3]
set_option maxHeartbeats 4000000 in
theorem rarity_any (o : Int) (w : World) :
    Calls Tryz.prog 199 #[.int .i64 o] w fun e w' => e = .returned (.int .i64 (arR o)) ∧ w' = w := by
  by_cases hin : 1 ≤ o ∧ o ≤ 12
  · obtain ⟨h1, h2⟩ := hin
    have h3 : o = 1 ∨ o = 2 ∨ o = 3 ∨ o = 4 ∨ o = 5 ∨ o = 6 ∨ o = 7 ∨ o = 8 ∨ o = 9 ∨ o = 10 ∨ o = 11 ∨ o = 12 := by omega
    clear h1 h2
    rcases h3 with rfl | rfl | rfl | rfl | rfl | rfl | rfl | rfl | rfl | rfl | rfl | rfl
    all_goals
      go_enter Tryz.func199, Tryz.ntmps199
      go_wp2
      go_ret
      exact ⟨rfl, rfl⟩
  · have HE := hid (arR_out (o := o) (by omega))
    have e1 : (o == 1) = false := beq_eq_false_iff_ne.2 (by omega)
    have e2 : (o == 2) = false := beq_eq_false_iff_ne.2 (by omega)
    have e4 : (o == 4) = false := beq_eq_false_iff_ne.2 (by omega)
    have e5 : (o == 5) = false := beq_eq_false_iff_ne.2 (by omega)
    have e6 : (o == 6) = false := beq_eq_false_iff_ne.2 (by omega)
    have e7 : (o == 7) = false := beq_eq_false_iff_ne.2 (by omega)
    have e8 : (o == 8) = false := beq_eq_false_iff_ne.2 (by omega)
    have e9 : (o == 9) = false := beq_eq_false_iff_ne.2 (by omega)
    have e10 : (o == 10) = false := beq_eq_false_iff_ne.2 (by omega)
    have e11 : (o == 11) = false := beq_eq_false_iff_ne.2 (by omega)
    have e12 : (o == 12) = false := beq_eq_false_iff_ne.2 (by omega)
    clear hin
    go_enter Tryz.func199, Tryz.ntmps199
    go_wp2
    go_ret
    exact ⟨by rw [HE.out]; rfl, rfl⟩
end Go.Proofs.YtpkijlmkgomfeaaGreatDoor

/- the document's term: May, walked. -/
namespace Go.Proofs.YtpkijlmkgomfeaaGreatDoor
open Go.RowKit Go.KK Go.Shelf
set_option linter.unusedVariables false
set_option linter.unusedSimpArgs false

set_option maxHeartbeats 8000000 in
set_option maxRecDepth 20000 in
theorem rmay_bad (st : Nat) (xs : List ND) (x : ND) (A : Option Addr) (c : Nat) (w : World) (h : ArV w 117 st xs) (hl : SlA w 1 A x.l.length c (x.l.map (.int .i64))) (hb : shB x = false) :
    Calls Tryz.prog 129 #[.pointer (some ⟨st, 0, none⟩), .agg #[.int .i64 x.o, .int .i64 x.n, .string x.s, .slice A x.l.length c]] w fun e w' => e = .returned (.bool (mayB xs x)) ∧ Below w.heap.size w w' := by
  have H := hid h; have HS := hid hl
  have HM := hid (len_eqR x.o x.l.length)
  have B0 := hid (show Below w.heap.size w (w.alloc (.cells #[.int .i64 x.o, .int .i64 x.n, .string x.s, .slice A x.l.length c] 86)) from (Below.refl _ _).alloc (by simp) _)
  have hu : mayB xs x = (lenB x.o x.l.length && decide (x.l.length ≤ 64) && decide (0 ≤ x.n) && decide (x.s.size ≤ 200) && (x.o == 1 || x.n == 0) && (x.o == 2 || x.s.size == 0) && x.l.all (hasB xs) && (x.o != 6 || Go.KK.opAt xs (x.l.getD 1 0) == 2)) := rfl
  have HU := hid hu
  have C0 := hid (show let W := w.alloc (.cells #[.int .i64 x.o, .int .i64 x.n, .string x.s, .slice A x.l.length c] 86)
    W.cell? ⟨w.heap.size, 0, none⟩ = some (.int .i64 x.o) ∧ W.cell? ⟨w.heap.size, 1, none⟩ = some (.int .i64 x.n) ∧ W.cell? ⟨w.heap.size, 2, none⟩ = some (.string x.s) ∧ W.cell? ⟨w.heap.size, 3, none⟩ = some (.slice A x.l.length c) ∧ w.heap.size < W.heap.size by
      refine ⟨?_, ?_, ?_, ?_, by simp⟩
      all_goals (rw [World.cell?_alloc_at _ _ _ _ (by simp)]; rfl))
  clear h hl hu
  go_enter Tryz.func129, Tryz.ntmps129
  go_wp2_with fail
  refine (rarity_any x.o _).mono ?_
  rintro e1 w1 ⟨rfl, hw1⟩
  subst w1
  have B1 := B0
  obtain ⟨k0, k1, k2, k3, hlt⟩ := C0.out
  generalize w.alloc (.cells #[.int .i64 x.o, .int .i64 x.n, .string x.s, .slice A x.l.length c] 86) = w1 at *
  have H1 := hid (H.out.ext B1.out)
  have HS1 := hid (HS.out.ext B1.out)
  clear hlt C0 B0 H HS
  have HK := hid (show 0 ≤ arR x.o ∨ arR x.o = -1 by unfold arR; rcases arN x.o with _ | k; exact .inr rfl; exact .inl (Int.natCast_nonneg k))
  generalize arR x.o = K at *
  by_cases a1 : K < 0 ∧ x.o ≠ 3
  · have HF := hid (show mayB xs x = false by rw [HU.out, HM.out, decide_eq_true a1.1, bne_iff_ne.2 a1.2]; rfl)
    obtain ⟨p1, p2⟩ := a1
    have p3 : (x.o != 3) = true := bne_iff_ne.2 p2
    clear p2
    go_wp2_with fail
    go_ret
    exact ⟨by rw [HF.out]; rfl, B1.out⟩
  have a1' : K < 0 → (x.o != 3) = false := fun hh => by rw [bne_eq_false_iff_eq]; exact Decidable.byContradiction fun h => a1 ⟨hh, h⟩
  by_cases a2 : 0 ≤ K ∧ (x.l.length : Int) ≠ K
  · have a2' : ((x.l.length : Int) != K) = true := bne_iff_ne.2 a2.2
    have HF := hid (show mayB xs x = false by rw [HU.out, HM.out, decide_eq_true a2.1, a2']; simp)
    have a3 := a2.1
    clear a2 a1 a1'
    go_wp2_with fail
    go_ret
    exact ⟨by rw [HF.out]; rfl, B1.out⟩
  have HL := hid (show lenB x.o x.l.length = true by
    rw [HM.out]
    by_cases h0 : 0 ≤ K
    · rw [show ((x.l.length : Int) != K) = false from by rw [bne_eq_false_iff_eq]; omega, decide_eq_false (show ¬ K < 0 by omega)]; simp
    · rw [decide_eq_false h0, a1' (by omega)]; simp)
  have a2' : (0 ≤ K ∧ ((x.l.length : Int) != K) = false) ∨ (K < 0 ∧ (x.o != 3) = false) := by
    by_cases h0 : 0 ≤ K
    · exact .inl ⟨h0, by rw [bne_eq_false_iff_eq]; omega⟩
    · exact .inr ⟨by omega, a1' (by omega)⟩
  clear a1 a2 a1' HK
  by_cases a4 : 64 < x.l.length
  · have HF := hid (show mayB xs x = false by rw [HU.out, decide_eq_false (show ¬ x.l.length ≤ 64 by omega)]; simp)
    have a4' : (64 : Int) < (x.l.length : Int) := by omega
    rcases a2' with ⟨q1, q2⟩ | ⟨q1, q2⟩
    all_goals
      go_wp2_with fail
      go_ret
      exact ⟨by rw [HF.out]; rfl, B1.out⟩
  have a4' : ¬ (64 : Int) < (x.l.length : Int) := by omega
  by_cases b1 : x.o ≠ 1 ∧ x.n ≠ 0
  · have b1a : (x.o != 1) = true := bne_iff_ne.2 b1.1
    have b1b : (x.n != 0) = true := bne_iff_ne.2 b1.2
    have HF := hid (show mayB xs x = false by rw [HU.out, beq_eq_false_iff_ne.2 b1.1, beq_eq_false_iff_ne.2 b1.2]; simp)
    clear b1
    rcases a2' with ⟨q1, q2⟩ | ⟨q1, q2⟩
    all_goals
      go_wp2_with fail
      go_ret
      exact ⟨by rw [HF.out]; rfl, B1.out⟩
  have b1' : (x.o != 1) = false ∨ ((x.o != 1) = true ∧ (x.n != 0) = false) := by
    by_cases h : x.o = 1
    · exact .inl (by rw [bne_eq_false_iff_eq]; exact h)
    · exact .inr ⟨bne_iff_ne.2 h, by rw [bne_eq_false_iff_eq]; omega⟩
  by_cases b2 : x.o ≠ 2 ∧ ¬ x.s.size = 0
  · have b2a : (x.o != 2) = true := bne_iff_ne.2 b2.1
    have b2b := none_no b2.2
    have HF := hid (show mayB xs x = false by rw [HU.out, beq_eq_false_iff_ne.2 b2.1, beq_eq_false_iff_ne.2 b2.2]; simp)
    clear b2
    rcases a2' with ⟨q1, q2⟩ | ⟨q1, q2⟩ <;> rcases b1' with b1' | ⟨b1', b1''⟩
    all_goals
      go_wp2_with fail
      go_ret
      exact ⟨by rw [HF.out]; rfl, B1.out⟩
  have b2' : (x.o != 2) = false ∨ ((x.o != 2) = true ∧ x.s.toList.isEmpty = true) := by
    by_cases h : x.o = 2
    · exact .inl (by rw [bne_eq_false_iff_eq]; exact h)
    · exact .inr ⟨bne_iff_ne.2 h, none_yes (by omega)⟩
  by_cases a5 : x.n < 0
  · have HF := hid (show mayB xs x = false by rw [HU.out, decide_eq_false (show ¬ 0 ≤ x.n by omega)]; simp)
    have ho : x.o = 1 := Decidable.byContradiction fun h => b1 ⟨h, by omega⟩
    have p1 : (x.o != 1) = false := by rw [ho]; rfl
    have p2 : (x.o != 2) = true := by rw [ho]; rfl
    have p3 : x.s.toList.isEmpty = true := none_yes (Decidable.byContradiction fun h => b2 ⟨by omega, h⟩)
    clear b1 b2 b1' b2' ho
    rcases a2' with ⟨q1, q2⟩ | ⟨q1, q2⟩
    all_goals
      go_wp2_with fail
      go_ret
      exact ⟨by rw [HF.out]; rfl, B1.out⟩
  by_cases a6 : 200 < x.s.size
  · have HF := hid (show mayB xs x = false by rw [HU.out, decide_eq_false (show ¬ x.s.size ≤ 200 by omega)]; simp)
    have a6' : (200 : Int) < (x.s.size : Int) := by omega
    have ho : x.o = 2 := Decidable.byContradiction fun h => b2 ⟨h, by omega⟩
    have p1 : (x.o != 1) = true := by rw [ho]; rfl
    have p2 : (x.o != 2) = false := by rw [ho]; rfl
    have p3 : (x.n != 0) = false := by rw [bne_eq_false_iff_eq]; exact Decidable.byContradiction fun h => b1 ⟨by omega, h⟩
    clear b1 b2 b1' b2' ho
    rcases a2' with ⟨q1, q2⟩ | ⟨q1, q2⟩
    all_goals
      go_wp2_with fail
      go_ret
      exact ⟨by rw [HF.out]; rfl, B1.out⟩
  exfalso
  have h1 : (x.o == 1 || x.n == 0) = true := by
    rcases Decidable.em (x.o = 1) with h | h
    · rw [h]; rfl
    · rw [show x.n = 0 by omega]; simp
  have h2 : (x.o == 2 || x.s.size == 0) = true := by
    rcases Decidable.em (x.o = 2) with h | h
    · rw [h]; rfl
    · rw [show x.s.size = 0 by omega]; simp
  unfold shB at hb
  rw [HL.out, h1, h2, decide_eq_true (show x.l.length ≤ 64 by omega), decide_eq_true (show 0 ≤ x.n by omega), decide_eq_true (show x.s.size ≤ 200 by omega)] at hb
  cases hb
end Go.Proofs.YtpkijlmkgomfeaaGreatDoor

/- the document's term: May, walked (2). -/
namespace Go.Proofs.YtpkijlmkgomfeaaGreatDoor
open Go.RowKit Go.KK Go.Shelf
set_option linter.unusedVariables false
set_option linter.unusedSimpArgs false

set_option maxHeartbeats 8000000 in
set_option maxRecDepth 20000 in
theorem rmay_good (st : Nat) (xs : List ND) (x : ND) (A : Option Addr) (c : Nat) (w : World) (h : ArV w 117 st xs) (hl : SlA w 1 A x.l.length c (x.l.map (.int .i64))) (hb : shB x = true) :
    Calls Tryz.prog 129 #[.pointer (some ⟨st, 0, none⟩), .agg #[.int .i64 x.o, .int .i64 x.n, .string x.s, .slice A x.l.length c]] w fun e w' => e = .returned (.bool (mayB xs x)) ∧ Below w.heap.size w w' := by
  have H := hid h; have HS := hid hl
  have HM := hid (len_eqR x.o x.l.length)
  have B0 := hid (show Below w.heap.size w (w.alloc (.cells #[.int .i64 x.o, .int .i64 x.n, .string x.s, .slice A x.l.length c] 86)) from (Below.refl _ _).alloc (by simp) _)
  have hu : mayB xs x = (lenB x.o x.l.length && decide (x.l.length ≤ 64) && decide (0 ≤ x.n) && decide (x.s.size ≤ 200) && (x.o == 1 || x.n == 0) && (x.o == 2 || x.s.size == 0) && x.l.all (hasB xs) && (x.o != 6 || Go.KK.opAt xs (x.l.getD 1 0) == 2)) := rfl
  have C0 := hid (show let W := w.alloc (.cells #[.int .i64 x.o, .int .i64 x.n, .string x.s, .slice A x.l.length c] 86)
    W.cell? ⟨w.heap.size, 0, none⟩ = some (.int .i64 x.o) ∧ W.cell? ⟨w.heap.size, 1, none⟩ = some (.int .i64 x.n) ∧ W.cell? ⟨w.heap.size, 2, none⟩ = some (.string x.s) ∧ W.cell? ⟨w.heap.size, 3, none⟩ = some (.slice A x.l.length c) ∧ w.heap.size < W.heap.size by
      refine ⟨?_, ?_, ?_, ?_, by simp⟩
      all_goals (rw [World.cell?_alloc_at _ _ _ _ (by simp)]; rfl))
  clear h hl hu
  go_enter Tryz.func129, Tryz.ntmps129
  go_wp2_with fail
  refine (rarity_any x.o _).mono ?_
  rintro e1 w1 ⟨rfl, hw1⟩
  subst w1
  have B1 := B0
  obtain ⟨k0, k1, k2, k3, hlt⟩ := C0.out
  generalize w.alloc (.cells #[.int .i64 x.o, .int .i64 x.n, .string x.s, .slice A x.l.length c] 86) = w1 at *
  have H1 := hid (H.out.ext B1.out)
  have HS1 := hid (HS.out.ext B1.out)
  clear hlt C0 B0 H HS
  have HK := hid (show 0 ≤ arR x.o ∨ arR x.o = -1 by unfold arR; rcases arN x.o with _ | k; exact .inr rfl; exact .inl (Int.natCast_nonneg k))
  have HR := hid (show mayB xs x = (x.l.all (hasB xs) && (x.o != 6 || Go.KK.opAt xs (x.l.getD 1 0) == 2)) by
    have : mayB xs x = (shB x && x.l.all (hasB xs) && (x.o != 6 || Go.KK.opAt xs (x.l.getD 1 0) == 2)) := rfl
    rw [this, hb]; rfl)
  have hsh := hb
  unfold shB at hsh
  simp only [Bool.and_eq_true, Bool.or_eq_true, decide_eq_true_eq, beq_iff_eq] at hsh
  obtain ⟨⟨⟨⟨⟨hs1, hs2⟩, hs3⟩, hs4⟩, hs5⟩, hs6⟩ := hsh
  have hcase : ((arR x.o < 0 ∧ (x.o != 3) = false) ∨ (0 ≤ arR x.o ∧ ((x.l.length : Int) != arR x.o) = false)) := by
    rw [HM.out] at hs1
    rcases HK.out with h | h
    · right
      refine ⟨h, ?_⟩
      rw [decide_eq_true h] at hs1
      rcases hq : ((x.l.length : Int) != arR x.o) with _ | _
      · rfl
      · rw [hq] at hs1; simp at hs1
    · left
      refine ⟨by omega, ?_⟩
      rw [h] at hs1
      rcases hq : (x.o != 3) with _ | _
      · rfl
      · rw [hq] at hs1; simp at hs1
  have HL := hid hs1
  have hc2 : ((x.o != 1) = false ∧ (x.o != 2) = true ∧ x.s.toList.isEmpty = true) ∨ ((x.o != 1) = true ∧ (x.n != 0) = false ∧ (x.o != 2) = false) ∨ ((x.o != 1) = true ∧ (x.n != 0) = false ∧ (x.o != 2) = true ∧ x.s.toList.isEmpty = true) := by
    by_cases h1 : x.o = 1
    · exact .inl ⟨by rw [h1]; rfl, by rw [h1]; rfl, none_yes (by omega)⟩
    · by_cases h2 : x.o = 2
      · exact .inr (.inl ⟨by rw [h2]; rfl, by rw [bne_eq_false_iff_eq]; omega, by rw [h2]; rfl⟩)
      · exact .inr (.inr ⟨bne_iff_ne.2 h1, by rw [bne_eq_false_iff_eq]; omega, bne_iff_ne.2 h2, none_yes (by omega)⟩)
  have hc4 : (arR x.o < 0 ∧ (x.o != 3) = false) → ((x.o != 1) = true ∧ (x.n != 0) = false ∧ (x.o != 2) = true ∧ x.s.toList.isEmpty = true) := fun ⟨_, h⟩ => by
    rw [bne_eq_false_iff_eq] at h
    exact ⟨by rw [h]; rfl, by rw [bne_eq_false_iff_eq]; omega, by rw [h]; rfl, none_yes (by omega)⟩
  have a4' : ¬ (64 : Int) < (x.l.length : Int) := by omega
  have a5 : ¬ x.n < 0 := by omega
  have a6' : ¬ (200 : Int) < (x.s.size : Int) := by omega
  have hlen : x.l.length ≤ 2147483648 := by omega
  clear hs1 hs2 hs3 hs4 hs5 hs6 hb HK
  generalize arR x.o = K at *
  have hc : ((K < 0 ∧ (x.o != 3) = false) ∧ ((x.o != 1) = true ∧ (x.n != 0) = false ∧ (x.o != 2) = true ∧ x.s.toList.isEmpty = true)) ∨ ((0 ≤ K ∧ ((x.l.length : Int) != K) = false) ∧ (((x.o != 1) = false ∧ (x.o != 2) = true ∧ x.s.toList.isEmpty = true) ∨ ((x.o != 1) = true ∧ (x.n != 0) = false ∧ (x.o != 2) = false) ∨ ((x.o != 1) = true ∧ (x.n != 0) = false ∧ (x.o != 2) = true ∧ x.s.toList.isEmpty = true))) := by
    rcases hcase with h | h
    · exact .inl ⟨h, hc4 h⟩
    · exact .inr ⟨h, hc2⟩
  clear hcase hc2 hc4
  rcases hc with ⟨⟨q1, q2⟩, p1, p2, p3, p4⟩ | ⟨⟨q1, q2⟩, ⟨p1, p2, p3⟩ | ⟨p1, p2, p3⟩ | ⟨p1, p2, p3, p4⟩⟩
  all_goals
    go_wp2_with fail
    go_loopw [69] (fun i wr => ∃ j : Nat, i = .int .i64 j ∧ j ≤ x.l.length ∧ Hid (x.l.all (hasB xs) = (x.l.drop j).all (hasB xs)) ∧ wr = w1) (fun i _ => x.l.length - (intOf i).toNat)
    case atStart => exact ⟨0, rfl, by omega, hid rfl, rfl⟩
    case round =>
      obtain ⟨j, hi, hj, HJ, hw⟩ := hrel
      subst hi
      subst wr
      clear p1 p2 p3 q1 q2
      obtain ⟨A', c', m', q0, qm, hnd⟩ := H1.out.parts
      have HND := hid hnd
      clear hnd
      by_cases hltj : j < x.l.length
      · obtain ⟨bz, oz, z, hA, hz, hcz⟩ := HS1.out.elemI hltj
        subst hA
        have HD := hid (drop_get hz); clear hz
        by_cases hz0 : z < 0
        · have HF := hid (show mayB xs x = false by
            rw [HR.out, HJ.out, HD.out, List.all_cons, show hasB xs z = false by unfold hasB; rw [decide_eq_false (by omega : ¬ 0 ≤ z)]; rfl]; rfl)
          go_wp2_with fail
          go_ret
          exact ⟨by rw [HF.out]; rfl, B1.out⟩
        · by_cases hz1 : (xs.length : Int) ≤ z
          · have HF := hid (show mayB xs x = false by
              rw [HR.out, HJ.out, HD.out, List.all_cons, show hasB xs z = false by unfold hasB; rw [decide_eq_false (by omega : ¬ z < (xs.length : Int))]; simp]; rfl)
            go_wp2_with fail
            go_ret
            exact ⟨by rw [HF.out]; rfl, B1.out⟩
          · have HF := hid (show x.l.all (hasB xs) = (x.l.drop (j + 1)).all (hasB xs) by
              rw [HJ.out, HD.out, List.all_cons, show hasB xs z = true by unfold hasB; rw [decide_eq_true (by omega : z < (xs.length : Int)), decide_eq_true (by omega : 0 ≤ z)]; rfl]; rfl)
            go_wp2_with fail
            go_roundw
            case rel => exact ⟨j + 1, by go_num, by omega, HF, by first | rfl | trivial⟩
            case measure => simp [intOf]; omega
      · have hall : x.l.all (hasB xs) = true := by rw [HJ.out, List.drop_of_length_le (by omega)]; rfl
        by_cases h6 : x.o = 6
        · have h6' : (x.o != 6) = false := by rw [bne_eq_false_iff_eq]; exact h6
          have hl3 : x.l.length = 3 := by
            have := HL.out
            rw [h6] at this
            simpa [lenB, arN] using this
          obtain ⟨bx, ox, z, hA, hz, hcz⟩ := HS1.out.elemI (k := 1) (by omega)
          have hhz : hasB xs z = true := List.all_eq_true.1 hall z (List.mem_of_getElem? hz)
          unfold hasB at hhz
          simp only [Bool.and_eq_true, decide_eq_true_eq] at hhz
          obtain ⟨hz0, hz1⟩ := hhz
          obtain ⟨k, rfl⟩ := Int.eq_ofNat_of_zero_le hz0
          obtain ⟨bn, on, y, Ay, cy, hA', hy, y0, y1, y2, y3, -⟩ := HND.out.at (j := k) (by omega)
          have HF := hid (show mayB xs x = (y.o == 2) by
            rw [HR.out, hall, h6, List.getD, hz]
            show (_ && Go.KK.opAt xs (k : Int) == 2) = _
            unfold Go.KK.opAt
            rw [Int.toNat_natCast, hy]
            rfl)
          subst hA
          subst hA'
          clear hall hz hy h6
          go_wp2_with fail
          go_quiet (fail)
          go_wp2
          go_ret
          exact ⟨by rw [HF.out]; rfl, below_drewN B1.out _⟩
        · have h6' : (x.o != 6) = true := bne_iff_ne.2 h6
          have HF := hid (show mayB xs x = true by rw [HR.out, hall, h6']; rfl)
          clear hall h6
          go_wp2_with fail
          go_quiet (fail)
          go_wp2
          go_ret
          exact ⟨by rw [HF.out]; rfl, below_drewN B1.out _⟩
theorem rmay_any (st : Nat) (xs : List ND) (x : ND) (A : Option Addr) (c : Nat) (w : World) (h : ArV w 117 st xs) (hl : SlA w 1 A x.l.length c (x.l.map (.int .i64))) :
    Calls Tryz.prog 129 #[.pointer (some ⟨st, 0, none⟩), .agg #[.int .i64 x.o, .int .i64 x.n, .string x.s, .slice A x.l.length c]] w fun e w' => e = .returned (.bool (mayB xs x)) ∧ Below w.heap.size w w' := by
  rcases hb : shB x with _ | _
  · exact rmay_bad st xs x A c w h hl hb
  · exact rmay_good st xs x A c w h hl hb
end Go.Proofs.YtpkijlmkgomfeaaGreatDoor

/- the document's term: a node's text among others. -/
namespace Go.Proofs.YtpkijlmkgomfeaaGreatDoor
open Go.RowKit Go.KK Go.Shelf
set_option linter.unusedVariables false
set_option linter.unusedSimpArgs false

theorem digits_q (n : Int) (w : World) (h0 : 0 ≤ n) (h : n ≤ 9223372036854775807) : Calls Tryz.prog 58 #[.int .i64 n] w fun e w' => e = .returned (.string (digS n.toNat)) ∧ ∃ m, w' = w.drewN m := digits_any n w h0 h
theorem digS_itoa {n : Int} (h : 0 ≤ n) : (digS n.toNat).data.toList = Lib.itoa n := by rw [itoa_nat h]; rfl
theorem digS_sz (n : Int) (h : n ≤ 9223372036854775807) : (digS n.toNat).size ≤ 21 := digS_le _ (by omega)
/-- A text and what is behind it. -/
def TxR (L : List UInt8) (l : List Int) (j : Nat) (S : ByteArray) : Prop := S.data.toList = L ++ joinB (l.take j) ∧ S.size ≤ 300 + 22 * j
set_option maxHeartbeats 4000000 in
set_option maxRecDepth 20000 in
theorem text_any (x : ND) (A : Option Addr) (c : Nat) (w : World) (hl : SlA w 1 A x.l.length c (x.l.map (.int .i64))) (hn : x.l.length ≤ 64) (ho0 : 0 ≤ x.o) (ho : I64 x.o) (hn0 : 0 ≤ x.n) (hn64 : I64 x.n) (hl0 : ∀ i ∈ x.l, 0 ≤ i) (hli : ∀ i ∈ x.l, I64 i) (hs : x.s.size ≤ 200) :
    Calls Tryz.prog 130 #[.agg #[.int .i64 x.o, .int .i64 x.n, .string x.s, .slice A x.l.length c]] w fun e w' => ∃ K : ByteArray, e = .returned (.string K) ∧ K.data.toList = keyR x ∧ Below w.heap.size w w' := by
  have HS := hid hl
  have B0 := hid (show Below w.heap.size w (w.alloc (.cells #[.int .i64 x.o, .int .i64 x.n, .string x.s, .slice A x.l.length c] 86)) from (Below.refl _ _).alloc (Nat.le_refl _) _)
  have HS1 := hid (hl.ext B0.out)
  have C0 := hid (show let W := w.alloc (.cells #[.int .i64 x.o, .int .i64 x.n, .string x.s, .slice A x.l.length c] 86)
    W.cell? ⟨w.heap.size, 0, none⟩ = some (.int .i64 x.o) ∧ W.cell? ⟨w.heap.size, 1, none⟩ = some (.int .i64 x.n) ∧ W.cell? ⟨w.heap.size, 2, none⟩ = some (.string x.s) ∧ W.cell? ⟨w.heap.size, 3, none⟩ = some (.slice A x.l.length c) by
      refine ⟨?_, ?_, ?_, ?_⟩
      all_goals (rw [World.cell?_alloc_at _ _ _ _ rfl]; rfl))
  have HLI := hid (fun i (h : i ∈ x.l) => And.intro (hl0 i h) (hli i h).2)
  have z1 := digS_sz x.o ho.2
  have z2 := digS_sz x.n hn64.2
  have z3 := digS_sz x.s.size (by omega)
  have e1 := digS_itoa ho0
  have e2 := digS_itoa hn0
  have e3 := digS_itoa (n := (x.s.size : Nat)) (by omega)
  have HQ1 := hid (fun (W : World) => digits_q x.o W ho0 ho.2)
  have HQ2 := hid (fun (W : World) => digits_q x.n W hn0 hn64.2)
  have HQ3 := hid (fun (W : World) => digits_q (x.s.size : Nat) W (by omega) (by omega))
  have HKR := hid (show keyR x = Lib.itoa x.o ++ 32 :: (Lib.itoa x.n ++ 32 :: (Lib.itoa x.s.size ++ 32 :: (x.s.data.toList ++ joinB x.l))) from rfl)
  generalize hd1 : digS x.o.toNat = d1 at *
  generalize hd2 : digS x.n.toNat = d2 at *
  generalize hd3 : digS ((x.s.size : Nat) : Int).toNat = d3 at *
  have k1 : ¬ 9223372036854775807 < d1.size + 1 := by omega
  have k2 : ¬ 9223372036854775807 < d1.size + 1 + d2.size := by omega
  have k3 : ¬ 9223372036854775807 < d1.size + 1 + d2.size + 1 := by omega
  have k4 : ¬ 9223372036854775807 < d1.size + 1 + d2.size + 1 + d3.size := by omega
  have k5 : ¬ 9223372036854775807 < d1.size + 1 + d2.size + 1 + d3.size + 1 := by omega
  have k6 : ¬ 9223372036854775807 < d1.size + 1 + d2.size + 1 + d3.size + 1 + x.s.size := by omega
  have HT := hid (show TxR (Lib.itoa x.o ++ 32 :: (Lib.itoa x.n ++ 32 :: (Lib.itoa x.s.size ++ 32 :: x.s.data.toList))) x.l 0 (d1 ++ ⟨#[32]⟩ ++ d2 ++ ⟨#[32]⟩ ++ d3 ++ ⟨#[32]⟩ ++ x.s) by
    refine ⟨?_, ?_⟩
    · simp only [ByteArray.data_append, Array.toList_append, e1, e2, e3, List.take_zero]
      simp [joinB]
    · simp only [ByteArray.size_append]
      have : (⟨#[32]⟩ : ByteArray).size = 1 := rfl
      omega)
  clear hl ho0 ho hn0 hn64 hl0 hli e1 e2 e3 hd1 hd2 hd3 z1 z2 z3
  go_enter Tryz.func130, Tryz.ntmps130
  go_upto_region 1 with fail
  obtain ⟨c0, c1, c2, c3⟩ := C0.out
  generalize w.alloc (.cells #[.int .i64 x.o, .int .i64 x.n, .string x.s, .slice A x.l.length c] 86) = W0 at *
  go_quiet (first
    | (go_at_call 58; with_reducible exact Calls.quiet_of (HQ1.out _))
    | (go_at_call 58; with_reducible exact Calls.quiet_of (HQ2.out _))
    | (go_at_call 58; with_reducible exact Calls.quiet_of (HQ3.out _)))
  generalize d1 ++ ⟨#[32]⟩ ++ d2 ++ ⟨#[32]⟩ ++ d3 ++ ⟨#[32]⟩ ++ x.s = S0 at *
  clear k1 k2 k3 k4 k5 k6
  go_wp2_with fail
  generalize hLL : Lib.itoa x.o ++ 32 :: (Lib.itoa x.n ++ 32 :: (Lib.itoa x.s.size ++ 32 :: x.s.data.toList)) = LL at *
  have HLL := hid hLL
  clear hLL HQ1 HQ2 HQ3 c0 c1 c2 c3 C0
  go_loopw [27, 3] (fun i v wr => ∃ (j : Nat) (S : ByteArray), i = .int .i64 j ∧ v = .string S ∧ j ≤ x.l.length ∧ TxR LL x.l j S ∧ ∃ q, wr = W0.drewN q) (fun i _ _ => x.l.length - (intOf i).toNat)
  case atStart => exact ⟨0, S0, rfl, rfl, Nat.zero_le _, HT.out, _, rfl⟩
  case round =>
    obtain ⟨j, S, hi, hv, hj, ht, q, hw⟩ := hrel
    subst hi; subst hv; subst hw
    have HTS := hid ht
    clear ht
    by_cases hlt : j < x.l.length
    · obtain ⟨b2, o2, z, hA, hz, hc⟩ := (HS1.out.drewN q).elemI hlt
      subst hA
      have HZ := hid hz
      obtain ⟨hz0, hz1⟩ := HLI.out z (List.mem_of_getElem? hz)
      have hzs := digS_sz z hz1
      have hze := digS_itoa hz0
      have HQ := hid (fun (W : World) => digits_q z W hz0 hz1)
      have HZE := hid hze
      have hsz := HTS.out.2
      generalize hdz : digS z.toNat = dz at *
      have k1 : ¬ 9223372036854775807 < 1 + dz.size := by omega
      have k2 : ¬ 9223372036854775807 < S.size + (1 + dz.size) := by omega
      have HT2 := hid (show TxR LL x.l (j + 1) (S ++ (⟨#[32]⟩ ++ dz)) by
        refine ⟨?_, ?_⟩
        · rw [ByteArray.data_append, ByteArray.data_append, Array.toList_append, Array.toList_append, HTS.out.1, hze, take_snoc hz, joinB_snoc]
          simp
        · simp only [ByteArray.size_append]
          have : (⟨#[32]⟩ : ByteArray).size = 1 := rfl
          omega)
      clear hz hze hdz hzs hsz
      go_wp2_with fail
      refine (HQ.out _).mono ?_
      rintro e1 w1 ⟨rfl, q1, hw1⟩
      rw [World.drewN_drewN] at hw1
      subst hw1
      go_wp2_with fail
      go_roundw
      case rel => exact ⟨j + 1, _, by go_num, rfl, by omega, HT2.out, _, rfl⟩
      case measure => simp [intOf]; omega
    · have HTK := hid (show S.data.toList = keyR x by
        rw [HTS.out.1, List.take_of_length_le (by omega), ← HLL.out, HKR.out]
        simp)
      go_wp2_with fail
      go_ret
      exact ⟨_, rfl, HTK.out, below_drewN B0.out _⟩
end Go.Proofs.YtpkijlmkgomfeaaGreatDoor

/- the document's term: a node is made. -/
namespace Go.KK
open Go.RowKit Go.Maps
set_option linter.unusedVariables false
set_option linter.unusedSimpArgs false
end Go.KK
namespace Go.Proofs.YtpkijlmkgomfeaaGreatDoor
open Go.RowKit Go.KK Go.Shelf Go.Maps Go.ChangeMaps

/-- What a call that makes a node leaves. -/
def MakR (w : World) (Z : Nat → Prop) (st mp : Nat) (xs : List ND) (w' : World) : Prop := ∃ Z' v' qs', ArR w' Z' st mp v' xs qs' ∧ Turn Z w w' ∧ ∀ b, Z' b → Z b ∨ w.heap.size ≤ b
theorem makR_below {w w' : World} {Z : Nat → Prop} {st mp : Nat} {v : Value} {xs : List ND} {qs : List Value} (h : ArR w Z st mp v xs qs) (hb : Below w.heap.size w w') : MakR w Z st mp xs w' :=
  ⟨Z, v, qs, h.ext hb, .of_below hb, fun _ h => .inl h⟩
theorem rmake_done {w W W1 w4 w6 : World} {Z : Nat → Prop} {st mp : Nat} {v v4 q : Value} {xs : List ND} {qs : List Value} {x : ND} {D : MD} {b2 : Nat} (h : ArR w Z st mp v xs qs) (hB : Below w.heap.size w W) (hb1 : ∀ b, b < W.heap.size → W1.heap[b]? = W.heap[b]?) (hs1 : W.heap.size ≤ W1.heap.size)
    (hot : W1.os = W.os ∧ W1.tape = W.tape ∧ W1.output = W.output)
    (hq : W.ownsRow b2 3 1 q x.l.length (x.l.map (.int .i64))) (hb2 : w.heap.size < b2) (hg4 : W1.grownBy w4 v.ownBlock) (h4 : w4.ownsRow 0 86 4 v4 (xs.length + 1) (nds xs qs ++ x.cells q)) (hl4 : v4.ownBlock = v.ownBlock ∨ v4.ownBlock = some W1.heap.size)
    (hbx : w4.heap[st]? = some (.cells #[v, .map (some mp)] 117 (0, 0))) (hm : w6.ownsMap Tryz.prog 9 (plainElem Tryz.prog 3) mp (xs.length + 1) D) (hmo : MapOk keyR (xs ++ [x]) D) (hok : Okay (xs ++ [x]))
    (hg6 : (w4.setCell ⟨st, 0, none⟩ v4).grownBy w6 (some mp)) : MakR w Z st mp (xs ++ [x]) w6 := by
  have hzl := h.zlt
  have l1 := hzl _ h.zst
  have l2 := hzl _ h.zmp.1
  have hmne := h.zmp.2
  have s1 := hB.size
  have s4 := hg4.size
  have s5 : (w4.setCell ⟨st, 0, none⟩ v4).heap.size = w4.heap.size := by simp
  have s6 := hg6.size
  rw [s5] at s6
  have hne : some st ≠ v.ownBlock := fun e => (h.zv st e.symm).2.1 rfl
  have box6 : w6.heap[st]? = some (.cells #[v4, .map (some mp)] 117 (0, 0)) := by
    rw [hg6.block st (by rw [s5]; omega) (by intro e; injection e with e; exact hmne e.symm), heap_setCell_same w4 st 0 _ _ v4 hbx]
    rfl
  have step : ∀ b, b < w4.heap.size → b ≠ st → b ≠ mp → w6.heap[b]? = w4.heap[b]? := fun b hb h1 h2 => by
    rw [hg6.block b (by rw [s5]; exact hb) (by intro e; injection e with e; exact h2 e), Below.heap_setCell w4 ⟨st, 0, none⟩ v4 b h1]
  have hv4 : v4.ownBlock = v.ownBlock ∨ ∀ b, v4.ownBlock = some b → w.heap.size ≤ b ∧ b < w6.heap.size := by
    rcases hl4 with e | e
    · exact .inl e
    · refine .inr fun b hb => ?_
      have hlt := (h4.lt b hb).2
      rw [e] at hb
      injection hb with hb
      omega
  have vlt : ∀ b, v4.ownBlock = some b → b < w4.heap.size ∧ b ≠ st ∧ b ≠ mp := fun b hb => by
    refine ⟨(h4.lt b hb).2, ?_⟩
    rcases hl4 with e | e
    · have := h.zv b (e ▸ hb); exact ⟨this.2.1, this.2.2⟩
    · rw [e] at hb; injection hb with hb; omega
  have hqk : ∀ b, q.ownBlock = some b → b2 ≤ b ∧ b < W.heap.size ∧ w6.heap[b]? = W.heap[b]? := fun b hb => by
    obtain ⟨q1, q2⟩ := hq.lt b hb
    refine ⟨q1, q2, ?_⟩
    rw [step b (by omega) (by omega) (by omega), hg4.block b (by omega) (fun e => by have := (h.zv b e.symm).1; have := hzl b this; omega), hb1 b q2]
  have hold : ∀ b, b < w.heap.size → b ≠ st → b ≠ mp → v.ownBlock ≠ some b → w6.heap[b]? = w.heap[b]? := fun b hb h1 h2 h3 => by
    rw [step b (by omega) h1 h2, hg4.block b (by omega) (fun e => h3 e.symm), hb1 b (by omega), hB.block b hb]
  have row6 : w6.ownsRow 0 86 4 v4 (xs.length + 1) (nds xs qs ++ x.cells q) := own_block h4 fun b hb => by
    obtain ⟨a1, a2, a3⟩ := vlt b hb
    exact step b a1 a2 a3
  obtain ⟨Aq, cq, hqe, -⟩ := SlA.owned hq
  have hq6 : In1 w6 q x.l := by
    have := own_block hq (w' := w6) fun b hb => (hqk b hb).2.2
    obtain ⟨A', c', e', hs'⟩ := SlA.owned this
    exact ⟨A', c', e', hs'⟩
  have hP := h.push (w' := w6) (v' := v4) (q := q) (x := x) (D := D) hok box6 row6 hv4 hq6 (fun hne' b hb => by
    obtain ⟨a1, a2, a3⟩ := hqk b hb
    refine ⟨by omega, by omega, fun e => ?_⟩
    rcases hl4 with e4 | e4
    · have := (h.zv b (e4 ▸ e)).1; have := hzl b this; omega
    · rw [e4] at e; injection e with e; omega) hm hmo (fun b hz h1 h2 h3 => hold b (hzl b hz) h1 h2 h3) (by omega)
  refine ⟨_, v4, _, hP, ⟨?_, ?_, ?_, by omega, fun b hb hz => hold b hb (fun e => hz (e ▸ h.zst)) (fun e => hz (e ▸ h.zmp.1)) (fun e => hz (h.zv b e).1)⟩, fun b hb => ?_⟩
  · rw [hg6.os, show (w4.setCell ⟨st, 0, none⟩ v4).os = w4.os from (Turn.setCell (F := fun _ => True) (w := w4) (a := ⟨st, 0, none⟩) v4 (.inl trivial)).os, hg4.os, hot.1, hB.os]
  · rw [hg6.tape, show (w4.setCell ⟨st, 0, none⟩ v4).tape = w4.tape from (Turn.setCell (F := fun _ => True) (w := w4) (a := ⟨st, 0, none⟩) v4 (.inl trivial)).tape, hg4.tape, hot.2.1, hB.tape]
  · rw [hg6.output, show (w4.setCell ⟨st, 0, none⟩ v4).output = w4.output from (Turn.setCell (F := fun _ => True) (w := w4) (a := ⟨st, 0, none⟩) v4 (.inl trivial)).output, hg4.output, hot.2.2, hB.output]
  · rcases hb with hb | hb
    · exact .inl hb
    · exact .inr hb.1
section
variable (Z : Nat → Prop) (st mp : Nat) (v : Value) (xs : List ND) (qs : List Value) (x : ND) (A : Option Addr) (c : Nat) (w : World)
set_option maxHeartbeats 1000000 in
theorem rmake_no (h : ArR w Z st mp v xs qs) (hl : SlA w 1 A x.l.length c (x.l.map (.int .i64))) (hm : mayB xs x = false) :
    Calls Tryz.prog 69 #[.pointer (some ⟨st, 0, none⟩), .agg #[.int .i64 x.o, .int .i64 x.n, .string x.s, .slice A x.l.length c]] w fun e w' => e = .returned (.tuple #[.int .i64 0, .int .i64 1]) ∧ Below w.heap.size w w' := by
  have H := hid (Ar.v h); have HS := hid hl; have HM := hid hm
  have B0 := hid (show Below w.heap.size w (w.alloc (.cells #[.int .i64 x.o, .int .i64 x.n, .string x.s, .slice A x.l.length c] 86)) from (Below.refl _ _).alloc (Nat.le_refl _) _)
  clear h hl hm
  go_enter Tryz.func69, Tryz.ntmps69
  go_wp2_with fail
  refine (rmay_any st xs x A c _ (H.out.ext B0.out) (HS.out.ext B0.out)).mono ?_
  rintro e1 w1 ⟨rfl, b1⟩
  rw [HM.out]
  have B1 := hid (B0.out.trans (b1.mono B0.out.size))
  clear b1
  go_wp2_with fail
  go_ret2
  exact ⟨rfl, B1.out⟩
set_option maxHeartbeats 4000000 in
set_option maxRecDepth 20000 in
theorem rmake_yes (h : ArR w Z st mp v xs qs) (hl : SlA w 1 A x.l.length c (x.l.map (.int .i64))) (hm : mayB xs x = true) (hx : NdI x) :
    Calls Tryz.prog 69 #[.pointer (some ⟨st, 0, none⟩), .agg #[.int .i64 x.o, .int .i64 x.n, .string x.s, .slice A x.l.length c]] w fun e w' => e = .returned (.tuple #[.int .i64 (makI xs x), .int .i64 (makE xs x)]) ∧ MakR w Z st mp (makT xs x) w' := by
  have HAR := hid h
  have H := hid (Ar.v h); have HS := hid hl; have HM := hid hm; have HX := hid hx
  have B0 := hid (show Below w.heap.size w (w.alloc (.cells #[.int .i64 x.o, .int .i64 x.n, .string x.s, .slice A x.l.length c] 86)) from (Below.refl _ _).alloc (Nat.le_refl _) _)
  have X0 := hid (show (w.alloc (.cells #[.int .i64 x.o, .int .i64 x.n, .string x.s, .slice A x.l.length c] 86)).ownsRow w.heap.size 86 4 (.slice (some ⟨w.heap.size, 0, none⟩) 1 1) 1 [.int .i64 x.o, .int .i64 x.n, .string x.s, .slice A x.l.length c] from
    ⟨by simp, .inr ⟨w.heap.size, 1, _, rfl, Nat.le_refl _, heap_alloc_new w _, Nat.le_refl _, by decide, rfl, by simp⟩⟩)
  have hsh : x.l.length ≤ 64 ∧ x.s.size ≤ 200 ∧ 0 ≤ x.n ∧ (∀ i ∈ x.l, 0 ≤ i) ∧ 0 ≤ x.o := by
    unfold mayB shB at hm
    simp only [Bool.and_eq_true, decide_eq_true_eq, List.all_eq_true] at hm
    refine ⟨hm.1.1.1.1.1.1.2, hm.1.1.1.1.2, hm.1.1.1.1.1.2, fun i hi => ?_, ?_⟩
    · have := hm.1.2 i hi
      unfold hasB at this
      simp only [Bool.and_eq_true, decide_eq_true_eq] at this
      exact this.1
    · have hlb := hm.1.1.1.1.1.1.1
      unfold lenB at hlb
      by_cases ho : 0 ≤ x.o
      · exact ho
      · have : arN x.o = none := by
          unfold arN
          split <;> first | omega | rfl
        rw [this] at hlb
        simp at hlb
        omega
  obtain ⟨hs64, hs200, hn0, hl0, ho0⟩ := hsh
  have HL0 := hid hl0
  have hlt := (Ar.v h).lt
  obtain ⟨Av, cv, rfl, -⟩ := h.rows
  obtain ⟨i0, hi, hz0, hz1, hz2⟩ := info_parts infoN
  obtain ⟨j0, hj, hy0, hy1, hy2⟩ := info_parts Tryz.infoInt
  clear h hl hm hx hl0
  go_enter Tryz.func69, Tryz.ntmps69
  go_wp2_with fail
  refine (rmay_any st xs x A c _ (H.out.ext B0.out) (HS.out.ext B0.out)).mono ?_
  rintro e1 w1 ⟨rfl, b1⟩
  rw [HM.out]
  have B1 := hid (B0.out.trans (b1.mono B0.out.size))
  have X1 := hid (own_ext X0.out b1)
  clear b1
  obtain ⟨⟨k0, k1, k2, k3⟩, -⟩ := box4 X1.out
  go_wp2_with fail
  refine (text_any x A c _ (HS.out.ext B1.out) hs64 ho0 HX.out.o hn0 HX.out.n HL0.out HX.out.l hs200).mono ?_
  rintro e2 w2 ⟨KS, rfl, hk, b2⟩
  have HK := hid hk
  have B2 := hid (B1.out.trans (b2.mono B1.out.size))
  have X2 := hid (own_ext X1.out b2)
  clear b2 hk k0 k1 k2 k3 hn0 ho0
  have AR2 := hid (HAR.out.ext B2.out)
  obtain ⟨D, hD, hMO⟩ := AR2.out.map
  have HD := hid hD; have HMO := hid hMO
  clear hD hMO
  have s0 : w2.cell? ⟨st, 0, none⟩ = some (.slice Av xs.length cv) := cell_of_row w2 st 0 _ _ (0, 0) AR2.out.box
  have s1 : w2.cell? ⟨st, 1, none⟩ = some (.map (some mp)) := cell_of_row w2 st 1 _ _ (0, 0) AR2.out.box
  have hsz : KS.size ≤ maxLen := by
    have h1 : KS.size = (keyR x).length := by rw [← HK.out]; rfl
    have h2 := itoa_le x.o HX.out.o.1 HX.out.o.2
    have h2' := itoa_le x.n HX.out.n.1 HX.out.n.2
    have h2'' := itoa_le (x.s.size : Nat) (by omega) (by omega)
    have h3 := join_le (l := x.l) HX.out.l
    have h4 : x.s.data.toList.length = x.s.size := rfl
    rw [h1]
    unfold keyR maxLen
    simp only [List.length_append, List.length_cons] at h3 ⊢
    omega
  have hkey : keyOf Tryz.prog 9 (.string KS) = some (.string (keyR x)) := by rw [← HK.out]; exact Go.WideMaps.keyOf_string_mk Tryz.underlying9 hsz
  have HKEY := hid hkey
  clear hkey hsz
  by_cases hx : x ∈ xs
  · have HH := hid (HMO.out.yes hx)
    obtain ⟨e1, e2, e3⟩ := mak_old HM.out hx
    have HI := hid e2; have HE := hid e3; have HTT := hid e1
    have HIX := hid (HMO.out.at' _ x (idxOf_get hx))
    clear hx e1 e2 e3
    go_wp2_with (at_lookup; refine wpList_lookup_own_ok_int _ rfl _ _ 115 rfl 9 3 .i64 lawS Tryz.underlying115 Tryz.underlying3 (zeroI _) mp _ D rfl HD.out _ _ rfl HKEY.out ?_; intro cc hat hwc; rw [HH.out])
    have HCC := hid (show cc = (xs.idxOf x : Nat) by
      rw [HIX.out] at hat
      injection hat with hat
      injection hat with _ hat
      exact hat.symm)
    clear hat hwc
    go_wp2
    go_ret2
    refine ⟨by rw [HI.out, HE.out, HCC.out]; rfl, ?_⟩
    rw [HTT.out]
    exact makR_below HAR.out B2.out
  · have HH := hid (HMO.out.not (fun {_ _} => keyR_inj) hx)
    by_cases hf : 100000 ≤ xs.length
    · have HI := hid (show makI xs x = 0 by unfold makI; rw [HM.out, if_pos rfl, if_neg hx, if_pos hf])
      have HE := hid (show makE xs x = 2 by unfold makE; rw [HM.out, if_pos rfl, if_neg hx, if_pos hf])
      have HTT := hid (show makT xs x = xs by unfold makT; rw [HM.out, if_pos rfl, if_neg hx, if_pos hf])
      have hf' : (100000 : Int) ≤ (xs.length : Int) := by omega
      clear hx hf
      go_wp2_with (at_lookup; refine wpList_lookup_own_ok_int _ rfl _ _ 115 rfl 9 3 .i64 lawS Tryz.underlying115 Tryz.underlying3 (zeroI _) mp _ D rfl HD.out _ _ rfl HKEY.out ?_; intro cc hat hwc; rw [HH.out])
      go_ret2
      refine ⟨by rw [HI.out, HE.out]; rfl, ?_⟩
      rw [HTT.out]
      exact makR_below HAR.out B2.out
    · obtain ⟨e1, e2, e3⟩ := mak_new HM.out hx (by omega)
      have HI := hid e2; have HE := hid e3; have HTT := hid e1; have HNX := hid hx
      have hf' : decide ((100000 : Int) ≤ (xs.length : Int)) = false := decide_eq_false (by omega)
      have HF := hid hf
      clear e1 e2 e3 hx hf
      obtain ⟨⟨k0, k1, k2, k3⟩, f0, f1, f2, f3⟩ := box4 X2.out
      have HSN := hid (HS.out.ext B2.out)
      go_wp2_with (first
        | (at_lookup; refine wpList_lookup_own_ok_int _ rfl _ _ 115 rfl 9 3 .i64 lawS Tryz.underlying115 Tryz.underlying3 (zeroI _) mp _ D rfl HD.out _ _ rfl HKEY.out ?_; intro cc hat hwc; rw [HH.out]; clear hat hwc)
        | (at_builtin; refine wpList_append_new _ rfl _ _ 30 rfl 3 j0 (.int .i64 0) 1 8 Tryz.underlying30 hj hy0 hy1 hy2 rfl (by decide) rfl _ _ _ _ rfl HSN.out (ints_one _ _) (by unfold maxLen; omega) (by omega) ?_; intro q0 w3 oq b3; obtain ⟨Aq, cq, rfl, -⟩ := SlA.owned oq; have X3 := hid (own_ext X2.out b3); have AR3 := hid (AR2.out.ext b3); have B3 := hid (B2.out.trans (b3.mono B2.out.size)); have OQ := hid oq; clear oq b3; obtain ⟨⟨l0, l1, l2, l3⟩, g0, g1, g2, g3⟩ := box4 X3.out))
      have hws : w.heap.size < w2.heap.size := (X2.out.lt w.heap.size rfl).2
      refine forget (R := fun W => ArR W Z st mp (.slice Av xs.length cv) xs qs ∧ W.ownsRow w.heap.size 86 4 (.slice (some ⟨w.heap.size, 0, none⟩) 1 1) 1 (x.cells (.slice Aq x.l.length cq)) ∧ W.ownsRow w2.heap.size 3 1 (.slice Aq x.l.length cq) x.l.length (x.l.map (.int .i64)) ∧ Below w.heap.size w W) ?_ ⟨?_, ?_, ?_, ?_⟩
      rotate_left
      · exact AR3.out.turn (Turn.setCell (F := fun b => b = w.heap.size) (.slice Aq x.l.length cq) (.inl rfl)) (fun b hz e => by have := HAR.out.zlt b hz; omega)
      · exact (X3.out.stored 3 (.slice Aq x.l.length cq)).1
      · exact own_block OQ.out fun b hb => Below.heap_setCell w3 ⟨w.heap.size, 3, none⟩ (.slice Aq x.l.length cq) b (by have := (OQ.out.lt b hb).1; show b ≠ w.heap.size; omega)
      · exact B3.out.setCell (p := ⟨w.heap.size, 3, none⟩) (Nat.le_refl _) _
      rintro W ⟨ra, rx, ro, rb⟩
      have AR4 := hid ra; have X4 := hid rx; have OQ4 := hid ro; have B4 := hid rb
      clear ra rx ro rb k0 k1 k2 k3 f0 f1 f2 f3 s0 s1 X3 AR3 B3 OQ l0 l1 l2 l3 g0 g1 g2 g3
      obtain ⟨⟨k0, k1, k2, k3⟩, -⟩ := box4 X4.out
      have s0 : W.cell? ⟨st, 0, none⟩ = some (.slice Av xs.length cv) := (ar_box AR4.out).cellAt 0 (by decide)
      have fs0 : W.frozen? ⟨st, 0, none⟩ = false := (ar_box AR4.out).frozenAt 0
      have hsW : w.heap.size < W.heap.size := (X4.out.lt w.heap.size rfl).2
      have hrow : ((W.alloc (.cells #[.int .i64 x.o, .int .i64 x.n, .string x.s, .slice Aq x.l.length cq] 86)).drew).ownsRow 0 86 4 (.slice Av xs.length cv) xs.length (nds xs qs) := own_block (AR4.out.row.alloc _) (fun _ _ => rfl)
      have HROW := hid hrow
      have HN1 := hid (show xs.length ≤ 100000 by have := HF.out; omega)
      have hstW : st < W.heap.size := by omega
      have s0' : (W.alloc (.cells #[.int .i64 x.o, .int .i64 x.n, .string x.s, .slice Aq x.l.length cq] 86)).cell? ⟨st, 0, none⟩ = some (.slice Av xs.length cv) := (World.cell?_alloc_old _ _ _ (show st ≠ W.heap.size by omega)).trans s0
      have HBX := hid (show ((W.alloc (.cells #[.int .i64 x.o, .int .i64 x.n, .string x.s, .slice Aq x.l.length cq] 86)).drew).heap[st]? = some (.cells #[.slice Av xs.length cv, .map (some mp)] 117 (0, 0)) from (Below.heap_alloc W _ st hstW).trans AR4.out.box)
      have HNE := hid (show some st ≠ (Value.slice Av xs.length cv).ownBlock from fun e => (AR4.out.zv st e.symm).2.1 rfl)
      clear hrow
      go_region_law (refine step_append_sl _ rfl (.tmp 40) (.tmp 42) 47 rfl 0 86 i0 (.agg #[.int .i64 0, .int .i64 0, .string ⟨#[]⟩, .slice none 0 0]) 4 56 Tryz.underlying47 hi hz0 hz1 hz2 rfl (by decide) (.slice Av xs.length cv) xs.length (nds xs qs) (by rfl) HROW.out (some ⟨W.heap.size, 0, none⟩) 1 1 (x.cells (.slice Aq x.l.length cq)) (by rfl) (lit4 _ _ _ _).drew (one4 _ _ _ _) (by have := HN1.out; unfold maxLen; omega) (by have := HN1.out; omega) (Nat.zero_le _) ?_; intro v4 w4 h4 g4 l4; obtain ⟨A4, c4, rfl, -⟩ := SlA.owned h4; have H4 := hid h4; have G4 := hid g4; have L4 := hid l4; have HB4 := hid ((g4.block st (by simp; omega) HNE.out).trans HBX.out); obtain ⟨s4, s5, f4⟩ := box2 HB4.out; clear h4 g4 l4)
      all_goals
        obtain ⟨D4, hD4, hM4⟩ := AR4.out.map
        have HD5 := hid (map_block (w' := w4.setCell ⟨st, 0, none⟩ (.slice A4 (xs.length + 1) c4)) hD4 (by
          have h1 := AR4.out.zlt _ AR4.out.zmp.1
          have h2 := AR4.out.zmp.2
          rw [Below.heap_setCell w4 ⟨st, 0, none⟩ _ mp h2, G4.out.block mp (by simp; omega) (fun e => (AR4.out.zv mp e.symm).2.2 rfl)]
          exact Below.heap_alloc W _ mp h1))
        have HM4 := hid hM4
        have hb6 := box2 (a := .slice A4 (xs.length + 1) c4) (b := .map (some mp)) (heap_setCell_same w4 st 0 _ _ (.slice A4 (xs.length + 1) c4) HB4.out)
        go_upto_region 11 with fail
        refine forget (R := fun V => (V.cell? ⟨st, 0, none⟩ = some (.slice A4 (xs.length + 1) c4) ∧ V.cell? ⟨st, 1, none⟩ = some (.map (some mp))) ∧ V.drew.ownsMap Tryz.prog 9 (plainElem Tryz.prog 3) mp xs.length D4 ∧ ∀ w6, V.grownBy w6 (some mp) → (w4.setCell ⟨st, 0, none⟩ (.slice A4 (xs.length + 1) c4)).grownBy w6 (some mp)) ?_ ⟨⟨hb6.1, hb6.2.1⟩, map_block HD5.out rfl, fun _ h => h⟩
        clear hD4 hM4 hb6 HD5 s4 s5 f4 s0' s0 fs0 k0 k1 k2 k3
        rintro V ⟨⟨v0, v1⟩, hvm, hvg⟩
        have HVM := hid hvm; have HVG := hid hvg
        clear hvm hvg
        have hsub : IntKind.i64.wrap (xs.length : Int) = (xs.length : Int) := by rw [IntKind.wrap_i64]; have := HN1.out; omega
        have hkk := HKEY.out
        have hnm : xs.length < maxLen := by have := HN1.out; unfold maxLen; omega
        have hpe := plainElem_int (H := Unit) Tryz.underlying3 (WalkArith.wf_i64 (n := (xs.length : Int)) (by have := HN1.out; omega))
        obtain ⟨w6, hrun, hown6, hg6⟩ := HVM.out.update lawS Tryz.underlying115 hnm hkk hpe
        have HO6 := hid hown6; have HG6 := hid hg6
        clear hown6 hg6 hkk hpe hnm
        go_region
        all_goals
          have hok : Okay (xs ++ [x]) := by
            have := okay_mak HAR.out.ok (x := x) (by have := HX.out.n.2; omega)
            rwa [HTT.out] at this
          have HG7 := hid (HVG.out _ (grown_undrew HG6.out))
          have HFIN := hid (rmake_done HAR.out B4.out (W1 := (W.alloc (.cells #[.int .i64 x.o, .int .i64 x.n, .string x.s, .slice Aq x.l.length cq] 86)).drew) (fun b hb => Below.heap_alloc W _ b hb) (by simp) ⟨rfl, rfl, rfl⟩ OQ4.out hws G4.out H4.out L4.out HB4.out HO6.out (mapOk_put HM4.out (fun {_ _} => keyR_inj) HNX.out) hok HG7.out)
          have y0 : w6.cell? ⟨st, 0, none⟩ = some (.slice A4 (xs.length + 1) c4) := by
            rw [World.cell?_of_block (a := ⟨st, 0, none⟩) (HG6.out.block st (block_lt_of_cell v0) (fun e => by injection e with e; exact HAR.out.zmp.2 e.symm))]
            exact v0
          have hn9 : (xs.length : Int) + 1 - 1 = (xs.length : Int) := by omega
          clear hrun v0 v1
          go_wp2
          go_ret2
          refine ⟨by rw [HI.out, HE.out]; rfl, ?_⟩
          rw [HTT.out]
          exact HFIN.out
/-- A node is made, whatever it is. -/
theorem rmake_any (h : ArR w Z st mp v xs qs) (hl : SlA w 1 A x.l.length c (x.l.map (.int .i64))) (hx : NdI x) :
    Calls Tryz.prog 69 #[.pointer (some ⟨st, 0, none⟩), .agg #[.int .i64 x.o, .int .i64 x.n, .string x.s, .slice A x.l.length c]] w fun e w' => e = .returned (.tuple #[.int .i64 (makI xs x), .int .i64 (makE xs x)]) ∧ MakR w Z st mp (makT xs x) w' := by
  rcases hm : mayB xs x with _ | _
  · refine (rmake_no Z st mp v xs qs x A c w h hl hm).mono ?_
    rintro e w' ⟨rfl, hb⟩
    refine ⟨?_, ?_⟩
    · unfold makI makE; rw [hm]; rfl
    · have : makT xs x = xs := by unfold makT; rw [hm]; rfl
      rw [this]
      exact makR_below h hb
  · exact rmake_yes Z st mp v xs qs x A c w h hl hm hx
end
end Go.Proofs.YtpkijlmkgomfeaaGreatDoor

