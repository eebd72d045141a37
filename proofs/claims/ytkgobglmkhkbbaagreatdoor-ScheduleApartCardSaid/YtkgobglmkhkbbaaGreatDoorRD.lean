/- the document's term: Digits. -/
import Derived.Test.YtkgobglmkhkbbaaGreatDoorA2
import Derived.Deep.QuietTactic
import Derived.BigQuiet
import Derived.Deep.RegionWith
import Derived.Deep.RegionLaw
import Derived.Lib.ItoaLen
namespace Go.Proofs.YtkgobglmkhkbbaaGreatDoor
open Go.RowKit Go.KK
set_option linter.unusedVariables false
set_option linter.unusedSimpArgs false

/-- A number's text. -/
def digS (n : Nat) : ByteArray := ⟨(Lib.decDigits n).toArray⟩
def Dig (n : Int) (w : World) (e : Ending) (w' : World) : Prop := e = .returned (.string (digS n.toNat)) ∧ ∃ m, w' = w.drewN m
theorem dig_small {n : Nat} (h : n < 10) : Lib.decDigits n = [UInt8.ofNat (48 + n)] := by rw [Lib.decDigits]; simp [h]
theorem dig_step {n : Nat} (h : ¬ n < 10) : Lib.decDigits n = Lib.decDigits (n / 10) ++ [UInt8.ofNat (48 + n % 10)] := by
  conv => lhs; rw [Lib.decDigits]
  simp [h]
theorem dig_len (n : Nat) : (Lib.decDigits n).length ≤ n + 1 := by
  induction n using Nat.strongRecOn with
  | ind n ih =>
    by_cases h : n < 10
    · rw [dig_small h]; simp
    · rw [dig_step h, List.length_append]
      have := ih (n / 10) (by omega)
      simp only [List.length_cons, List.length_nil]
      omega
theorem ext_digit : ∀ d : Nat, d < 10 → ((⟨#[48, 49, 50, 51, 52, 53, 54, 55, 56, 57]⟩ : ByteArray).extract d (d + 1)).data.toList = [UInt8.ofNat (48 + d)] := by decide +kernel
theorem dig_ext {n : Nat} {K : ByteArray} (h : K.data.toList = Lib.decDigits n) : K = digS n := str_ext h
theorem digS_data (n : Nat) : (digS n).data.toList = Lib.decDigits n := rfl
theorem digS_le (n : Nat) (h : n ≤ 9223372036854775807) : (digS n).size ≤ 21 := by
  have := Lib.itoa_length_le (n : Int) (by omega) (by omega)
  unfold Lib.itoa at this
  rw [if_neg (by omega)] at this
  exact this
theorem itoa_nat {n : Int} (h : 0 ≤ n) : Lib.itoa n = Lib.decDigits n.toNat := by unfold Lib.itoa; rw [if_neg (by omega)]
set_option maxHeartbeats 2000000 in
theorem digits_ind (k : Nat) : ∀ (n : Int) (w : World), 0 ≤ n → n ≤ k → n ≤ 9223372036854775807 →
    Calls Tryz.prog 82 #[.int .i64 n] w (Dig n w) := by
  induction k with
  | zero =>
    intro n w h0 hk _
    have hn : n = 0 := by omega
    subst hn
    go_enter Tryz.func82, Tryz.ntmps82
    go_wp2_with fail
    go_ret
    exact ⟨congrArg (fun K => Ending.returned (.string K)) (dig_ext (n := 0) (by decide +kernel)), 0, rfl⟩
  | succ k ih =>
    intro n w h0 hk h63
    by_cases hn : n < 10
    · obtain ⟨j, rfl⟩ := Int.eq_ofNat_of_zero_le h0
      have hj : j < 10 := by omega
      have he := ext_digit j hj
      have HE := hid he
      clear he
      go_enter Tryz.func82, Tryz.ntmps82
      go_wp2_with fail
      go_ret
      refine ⟨?_, 0, rfl⟩
      rw [Int.toNat_natCast]
      exact congrArg (fun K => Ending.returned (.string K)) (dig_ext (by rw [dig_small hj]; exact HE.out))
    · obtain ⟨j, rfl⟩ := Int.eq_ofNat_of_zero_le h0
      have HIH := hid (fun (W : World) => show Calls Tryz.prog 82 #[.int .i64 ((j : Int) / 10)] W (fun e w' => e = .returned (.string (digS (j / 10))) ∧ ∃ m, w' = W.drewN m) from ih ((j : Int) / 10) W (by omega) (by omega) (by omega))
      have HJ := hid (show ¬ j < 10 by omega)
      have HE := hid (ext_digit (j % 10) (Nat.mod_lt _ (by decide)))
      have hd0 : 0 ≤ (j : Int) % 10 := by omega
      have hd1 : (j : Int) % 10 < 10 := by omega
      have hq : (10 : Int) ≠ 0 := by decide
      have hw1 : IntKind.i64.wrap ((j : Int) % 10 + 1) = (j : Int) % 10 + 1 := by rw [IntKind.wrap_i64]; omega
      have hw0 : IntKind.i64.wrap ((j : Int) / 10) = (j : Int) / 10 := by rw [IntKind.wrap_i64]; omega
      have hm : (j : Int).tmod 10 = (j : Int) % 10 := Int.tmod_eq_emod_of_nonneg (by omega)
      have hv : (j : Int).tdiv 10 = (j : Int) / 10 := Int.tdiv_eq_ediv_of_nonneg (by omega)
      have hsl : ∀ W : World, (Instr.slice 9 (.string ⟨#[48, 49, 50, 51, 52, 53, 54, 55, 56, 57]⟩) (some (.int .i64 ((j : Int) % 10))) (some (.int .i64 ((j : Int) % 10 + 1))) none).run Tryz.prog W = .ok (.string ((⟨#[48, 49, 50, 51, 52, 53, 54, 55, 56, 57]⟩ : ByteArray).extract (j % 10) (j % 10 + 1))) W := fun W => by
        have := run_slice_string (P := Tryz.prog) W 9 ⟨#[48, 49, 50, 51, 52, 53, 54, 55, 56, 57]⟩ .i64 .i64 ((j : Int) % 10) ((j : Int) % 10 + 1) Tryz.underlying9 (by omega) (by omega) (by show (j : Int) % 10 + 1 ≤ 10; omega)
        rw [show ((j : Int) % 10).toNat = j % 10 by omega, show ((j : Int) % 10 + 1).toNat = j % 10 + 1 by omega] at this
        exact this
      have hX : ((⟨#[48, 49, 50, 51, 52, 53, 54, 55, 56, 57]⟩ : ByteArray).extract (j % 10) (j % 10 + 1)).size = 1 := by
        show ((⟨#[48, 49, 50, 51, 52, 53, 54, 55, 56, 57]⟩ : ByteArray).extract (j % 10) (j % 10 + 1)).data.toList.length = 1
        rw [HE.out]; rfl
      have hK := digS_le (j / 10) (by omega)
      generalize hXX : (⟨#[48, 49, 50, 51, 52, 53, 54, 55, 56, 57]⟩ : ByteArray).extract (j % 10) (j % 10 + 1) = X at *
      generalize hKK : digS (j / 10) = K at *
      have hcat : ¬ 9223372036854775807 < K.size + X.size := by omega
      have HXX := hid hXX; have HKK := hid hKK
      clear ih hk hXX hKK hX hK
      go_enter Tryz.func82, Tryz.ntmps82
      go_wp2_with fail
      go_quiet ((go_at_call 82; exact Calls.quiet_of (HIH.out _)))
      go_wp2_with fail
      go_ret
      refine ⟨?_, nq, rfl⟩
      rw [Int.toNat_natCast]
      refine congrArg (fun K => Ending.returned (.string K)) (dig_ext ?_)
      rw [dig_step HJ.out, ByteArray.data_append, Array.toList_append, HE.out, ← HKK.out]; rfl
theorem digits_any (n : Int) (w : World) (h0 : 0 ≤ n) (h : n ≤ 9223372036854775807) : Calls Tryz.prog 82 #[.int .i64 n] w (Dig n w) := digits_ind n.toNat n w h0 (by omega) h
end Go.Proofs.YtkgobglmkhkbbaaGreatDoor
