import Derived.Test.YtadbgmfdbahcbaaDoorZS1
/- the document's layer 5: a shower's parts, given a term's pattern. -/
namespace Go.Proofs.YtadbgmfdbahcbaaDoor
open Go.RowKit Go.KK Go.Shelf Go.Maps
set_option linter.unusedVariables false
set_option linter.unusedSimpArgs false

/-- What pattern tells. -/
def RtD (W1 : World) (ss sb mb : Nat) (xs : List ND) (I : Int → Bool) (t : Int) : Prop := ∀ (num : List Int) (w : World), ShS W1 w ss sb mb xs num → (patT xs I num t).1.length ≤ 100000000 →
  Calls Tryd.prog 33 #[.pointer (some ⟨ss, 0, none⟩), .int .i64 t] w fun e w' => e = .returned (strV (patT xs I num t).1) ∧ ShS W1 w' ss sb mb xs (patT xs I num t).2 ∧ FrS ss w w'
theorem mkS (l : List UInt8) : (⟨l.toArray⟩ : ByteArray).size = l.length := bsz l
theorem cat_byte (l : List UInt8) (b : UInt8) : (⟨l.toArray⟩ : ByteArray) ++ ⟨#[b]⟩ = ⟨(l ++ [b]).toArray⟩ := by
  apply str_ext
  rw [ByteArray.data_append, Array.toList_append]
theorem cat_list (l m : List UInt8) : (⟨l.toArray⟩ : ByteArray) ++ ⟨m.toArray⟩ = ⟨(l ++ m).toArray⟩ := by
  apply str_ext
  rw [ByteArray.data_append, Array.toList_append]
set_option maxHeartbeats 4000000 in
set_option maxRecDepth 100000 in
theorem rparts_pw (W1 w : World) (ss sb mb : Nat) (xs : List ND) (I : Int → Bool) (num : List Int) (A : Option Addr) (n c : Nat) (l : List Int) (h : ShS W1 w ss sb mb xs num) (hl : ∀ w', Below W1.heap.size W1 w' → SlA w' 1 A n c (l.map (.int .i64))) (ht : ∀ x ∈ l, RtD W1 ss sb mb xs I x)
    (hlen : (parF (patT xs I) num l).1.length ≤ 100000000) (hn : n ≤ 1000000) :
    Calls Tryd.prog 53 #[.pointer (some ⟨ss, 0, none⟩), .slice A n c] w fun e w' => e = .returned (strV (parF (patT xs I) num l).1) ∧ ShS W1 w' ss sb mb xs (parF (patT xs I) num l).2 ∧ FrS ss w w' := by
  have H := hid h; have HL := hid hl; have HT := hid ht
  have hln : l.length = n := (hl w h.low).lenI
  have HLN := hid hln
  rw [parF_jnS] at hlen ⊢
  have HLE := hid (show 2 + (jnS (patT xs I) num l n).1.length ≤ 100000000 by rw [hln] at hlen; simp at hlen; omega)
  have HMO := hid (fun j (hj : j ≤ n) => (show (jnS (patT xs I) num l j).1.length ≤ (jnS (patT xs I) num l n).1.length by have := jnS_mono (patT xs I) num l (n - j) j (by omega); rwa [show j + (n - j) = n by omega] at this))
  clear h hl ht hlen
  go_enter Tryd.func53, Tryd.ntmps53
  go_wp2_with fail
  go_loopw [10, 5] (fun v s wr => ∃ j : Nat, v = .int .i64 j ∧ s = strV (40 :: (jnS (patT xs I) num l j).1) ∧ j ≤ n ∧ Hid (ShS W1 wr ss sb mb xs (jnS (patT xs I) num l j).2.1 ∧ FrS ss w wr)) (fun v _ _ => n - (intOf v).toNat)
  case atStart => exact ⟨0, rfl, by rw [jnS_zero]; rfl, Nat.zero_le _, hid ⟨by rw [jnS_zero]; exact H.out, FrS.refl _ _⟩⟩
  case round =>
    clear H
    obtain ⟨j, hv, hs, hj, HR⟩ := hrel
    subst hv; subst hs
    by_cases hlt : j < n
    · have hlt' : (j : Int) < (n : Int) := by omega
      obtain ⟨b1, o1, x, rfl, hxj, hcx⟩ := (HL.out wr HR.out.1.low).elemI hlt
      have HX := hid (List.mem_of_getElem? hxj)
      have HSU := hid (jnS_succ (patT xs I) num hxj)
      have HFL := hid (jnS_flag (patT xs I) num l j (by omega))
      have HM1 := hid (HMO.out (j + 1) hlt)
      generalize hS : jnS (patT xs I) num l j = S at *
      obtain ⟨sb', sn, sf⟩ := S
      have HSE := hid (show jnS (patT xs I) num l (j + 1) = (sb' ++ (if sf then [44] else []) ++ (patT xs I sn x).1, (patT xs I sn x).2, true) from HSU.out)
      have hsf : sf = decide (0 < j) := HFL.out
      have HLX := hid (show sb'.length + ((if sf then [(44 : UInt8)] else []).length + (patT xs I sn x).1.length) ≤ 100000000 by
        have h1 := HLE.out
        have h2 := HM1.out
        rw [HSE.out] at h2
        simp only [List.length_append] at h2
        omega)
      have HW := hid (HT.out x HX.out sn wr HR.out.1 (by have := HLX.out; omega))
      have HRO := hid HR.out.2
      clear hxj hS HSU HFL HR
      unfold strV at *
      simp only at *
      obtain ⟨S, hS⟩ : ∃ S : ByteArray, S = ⟨(40 :: sb').toArray⟩ := ⟨_, rfl⟩
      have HS := hid hS
      have HSL := hid (show S.size = sb'.length + 1 by rw [hS, mkS]; rfl)
      rw [← hS]
      obtain ⟨T, hT⟩ : ∃ T : ByteArray, T = ⟨(patT xs I sn x).1.toArray⟩ := ⟨_, rfl⟩
      have HTT := hid hT
      have HTL := hid (show T.size = (patT xs I sn x).1.length by rw [hT, mkS])
      rw [← hT] at HW
      clear hS hT
      by_cases h0 : 0 < j
      · have hjd : (0 : Int) < (j : Int) := by omega
        have hjd2 : decide ((0 : Int) < (j : Int)) = true := decide_eq_true hjd
        have hsf' : sf = true := by rw [hsf]; exact decide_eq_true h0
        subst hsf'
        have hcat1 : ¬ 9223372036854775807 < S.size + 1 := by have := HLX.out; have := HSL.out; omega
        obtain ⟨S2, hS2⟩ : ∃ S2 : ByteArray, S2 = S ++ ⟨#[44]⟩ := ⟨_, rfl⟩
        have HS2 := hid hS2
        have hcat2 : ¬ 9223372036854775807 < S.size + 1 + T.size := by have := HLX.out; have := HSL.out; have := HTL.out; simp at this ⊢; omega
        have hcat3 : ¬ 9223372036854775807 < (S ++ ⟨#[44]⟩).size + T.size := by rw [ByteArray.size_append]; exact hcat2
        clear hsf hS2
        go_wp2_with fail
        refine HW.out.mono ?_
        rintro e w3 ⟨rfl, h3, o3⟩
        have HN := hid (show ShS W1 w3 ss sb mb xs (jnS (patT xs I) num l (j + 1)).2.1 ∧ FrS ss w w3 by
          rw [HSE.out]
          exact ⟨h3, HRO.out.trans o3⟩)
        clear h3 o3
        go_wp2_with fail
        go_roundw
        case rel =>
          refine ⟨j + 1, by go_num, ?_, by omega, HN⟩
          rw [HS.out, HTT.out, HSE.out, cat_byte, cat_list]
          simp
        case measure => simp [intOf]; omega
      · have hj0 : j = 0 := by omega
        subst hj0
        rw [Nat.add_zero] at hcx
        have hsf' : sf = false := by rw [hsf]; rfl
        subst hsf'
        have hcat2 : ¬ 9223372036854775807 < S.size + T.size := by have := HLX.out; have := HSL.out; have := HTL.out; simp at this ⊢; omega
        clear hsf
        go_wp2_with fail
        refine HW.out.mono ?_
        rintro e w3 ⟨rfl, h3, o3⟩
        have HN := hid (show ShS W1 w3 ss sb mb xs (jnS (patT xs I) num l (0 + 1)).2.1 ∧ FrS ss w w3 by
          rw [HSE.out]
          exact ⟨h3, HRO.out.trans o3⟩)
        clear h3 o3
        go_wp2_with fail
        go_roundw
        case rel =>
          refine ⟨0 + 1, by go_num, ?_, by omega, HN⟩
          rw [HS.out, HTT.out, HSE.out, cat_list]
          simp
        case measure => simp [intOf]; omega
    · have hjn : j = n := by omega
      subst hjn
      have hlt' : ¬ ((j : Nat) : Int) < (j : Int) := by omega
      unfold strV at *
      obtain ⟨S, hS⟩ : ∃ S : ByteArray, S = ⟨(40 :: (jnS (patT xs I) num l j).1).toArray⟩ := ⟨_, rfl⟩
      have HS := hid hS
      have hcat1 : ¬ 9223372036854775807 < S.size + 1 := by rw [hS, mkS]; have := HLE.out; simp; omega
      rw [← hS]
      clear hlt hS
      go_wp2_with fail
      go_ret
      refine ⟨?_, ?_, HR.out.2⟩
      · first
          | (rw [HS.out, cat_byte, HLN.out]; rfl)
          | (rw [HS.out, cat_byte]; rfl)
      · first
          | exact HR.out.1
          | (rw [HLN.out]; exact HR.out.1)
end Go.Proofs.YtadbgmfdbahcbaaDoor

