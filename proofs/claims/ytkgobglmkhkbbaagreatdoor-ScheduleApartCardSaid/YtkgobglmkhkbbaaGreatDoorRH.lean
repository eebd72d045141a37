/- the document's term: a node's text among others. -/
import Derived.Test.YtkgobglmkhkbbaaGreatDoorRG
import Derived.Test.YtkgobglmkhkbbaaGreatDoorA5
namespace Go.Proofs.YtkgobglmkhkbbaaGreatDoor
open Go.RowKit Go.KK Go.Shelf
set_option linter.unusedVariables false
set_option linter.unusedSimpArgs false

theorem digits_q (n : Int) (w : World) (h0 : 0 ≤ n) (h : n ≤ 9223372036854775807) : Calls Tryz.prog 82 #[.int .i64 n] w fun e w' => e = .returned (.string (digS n.toNat)) ∧ ∃ m, w' = w.drewN m := digits_any n w h0 h
theorem digS_itoa {n : Int} (h : 0 ≤ n) : (digS n.toNat).data.toList = Lib.itoa n := by rw [itoa_nat h]; rfl
theorem digS_sz (n : Int) (h : n ≤ 9223372036854775807) : (digS n.toNat).size ≤ 21 := digS_le _ (by omega)
/-- A text and what is behind it. -/
def TxR (L : List UInt8) (l : List Int) (j : Nat) (S : ByteArray) : Prop := S.data.toList = L ++ joinB (l.take j) ∧ S.size ≤ 300 + 22 * j
set_option maxHeartbeats 4000000 in
set_option maxRecDepth 20000 in
theorem text_any (x : ND) (A : Option Addr) (c : Nat) (w : World) (hl : SlA w 1 A x.l.length c (x.l.map (.int .i64))) (hn : x.l.length ≤ 64) (ho0 : 0 ≤ x.o) (ho : I64 x.o) (hn0 : 0 ≤ x.n) (hn64 : I64 x.n) (hl0 : ∀ i ∈ x.l, 0 ≤ i) (hli : ∀ i ∈ x.l, I64 i) (hs : x.s.size ≤ 200) :
    Calls Tryz.prog 105 #[.agg #[.int .i64 x.o, .int .i64 x.n, .string x.s, .slice A x.l.length c]] w fun e w' => ∃ K : ByteArray, e = .returned (.string K) ∧ K.data.toList = keyR x ∧ Below w.heap.size w w' := by
  have HS := hid hl
  have B0 := hid (show Below w.heap.size w (w.alloc (.cells #[.int .i64 x.o, .int .i64 x.n, .string x.s, .slice A x.l.length c] 88)) from (Below.refl _ _).alloc (Nat.le_refl _) _)
  have HS1 := hid (hl.ext B0.out)
  have C0 := hid (show let W := w.alloc (.cells #[.int .i64 x.o, .int .i64 x.n, .string x.s, .slice A x.l.length c] 88)
    W.cell? ⟨w.heap.size, 0, none⟩ = some (.int .i64 x.o) ∧ W.cell? ⟨w.heap.size, 1, none⟩ = some (.int .i64 x.n) ∧ W.cell? ⟨w.heap.size, 2, none⟩ = some (.string x.s) ∧ W.cell? ⟨w.heap.size, 3, none⟩ = some (.slice A x.l.length c) by
      refine ⟨?_, ?_, ?_, ?_⟩
      all_goals (rw [World.cell?_alloc_at _ _ _ _ rfl]; rfl))
  have HLI := hid (fun i (h : i ∈ x.l) => And.intro (hl0 i h) (hli i h).2)
  have z1 := digS_sz x.o ho.2
  have z2 := digS_sz x.n hn64.2
  have z3 := digS_sz x.s.size (by omega)
  have e1 := digS_itoa ho0
  have e2 := digS_itoa hn0
  have e3 := digS_itoa (n := (x.s.size : Nat)) (by omega)
  have HQ1 := hid (fun (W : World) => digits_q x.o W ho0 ho.2)
  have HQ2 := hid (fun (W : World) => digits_q x.n W hn0 hn64.2)
  have HQ3 := hid (fun (W : World) => digits_q (x.s.size : Nat) W (by omega) (by omega))
  have HKR := hid (show keyR x = Lib.itoa x.o ++ 32 :: (Lib.itoa x.n ++ 32 :: (Lib.itoa x.s.size ++ 32 :: (x.s.data.toList ++ joinB x.l))) from rfl)
  generalize hd1 : digS x.o.toNat = d1 at *
  generalize hd2 : digS x.n.toNat = d2 at *
  generalize hd3 : digS ((x.s.size : Nat) : Int).toNat = d3 at *
  have k1 : ¬ 9223372036854775807 < d1.size + 1 := by omega
  have k2 : ¬ 9223372036854775807 < d1.size + 1 + d2.size := by omega
  have k3 : ¬ 9223372036854775807 < d1.size + 1 + d2.size + 1 := by omega
  have k4 : ¬ 9223372036854775807 < d1.size + 1 + d2.size + 1 + d3.size := by omega
  have k5 : ¬ 9223372036854775807 < d1.size + 1 + d2.size + 1 + d3.size + 1 := by omega
  have k6 : ¬ 9223372036854775807 < d1.size + 1 + d2.size + 1 + d3.size + 1 + x.s.size := by omega
  have HT := hid (show TxR (Lib.itoa x.o ++ 32 :: (Lib.itoa x.n ++ 32 :: (Lib.itoa x.s.size ++ 32 :: x.s.data.toList))) x.l 0 (d1 ++ ⟨#[32]⟩ ++ d2 ++ ⟨#[32]⟩ ++ d3 ++ ⟨#[32]⟩ ++ x.s) by
    refine ⟨?_, ?_⟩
    · simp only [ByteArray.data_append, Array.toList_append, e1, e2, e3, List.take_zero]
      simp [joinB]
    · simp only [ByteArray.size_append]
      have : (⟨#[32]⟩ : ByteArray).size = 1 := rfl
      omega)
  clear hl ho0 ho hn0 hn64 hl0 hli e1 e2 e3 hd1 hd2 hd3 z1 z2 z3
  go_enter Tryz.func105, Tryz.ntmps105
  go_upto_region 1 with fail
  obtain ⟨c0, c1, c2, c3⟩ := C0.out
  generalize w.alloc (.cells #[.int .i64 x.o, .int .i64 x.n, .string x.s, .slice A x.l.length c] 88) = W0 at *
  go_quiet (first
    | (go_at_call 82; with_reducible exact Calls.quiet_of (HQ1.out _))
    | (go_at_call 82; with_reducible exact Calls.quiet_of (HQ2.out _))
    | (go_at_call 82; with_reducible exact Calls.quiet_of (HQ3.out _)))
  generalize d1 ++ ⟨#[32]⟩ ++ d2 ++ ⟨#[32]⟩ ++ d3 ++ ⟨#[32]⟩ ++ x.s = S0 at *
  clear k1 k2 k3 k4 k5 k6
  go_wp2_with fail
  generalize hLL : Lib.itoa x.o ++ 32 :: (Lib.itoa x.n ++ 32 :: (Lib.itoa x.s.size ++ 32 :: x.s.data.toList)) = LL at *
  have HLL := hid hLL
  clear hLL HQ1 HQ2 HQ3 c0 c1 c2 c3 C0
  go_loopw [27, 3] (fun i v wr => ∃ (j : Nat) (S : ByteArray), i = .int .i64 j ∧ v = .string S ∧ j ≤ x.l.length ∧ TxR LL x.l j S ∧ ∃ q, wr = W0.drewN q) (fun i _ _ => x.l.length - (intOf i).toNat)
  case atStart => exact ⟨0, S0, rfl, rfl, Nat.zero_le _, HT.out, _, rfl⟩
  case round =>
    obtain ⟨j, S, hi, hv, hj, ht, q, hw⟩ := hrel
    subst hi; subst hv; subst hw
    have HTS := hid ht
    clear ht
    by_cases hlt : j < x.l.length
    · obtain ⟨b2, o2, z, hA, hz, hc⟩ := (HS1.out.drewN q).elemI hlt
      subst hA
      have HZ := hid hz
      obtain ⟨hz0, hz1⟩ := HLI.out z (List.mem_of_getElem? hz)
      have hzs := digS_sz z hz1
      have hze := digS_itoa hz0
      have HQ := hid (fun (W : World) => digits_q z W hz0 hz1)
      have HZE := hid hze
      have hsz := HTS.out.2
      generalize hdz : digS z.toNat = dz at *
      have k1 : ¬ 9223372036854775807 < 1 + dz.size := by omega
      have k2 : ¬ 9223372036854775807 < S.size + (1 + dz.size) := by omega
      have HT2 := hid (show TxR LL x.l (j + 1) (S ++ (⟨#[32]⟩ ++ dz)) by
        refine ⟨?_, ?_⟩
        · rw [ByteArray.data_append, ByteArray.data_append, Array.toList_append, Array.toList_append, HTS.out.1, hze, take_snoc hz, joinB_snoc]
          simp
        · simp only [ByteArray.size_append]
          have : (⟨#[32]⟩ : ByteArray).size = 1 := rfl
          omega)
      clear hz hze hdz hzs hsz
      go_wp2_with fail
      refine (HQ.out _).mono ?_
      rintro e1 w1 ⟨rfl, q1, hw1⟩
      rw [World.drewN_drewN] at hw1
      subst hw1
      go_wp2_with fail
      go_roundw
      case rel => exact ⟨j + 1, _, by go_num, rfl, by omega, HT2.out, _, rfl⟩
      case measure => simp [intOf]; omega
    · have HTK := hid (show S.data.toList = keyR x by
        rw [HTS.out.1, List.take_of_length_le (by omega), ← HLL.out, HKR.out]
        simp)
      go_wp2_with fail
      go_ret
      exact ⟨_, rfl, HTK.out, below_drewN B0.out _⟩
end Go.Proofs.YtkgobglmkhkbbaaGreatDoor
