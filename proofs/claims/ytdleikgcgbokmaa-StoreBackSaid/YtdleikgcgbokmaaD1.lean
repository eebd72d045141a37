/- StoreNumbers walked: both requests have records. -/
import Derived.Test.YtdleikgcgbokmaaB7
import Derived.Deep.QuietTactic
import Derived.BigQuiet
namespace Go.Proofs.Ytdleikgcgbokmaa
open Go.RowKit Go.KK
set_option linter.unusedVariables false
set_option linter.unusedSimpArgs false

theorem ba_ne {a b : ByteArray} (h : a ≠ b) : (a.toList == b.toList) = false := by
  rw [ByteArray.toList_eq, ByteArray.toList_eq]
  refine beq_eq_false_iff_ne.2 fun e => h ?_
  obtain ⟨⟨x⟩⟩ := a
  obtain ⟨⟨y⟩⟩ := b
  simp at e
  rw [e]
theorem nbs_bd (l : List Int) : 0 ≤ nbs l ∧ nbs l ≤ 4 * l.length := by
  have h1 := body_nbs l
  have h2 := body_le l
  omega
set_option maxHeartbeats 2000000 in
theorem numbers_good (a0 a1 a2 a3 a4 a5 a6 z0 z1 z2 z3 z4 z5 z6 : Int) (w : World) (l : List Int) (hl : l = [a0, a1, a2, a3, a4, a5, a6]) (hb : mayR [a0, a1, a2, a3, a4, a5, a6] = true) (hd : mayR [z0, z1, z2, z3, z4, z5, z6] = true) :
    Calls Try.prog 5 #[.agg #[.int .i64 a0, .int .i64 a1, .int .i64 a2, .int .i64 a3, .int .i64 a4, .int .i64 a5, .int .i64 a6], .agg #[.int .i64 z0, .int .i64 z1, .int .i64 z2, .int .i64 z3, .int .i64 z4, .int .i64 z5, .int .i64 z6]] w fun e w' => e = .returned (.bool true) ∧ Below w.heap.size w w' := by
  have HL := hid hl; have HB := hid hb; have HD := hid hd; clear hl hb hd
  go_enter Try.func5, Try.ntmps5
  go_wp2_with fail
  refine (live_any _).mono ?_
  rintro e w1 ⟨rfl, hb1⟩
  have hsz1 := hb1.size
  simp only [World.size_alloc] at hsz1
  have hk1 : Blk w1 w.heap.size 23 [.int .i64 a0, .int .i64 a1, .int .i64 a2, .int .i64 a3, .int .i64 a4, .int .i64 a5, .int .i64 a6] := Blk.below (Blk.alloc_old (Blk.new w 23 _) _) hb1 (by simp; omega)
  have hm1 : Blk w1 (w.heap.size + 1) 23 [.int .i64 z0, .int .i64 z1, .int .i64 z2, .int .i64 z3, .int .i64 z4, .int .i64 z5, .int .i64 z6] := Blk.below (by have := Blk.new (w.alloc (.cells #[.int .i64 a0, .int .i64 a1, .int .i64 a2, .int .i64 a3, .int .i64 a4, .int .i64 a5, .int .i64 a6] 23)) 23 [.int .i64 z0, .int .i64 z1, .int .i64 z2, .int .i64 z3, .int .i64 z4, .int .i64 z5, .int .i64 z6]; simpa using this) hb1 (by simp)
  have hw1 : Below w.heap.size w w1 := (((Below.refl _ _).alloc (Nat.le_refl _) _).alloc (by simp) _).trans (hb1.mono (by simp; omega))
  obtain ⟨q0, q1, q2, q3, q4, q5, q6⟩ := cells7 hk1
  clear hb1
  go_wp2_with fail
  refine (record_any _ _ _ _ _ _ _ _).mono ?_
  intro e w2 hpost
  obtain ⟨A2, n2, c2, x2, er, rfl, hs2, hx2, her, hb2⟩ := rec_form HB.out hpost
  have hsz2 := hb2.size
  have hk2 := hk1.below hb2 (by omega)
  have hm2 := hm1.below hb2 (by omega)
  obtain ⟨r0, r1, r2, r3, r4, r5, r6⟩ := cells7 hm2
  clear hpost q0 q1 q2 q3 q4 q5 q6 hk1 hm1
  simp only [if_true] at hx2 her
  subst her
  have HX2 := hid hx2; clear hx2
  go_wp2_with fail
  refine (record_any _ _ _ _ _ _ _ _).mono ?_
  intro e w3 hpost
  obtain ⟨A3, n3, c3, x3, es, rfl, hs3, hx3, hes, hb3⟩ := rec_form HD.out hpost
  have hsz3 := hb3.size
  have hk3 := hk2.below hb3 (by omega)
  have hm3 := hm2.below hb3 (by omega)
  obtain ⟨q0, q1, q2, q3, q4, q5, q6⟩ := cells7 hk3
  clear hpost r0 r1 r2 r3 r4 r5 r6 hm2 hk2
  have HW3 := hid (hw1.trans ((hb2.trans (hb3.mono hsz2)).mono (by omega)))
  simp only [if_true] at hx3 hes
  subst hes
  have HX3 := hid hx3; clear hx3 hw1
  have hs23 := hs2.ext hb3
  clear hb2 hb3 hs2
  have HN2 := hid (show (n2 : Int) = nbs l + 1 by rw [← hs23.lenI, HX2.out, HL.out]; exact rcd_len _ rfl)
  go_wp2_with fail
  have hc0 : ∀ (W : World), Below (w3.heap.size + 1) (w3.alloc (.cells #[.int .i64 a0, .int .i64 a1, .int .i64 a2, .int .i64 a3, .int .i64 a4, .int .i64 a5, .int .i64 a6] 3)) W → ∀ (j : Nat) (x : Int), l[j]? = some x → W.cell? ⟨w3.heap.size, j, none⟩ = some (.int .i64 x) := by
    intro W hW j x hj
    rw [hW.cell (p := ⟨w3.heap.size, j, none⟩) (by simp), World.cell?_alloc_new]
    rw [HL.out] at hj
    match j, hj with
    | 0, hj => simp at hj; simp [hj]
    | 1, hj => simp at hj; simp [hj]
    | 2, hj => simp at hj; simp [hj]
    | 3, hj => simp at hj; simp [hj]
    | 4, hj => simp at hj; simp [hj]
    | 5, hj => simp at hj; simp [hj]
    | 6, hj => simp at hj; simp [hj]
    | k + 7, hj => simp at hj
  have HC := hid hc0; clear hc0
  have hll : l.length = 7 := by rw [HL.out]; rfl
  have HLL := hid hll; clear hll
  go_loop [10, 12, 65] (fun s _ i => ∃ j : Nat, j ≤ 7 ∧ i = .int .i64 j ∧ s = .int .i64 (nbs (l.take j))) (fun _ _ i => 7 - (intOf i).toNat)
  case atStart => exact ⟨0, by omega, by simp, by simp [nbs]⟩
  case round =>
    obtain ⟨j, hj, hi', hs'⟩ := hrel
    subst hi'; subst hs'
    by_cases hlt : j < 7
    · obtain ⟨x, hx⟩ : ∃ x, l[j]? = some x := ⟨l[j]'(by rw [HLL.out]; exact hlt), List.getElem?_eq_getElem _⟩
      have hc := HC.out _ (Below.refl _ _) j x hx
      have HS := hid (show nbs (l.take (j + 1)) = nbs (l.take j) + nb x by rw [take_snoc hx, nbs_snoc])
      obtain ⟨n0, n1⟩ := nbs_bd (l.take j)
      have hlen : (l.take j).length ≤ 7 := by rw [List.length_take]; omega
      have n1' : nbs (l.take j) ≤ 28 := by omega
      clear hx hlen n1
      generalize nbs (l.take j) = s at *
      by_cases h1 : x < 64
      · have HX := hid (show nb x = 1 by simp [nb, h1])
        go_wp2
        go_round
        case rel => exact ⟨j + 1, by omega, by go_num, by rw [HS.out, HX.out]⟩
        case measure => simp [intOf]; omega
      · by_cases h2 : x < 16384
        · have HX := hid (show nb x = 2 by simp [nb, h1, h2])
          go_wp2
          go_round
          case rel => exact ⟨j + 1, by omega, by go_num, by rw [HS.out, HX.out]⟩
          case measure => simp [intOf]; omega
        · have HX := hid (show nb x = 4 by simp [nb, h1, h2])
          go_wp2
          go_round
          case rel => exact ⟨j + 1, by omega, by go_num, by rw [HS.out, HX.out]⟩
          case measure => simp [intOf]; omega
    · have hj7 : l.take j = l := List.take_of_length_le (by rw [HLL.out]; omega)
      rw [hj7]
      obtain ⟨n0, n1⟩ := nbs_bd l
      rw [HLL.out] at n1
      clear hj7
      have hlen : ((n2 : Int) == nbs l + 1) = true := by rw [HN2.out]; simp
      generalize nbs l = s at *
      have hcx := fun k => run_str_slN (P := Try.prog) _ 24 9 5 Try.underlying24 Try.underlying5 Try.underlying9 A2 n2 c2 x2 (hs23.alloc (.cells #[.int .i64 a0, .int .i64 a1, .int .i64 a2, .int .i64 a3, .int .i64 a4, .int .i64 a5, .int .i64 a6] 3)) k
      have hcy := fun k => run_str_slN (P := Try.prog) _ 24 9 5 Try.underlying24 Try.underlying5 Try.underlying9 A3 n3 c3 x3 (hs3.alloc (.cells #[.int .i64 a0, .int .i64 a1, .int .i64 a2, .int .i64 a3, .int .i64 a4, .int .i64 a5, .int .i64 a6] 3)) k
      obtain ⟨d0, d1, d2, d3, d4, d5, d6⟩ := cells7 (hk3.alloc_old (.cells #[.int .i64 a0, .int .i64 a1, .int .i64 a2, .int .i64 a3, .int .i64 a4, .int .i64 a5, .int .i64 a6] 3))
      obtain ⟨e0, e1, e2, e3, e4, e5, e6⟩ := cells7 (hm3.alloc_old (.cells #[.int .i64 a0, .int .i64 a1, .int .i64 a2, .int .i64 a3, .int .i64 a4, .int .i64 a5, .int .i64 a6] 3))
      have hg := req_guard
      have hre := fun (W : World) => req_eql a0 a1 a2 a3 a4 a5 a6 z0 z1 z2 z3 z4 z5 z6 W
      by_cases heq : [a0, a1, a2, a3, a4, a5, a6] = [z0, z1, z2, z3, z4, z5, z6]
      · rw [show decide ([a0, a1, a2, a3, a4, a5, a6] = [z0, z1, z2, z3, z4, z5, z6]) = true by simp only [heq, decide_true]] at hre
        have hxx : x3 = x2 := by rw [HX3.out, HX2.out, heq]
        subst hxx
        clear heq
        go_wp2
        go_quiet (fail)
        go_wp2
        go_ret
        exact ⟨by simp, (HW3.out.alloc (by omega) _).trans ⟨rfl, rfl, rfl, Nat.le_refl _, fun _ _ => rfl⟩⟩
      · rw [show decide ([a0, a1, a2, a3, a4, a5, a6] = [z0, z1, z2, z3, z4, z5, z6]) = false from decide_eq_false heq] at hre
        have hxx : strOfNums x2 ≠ strOfNums x3 := by
          intro e
          rw [HX2.out, HX3.out] at e
          exact heq (rcd_inj rfl rfl HB.out HD.out ((str_eq (rcd_bytes rfl HB.out) (rcd_bytes rfl HD.out)).1 e))
        have hs2 : ((strOfNums x2).toList == (strOfNums x3).toList) = false := ba_ne hxx
        clear heq hxx
        go_wp2
        go_quiet (fail)
        go_wp2
        go_ret
        exact ⟨by simp, (HW3.out.alloc (by omega) _).trans ⟨rfl, rfl, rfl, Nat.le_refl _, fun _ _ => rfl⟩⟩

/-- StoreNumbers, walked. -/
theorem numbers_any (a0 a1 a2 a3 a4 a5 a6 z0 z1 z2 z3 z4 z5 z6 : Int) (w : World) :
    Calls Try.prog 5 #[.agg #[.int .i64 a0, .int .i64 a1, .int .i64 a2, .int .i64 a3, .int .i64 a4, .int .i64 a5, .int .i64 a6], .agg #[.int .i64 z0, .int .i64 z1, .int .i64 z2, .int .i64 z3, .int .i64 z4, .int .i64 z5, .int .i64 z6]] w fun e w' => e = .returned (.bool true) ∧ Below w.heap.size w w' := by
  rcases hb : mayR [a0, a1, a2, a3, a4, a5, a6] with _ | _
  · exact numbers_bad _ _ _ _ _ _ _ _ _ _ _ _ _ _ w _ _ hb rfl (.inl rfl)
  · rcases hd : mayR [z0, z1, z2, z3, z4, z5, z6] with _ | _
    · exact numbers_bad _ _ _ _ _ _ _ _ _ _ _ _ _ _ w _ _ hb hd (.inr rfl)
    · exact numbers_good _ _ _ _ _ _ _ _ _ _ _ _ _ _ w _ rfl hb hd

end Go.Proofs.Ytdleikgcgbokmaa
