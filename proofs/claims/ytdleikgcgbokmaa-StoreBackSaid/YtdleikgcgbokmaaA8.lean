/- A request's record by the reference. -/
import Derived.Test.YtdleikgcgbokmaaA7
namespace Go.Proofs.Ytdleikgcgbokmaa
open Go.RowKit Go.KK
set_option linter.unusedVariables false
set_option linter.unusedSimpArgs false

set_option maxHeartbeats 1000000 in
theorem rrecord_bad0 (a0 a1 a2 a3 a4 a5 a6 : Int) (w : World) (h : ¬ (1 ≤ a0 ∧ a0 ≤ 6)) :
    Calls Try.prog 8 #[.agg #[.int .i64 a0, .int .i64 a1, .int .i64 a2, .int .i64 a3, .int .i64 a4, .int .i64 a5, .int .i64 a6]] w fun e w' => e = .returned (.tuple #[.slice none 0 0, .int .i64 1]) ∧ Below w.heap.size w w' := by
  by_cases h1 : a0 < 1
  · have hd : decide (a0 < 1) = true := by simpa using h1
    go_enter Try.func8, Try.ntmps8
    go_wp2
    go_ret2
    exact ⟨rfl, (Below.refl _ _).alloc (Nat.le_refl _) _⟩
  · have hd : decide (a0 < 1) = false := by simpa using h1
    have hd2 : 6 < a0 := by omega
    go_enter Try.func8, Try.ntmps8
    go_wp2
    go_ret2
    exact ⟨rfl, (Below.refl _ _).alloc (Nat.le_refl _) _⟩

set_option maxHeartbeats 1000000 in
theorem rrecord_good (a0 a1 a2 a3 a4 a5 a6 : Int) (l : List Int) (hl : l = [a0, a1, a2, a3, a4, a5, a6]) (w : World) (h : 1 ≤ a0 ∧ a0 ≤ 6) :
    Calls Try.prog 8 #[.agg #[.int .i64 a0, .int .i64 a1, .int .i64 a2, .int .i64 a3, .int .i64 a4, .int .i64 a5, .int .i64 a6]] w (RecPost l w) := by
  obtain ⟨i0, hi, hz0, hz1, hz2⟩ := info_parts Try.infoU8
  have hd : decide (a0 < 1) = false := by simp; omega
  have hd2 : ¬ 6 < a0 := by omega
  have HL := hid hl; clear hl
  go_enter Try.func8, Try.ntmps8
  go_wp2
  have hc0 : ∀ (W : World), Below (w.heap.size + 2) ((w.alloc (.cells #[.int .i64 a0, .int .i64 a1, .int .i64 a2, .int .i64 a3, .int .i64 a4, .int .i64 a5, .int .i64 a6] 23)).alloc (.cells #[.int .i64 a0, .int .i64 a1, .int .i64 a2, .int .i64 a3, .int .i64 a4, .int .i64 a5, .int .i64 a6] 3)) W → ∀ (j : Nat) (x : Int), l[j]? = some x → W.cell? ⟨w.heap.size + 1, j, none⟩ = some (.int .i64 x) := by
    intro W hW j x hj
    rw [hW.cell (p := ⟨w.heap.size + 1, j, none⟩) (by simp), World.cell?_alloc_at _ _ _ _ (by simp)]
    rw [HL.out] at hj
    match j, hj with
    | 0, hj => simp at hj; simp [hj]
    | 1, hj => simp at hj; simp [hj]
    | 2, hj => simp at hj; simp [hj]
    | 3, hj => simp at hj; simp [hj]
    | 4, hj => simp at hj; simp [hj]
    | 5, hj => simp at hj; simp [hj]
    | 6, hj => simp at hj; simp [hj]
    | k + 7, hj => simp at hj
  have HC := hid hc0; clear hc0
  have hll : l.length = 7 := by rw [HL.out]; rfl
  have HLL := hid hll; clear hll
  go_loopw [4, 6, 7, 8, 33] (fun v _ _ _ i wr => ∃ j : Nat, j ≤ 7 ∧ i = .int .i64 j ∧ (l.take j).all inR = true ∧ wr.ownsRow (w.heap.size + 2) 5 1 v (body (l.take j)).length ((body (l.take j)).map (.int .u8)) ∧ Below (w.heap.size + 2) ((w.alloc (.cells #[.int .i64 a0, .int .i64 a1, .int .i64 a2, .int .i64 a3, .int .i64 a4, .int .i64 a5, .int .i64 a6] 23)).alloc (.cells #[.int .i64 a0, .int .i64 a1, .int .i64 a2, .int .i64 a3, .int .i64 a4, .int .i64 a5, .int .i64 a6] 3)) wr) (fun _ _ _ _ i _ => 7 - (intOf i).toNat)
  case atStart => exact ⟨0, by omega, by simp, by simp, by simpa [body] using World.ownsRow_nil _ _ _ _, Below.refl _ _⟩
  case round =>
    obtain ⟨j, hj, hi', hall, hown, hb⟩ := hrel
    subst hi'
    have hbs := hb.size
    simp only [World.size_alloc] at hbs
    have HALL := hid hall; clear hall
    by_cases hlt : j < 7
    · obtain ⟨x, hx⟩ : ∃ x, l[j]? = some x := ⟨l[j]'(by rw [HLL.out]; exact hlt), List.getElem?_eq_getElem _⟩
      have hc := HC.out wr hb j x hx
      have HS := hid (take_snoc hx)
      have hbl : (body (l.take j)).length ≤ 28 := by have := body_le (l.take j); rw [List.length_take] at this; omega
      have hel := enc_le x
      have HX := hid hx; clear hx
      by_cases hin : 0 ≤ x ∧ x ≤ 1073741823
      · obtain ⟨hx0, hx1⟩ := hin
        go_wp2_with (first
          | (go_at_call 16; refine (rint_ok x _ hx0 hx1).mono ?_; rintro e w3 ⟨v3, rfl, hown3, hb3⟩; obtain ⟨A3, c3, rfl, hs3⟩ := SlA.owned hown3; have hsz3 := hb3.size; have hownr := own_ext hown hb3)
          | (at_builtin; refine wpList_append_sl _ rfl _ _ 24 rfl (w.heap.size + 2) 5 i0 (.int .u8 0) 1 1 Try.underlying24 hi hz0 hz1 hz2 rfl (by decide) _ _ _ rfl hownr A3 _ c3 _ rfl hs3 (ints_one _ _) (by unfold maxLen; omega) (by omega) (by omega) ?_; intro v4 w4 hown4 hg4 _))
        go_roundw
        case rel =>
          refine ⟨j + 1, by omega, by go_num, ?_, ?_, ?_⟩
          · rw [HS.out, List.all_append, HALL.out]; simp [inR, hx0, hx1]
          · rw [HS.out, body_snoc, List.length_append, List.map_append]; exact hown4
          · exact below_append (hb.trans (hb3.mono (by omega))) hg4 hownr (Nat.le_refl _) (by omega)
        case measure => simp [intOf]; omega
      · have hno : mayR l = false := by
          have hm : x ∈ l := List.mem_of_getElem? HX.out
          have hnx : inR x = false := by simpa [inR] using hin
          unfold mayR
          rw [show l.all inR = false from List.all_eq_false.2 ⟨x, hm, by simp [hnx]⟩, Bool.and_false]
        have HN := hid hno; clear hno
        go_wp2_with (go_at_call 16; refine (rint_bad x _ (by omega)).mono ?_; rintro e w3 ⟨rfl, rfl⟩)
        go_ret2
        refine ⟨fun h => ?_, fun _ => rfl, (((Below.refl _ _).alloc (Nat.le_refl _) _).alloc (by simp) _).trans (hb.mono (by omega))⟩
        rw [HN.out] at h
        cases h
    · have hj7 : l.take j = l := List.take_of_length_le (by rw [HLL.out]; omega)
      rw [hj7] at hown
      have hyes : mayR l = true := by
        unfold mayR
        rw [show l.all inR = true by rw [← hj7]; exact HALL.out, HL.out]
        simp [h.1, h.2]
      have HY := hid hyes; clear hyes hj7
      have hbl : (body l).length ≤ 28 := by have := body_le l; rw [HLL.out] at this; omega
      obtain ⟨A3, c3, rfl, hs3⟩ := SlA.owned hown
      go_wp2_with (go_at_call 17; refine (rbytes_ok A3 _ c3 (body l) _ hs3 (by omega)).mono ?_; rintro e w4 ⟨v4, rfl, hown4, hb4⟩)
      go_ret2
      refine ⟨fun _ => ⟨_, rfl, own_mono hown4 (by omega)⟩, fun h => ?_, (((Below.refl _ _).alloc (Nat.le_refl _) _).alloc (by simp) _).trans ((hb.trans (hb4.mono (by omega))).mono (by omega))⟩
      rw [HY.out] at h
      cases h

/-- The reference's Record, all of it. -/
theorem rrecord_any (a0 a1 a2 a3 a4 a5 a6 : Int) (w : World) :
    Calls Try.prog 8 #[.agg #[.int .i64 a0, .int .i64 a1, .int .i64 a2, .int .i64 a3, .int .i64 a4, .int .i64 a5, .int .i64 a6]] w (RecPost [a0, a1, a2, a3, a4, a5, a6] w) := by
  by_cases h : 1 ≤ a0 ∧ a0 ≤ 6
  · exact rrecord_good a0 a1 a2 a3 a4 a5 a6 _ rfl w h
  · refine (rrecord_bad0 a0 a1 a2 a3 a4 a5 a6 w h).mono fun e w' ⟨he, hb⟩ => ⟨fun hm => ?_, fun _ => he, hb⟩
    simp only [mayR, List.headD_cons, Bool.and_eq_true] at hm
    exact absurd (of_decide_eq_true hm.1) h

end Go.Proofs.Ytdleikgcgbokmaa
