/- The reference's vectors; a request's fields. -/
import Derived.Test.YtdleikgcgbokmaaA5
import Derived.RegionTactic
import Derived.BigRegion
import Derived.ChangeAlike
namespace Go.Proofs.Ytdleikgcgbokmaa
open Go.RowKit Go.KK
set_option linter.unusedVariables false
set_option linter.unusedSimpArgs false

set_option maxHeartbeats 400000 in
theorem rbytes_ok (A : Option Addr) (n c : Nat) (l : List Int) (w : World) (h : SlA w 1 A n c (l.map (.int .u8))) (hn : n ≤ 1073741823) :
    Calls Try.prog 17 #[.slice A n c] w fun e w' => ∃ v, e = .returned (.tuple #[v, .int .i64 0]) ∧ w'.ownsRow w.heap.size 5 1 v (enc n ++ l).length ((enc n ++ l).map (.int .u8)) ∧ Below w.heap.size w w' := by
  obtain ⟨i0, hi, hz0, hz1, hz2⟩ := info_parts Try.infoU8
  have hel := enc_le n
  have hll := h.lenI
  have HLL := hid hll; clear hll
  go_enter Try.func17, Try.ntmps17
  go_wp2_with (first
    | (go_at_call 16; refine (rint_ok n _ (by omega) (by omega)).mono ?_; rintro e w1 ⟨v1, rfl, hown1, hb1⟩; have hsz1 := hb1.size)
    | (at_builtin; refine wpList_append_sl _ rfl _ _ 24 rfl w.heap.size 5 i0 (.int .u8 0) 1 1 Try.underlying24 hi hz0 hz1 hz2 rfl (by decide) _ _ _ rfl hown1 A n c _ rfl (h.ext hb1) (ints_one _ _) (by unfold maxLen; omega) (by omega) hsz1 ?_; intro v2 w2 hown2 hg2 _))
  go_ret2
  refine ⟨_, rfl, ?_, below_append hb1 hg2 hown1 (Nat.le_refl _) hsz1⟩
  rw [List.length_append, HLL.out, List.map_append]
  exact hown2

set_option maxHeartbeats 1000000 in
theorem rtbytes_any (A : Option Addr) (n c : Nat) (l : List Int) (w : World) (h : SlA w 1 A n c (l.map (.int .u8))) (hl : ∀ x ∈ l, 0 ≤ x ∧ x < 256) (hn47 : n ≤ 140737488355328) :
    Calls Try.prog 25 #[.slice A n c] w (TBytes w l) := by
  obtain ⟨i0, hi, hz0, hz1, hz2⟩ := info_parts Try.infoU8
  have hn := h.lenI
  have hnc := h.nc
  have hcm := h.cm
  unfold maxLen at hcm
  rcases tint_facts l hl with ⟨h1, h2, h3, h4, h5, h6, _⟩ | ⟨h1, h2, h3⟩
  · obtain ⟨m, k, e, ht⟩ : ∃ m k e, tint l = (m, k, e) := ⟨_, _, _, rfl⟩
    simp only [ht] at h1 h2 h3 h4 h5 h6
    subst h1
    obtain ⟨m, rfl⟩ := Int.eq_ofNat_of_zero_le h5
    obtain ⟨b, off, x, rfl, _, _⟩ := h.elemI (show 0 < n by omega)
    by_cases hlt : (n : Int) - k < m
    · have HT := hid (show tbytes l = ([], 0, 10) by unfold tbytes; rw [ht]; simp [hn, hlt])
      have HI := hid ht; clear ht hn
      go_enter Try.func25, Try.ntmps25
      go_wp2_with (go_at_call 26; refine (rtint_any _ n c l _ h hl).mono ?_; rintro e w1 ⟨rfl, hb1⟩; rw [HI.out]; dsimp only)
      go_ret3
      exact ⟨_, by rw [HT.out]; rfl, by rw [HT.out]; exact World.ownsRow_nil _ _ _ _, hb1⟩
    · have HT := hid (show tbytes l = ((l.drop k).take m, k + m, 0) by unfold tbytes; rw [ht]; simp [hn, hlt])
      have HI := hid ht; clear ht
      have HL := hid (show ((l.drop k).take m).length = m by rw [List.length_take, List.length_drop]; omega)
      clear hn
      have hkm : k + m ≤ n := by omega
      obtain ⟨A', hA', hs⟩ : ∃ A', (c = k → A' = some ⟨b, off, none⟩) ∧ (c ≠ k → A' = some ⟨b, off + k, none⟩) ∧ SlA w 1 A' m (c - k) ((((l.map (Value.int .u8))).drop k).take m) := by
        by_cases hck : c = k
        · exact ⟨some ⟨b, off, none⟩, fun _ => rfl, fun h => absurd hck h, cut_mid h hkm _ (fun h => absurd hck h)⟩
        · exact ⟨some ⟨b, off + k, none⟩, fun h => absurd h hck, fun _ => rfl, cut_mid h hkm _ (fun _ => by simp [add_lit])⟩
      obtain ⟨hA2, hs⟩ := hs
      rw [← List.map_drop, ← List.map_take] at hs
      by_cases hck : c = k
      · have := hA' hck
        subst this
        have hm0 : m = 0 := by omega
        subst hck; subst hm0
        clear hA' hA2
        simp only [Nat.sub_self] at hs
        go_enter Try.func25, Try.ntmps25
        go_wp2_with (first
          | (go_at_call 26; refine (rtint_any _ n c l _ h hl).mono ?_; rintro e w1 ⟨rfl, hb1⟩; rw [HI.out]; dsimp only; have hsz1 := hb1.size)
          | (at_builtin; (refine wpList_append_sl _ rfl _ _ 24 rfl w.heap.size 5 i0 (.int .u8 0) 1 1 Try.underlying24 hi hz0 hz1 hz2 rfl (by decide) _ _ _ rfl (World.ownsRow_nil _ _ _ _) _ 0 _ _ rfl (hs.ext hb1) (ints_one _ _) (by unfold maxLen; omega) (by omega) hsz1 ?_); intro v2 w2 hown2 hg2 _))
        go_ret3
        refine ⟨_, by rw [HT.out]; rfl, ?_, below_append hb1 hg2 (World.ownsRow_nil w1 w.heap.size 5 1) (Nat.le_refl _) hsz1⟩
        rw [HT.out]
        exact HL.out ▸ hown2
      · have := hA2 hck
        subst this
        clear hA' hA2
        go_enter Try.func25, Try.ntmps25
        go_wp2_with (first
          | (go_at_call 26; refine (rtint_any _ n c l _ h hl).mono ?_; rintro e w1 ⟨rfl, hb1⟩; rw [HI.out]; dsimp only; have hsz1 := hb1.size)
          | (at_builtin; rw [Nat.add_sub_cancel_left]; refine wpList_append_sl _ rfl _ _ 24 rfl w.heap.size 5 i0 (.int .u8 0) 1 1 Try.underlying24 hi hz0 hz1 hz2 rfl (by decide) _ _ _ rfl (World.ownsRow_nil _ _ _ _) _ m _ _ rfl (hs.ext hb1) (ints_one _ _) (by unfold maxLen; omega) (by omega) hsz1 ?_; intro v2 w2 hown2 hg2 _))
        go_ret3
        refine ⟨_, by rw [HT.out]; rfl, ?_, below_append hb1 hg2 (World.ownsRow_nil w1 w.heap.size 5 1) (Nat.le_refl _) hsz1⟩
        rw [HT.out]
        have := hown2
        simp only [Nat.zero_add, List.nil_append] at this
        exact HL.out.symm ▸ this
  · obtain ⟨m, k, e, ht⟩ : ∃ m k e, tint l = (m, k, e) := ⟨_, _, _, rfl⟩
    simp only [ht] at h1 h2 h3
    subst h2; subst h3
    have HT := hid (show tbytes l = ([], 0, e) by unfold tbytes; rw [ht]; simp; omega)
    have HI := hid ht; clear ht hn
    rcases h1 with rfl | rfl
    all_goals
      go_enter Try.func25, Try.ntmps25
      go_wp2_with (go_at_call 26; refine (rtint_any _ n c l _ h hl).mono ?_; rintro e w1 ⟨rfl, hb1⟩; rw [HI.out]; dsimp only)
      go_ret3
      exact ⟨_, by rw [HT.out]; rfl, by rw [HT.out]; exact World.ownsRow_nil _ _ _ _, hb1⟩

set_option maxHeartbeats 400000 in
theorem good_any (a0 a1 a2 a3 a4 a5 a6 : Int) (w : World) :
    Calls Try.prog 12 #[.agg #[.int .i64 a0, .int .i64 a1, .int .i64 a2, .int .i64 a3, .int .i64 a4, .int .i64 a5, .int .i64 a6]] w fun e w' => e = .returned (.bool (decide (1 ≤ a0 ∧ a0 ≤ 6))) ∧ Below w.heap.size w w' := by
  by_cases h1 : 1 ≤ a0
  · go_enter Try.func12, Try.ntmps12
    go_wp2
    go_ret
    exact ⟨by simp [h1], (Below.refl _ _).alloc (Nat.le_refl _) _⟩
  · have hd : decide (1 ≤ a0) = false := by simpa using h1
    go_enter Try.func12, Try.ntmps12
    go_wp2
    go_ret
    exact ⟨by simp [h1], (Below.refl _ _).alloc (Nat.le_refl _) _⟩

set_option maxHeartbeats 1000000 in
theorem fields_any (g : Nat) (w : World) (hg : g < w.heap.size) :
    Calls Try.prog 13 #[.pointer (some ⟨g, 0, none⟩)] w fun e w' => e = .returned (.agg #[.pointer (some ⟨g, 0, none⟩), .pointer (some ⟨g, 1, none⟩), .pointer (some ⟨g, 2, none⟩), .pointer (some ⟨g, 3, none⟩), .pointer (some ⟨g, 4, none⟩), .pointer (some ⟨g, 5, none⟩), .pointer (some ⟨g, 6, none⟩)]) ∧ Below w.heap.size w w' := by
  go_enter Try.func13, Try.ntmps13
  go_wp2
  go_region
  go_wp2
  refine bodyPost_ret (v := .agg #[.pointer (some ⟨g, 0, none⟩), .pointer (some ⟨g, 1, none⟩), .pointer (some ⟨g, 2, none⟩), .pointer (some ⟨g, 3, none⟩), .pointer (some ⟨g, 4, none⟩), .pointer (some ⟨g, 5, none⟩), .pointer (some ⟨g, 6, none⟩)]) ?_ rfl ⟨rfl, ((Below.refl _ _).alloc (Nat.le_refl _) _).drew⟩
  simp [results, Try.results13, go_sem]

end Go.Proofs.Ytdleikgcgbokmaa
