/- The chapter's example. -/
import Derived.Test.YtdleikgcgbokmaaB3
namespace Go.Proofs.Ytdleikgcgbokmaa
open Go.RowKit Go.KK
set_option linter.unusedVariables false
set_option linter.unusedSimpArgs false

theorem live_rcd : rcd [5, 0, 0, 0, 0, 0, 4] = [7, 5, 0, 0, 0, 0, 0, 4] := by decide
theorem live_may : mayR [5, 0, 0, 0, 0, 0, 4] = true := by decide
theorem live_tape : Tape [7, 5, 0, 0, 0, 0, 0, 4, 7, 5] [[5, 0, 0, 0, 0, 0, 4]] 8 := ⟨1, by rfl, by rfl⟩
theorem live_str : strOfNums [7, 5, 0, 0, 0, 0, 0, 4] = ⟨#[7, 5, 0, 0, 0, 0, 0, 4]⟩ := by rfl
theorem blk_sla1 {w : World} {T : TypeId} (cs : List Value) (b n : Nat) (hn : cs.length = n) (hn2 : n ≤ maxLen) (hb : b = w.heap.size) : SlA (w.alloc (.cells cs.toArray T)) 1 (some ⟨b, 0, none⟩) n n cs := by
  subst hb
  have := (SlA.of_own (World.ownsRow_lit (e := T) (base := 0) (size := 1) w cs.toArray n (Nat.zero_le _) hn2 (by simp [hn]))).2
  simpa using this

set_option maxHeartbeats 1000000 in
theorem live_any (w : World) :
    Calls Try.prog 6 #[] w fun e w' => e = .returned (.bool true) ∧ Below w.heap.size w w' := by
  obtain ⟨i0, hi, hz0, hz1, hz2⟩ := info_parts Try.infoU8
  go_enter Try.func6, Try.ntmps6
  go_wp2_with fail
  refine (record_any 5 0 0 0 0 0 4 w).mono ?_
  rintro e w1 ⟨h1, _, hb1⟩
  obtain ⟨v1, rfl, hown1⟩ := h1 live_may
  rw [live_rcd] at hown1
  obtain ⟨A1, c1, rfl, hs1⟩ := SlA.owned hown1
  have hsz1 := hb1.size
  clear h1
  go_wp2_with (first
    | (at_builtin; refine wpList_append_new _ rfl (.const (.slice none 0 0)) _ 24 rfl 5 i0 (.int .u8 0) 1 1 Try.underlying24 hi hz0 hz1 hz2 rfl (by decide) rfl A1 _ c1 _ rfl hs1 (ints_one _ _) (by simp [maxLen]) (by simp) ?_; intro v2 w2 hown2 hb2; have hsz2 := hb2.size; have hs2 := hs1.ext hb2)
    | (at_builtin; refine wpList_append_sl _ rfl (.tmp 12) _ 24 rfl w1.heap.size 5 i0 (.int .u8 0) 1 1 Try.underlying24 hi hz0 hz1 hz2 rfl (by decide) _ _ _ rfl (hown2.alloc _) (some ⟨w2.heap.size, 0, none⟩) 2 2 _ rfl (blk_sla1 [.int .u8 7, .int .u8 5] _ 2 rfl (by simp [maxLen]) rfl) (ints_one .u8 [7, 5]) (by simp [maxLen]) (by simp) (by simp; omega) ?_; intro v3 w3 hown3 hg3 _))
  have hb3 : Below w1.heap.size w1 w3 := below_append (hb2.alloc (by omega) _) hg3 (hown2.alloc _) (Nat.le_refl _) (by simp; omega)
  have hsz3 := hb3.size
  obtain ⟨A3, c3, rfl, hs3⟩ := SlA.owned hown3
  have hs13 := hs1.ext hb3
  clear hown1 hown2 hown3 hs2 hg3
  refine (read_any A3 10 c3 [7, 5, 0, 0, 0, 0, 0, 4, 7, 5] w3 hs3 (by decide) (by omega)).mono ?_
  rintro e w4 ⟨ls, p, v4, hT, rfl, hown4, hb4⟩
  obtain ⟨rfl, rfl⟩ := hT.one_only live_tape
  obtain ⟨A4, c4, rfl, hs4⟩ := SlA.owned hown4
  have hsz4 := hb4.size
  have hcv : (convert 24 9 (.slice A1 8 c1)).run Try.prog w4 = .ok (.string ⟨#[7, 5, 0, 0, 0, 0, 0, 4]⟩) w4 := by
    have := run_str_sl (P := Try.prog) w4 24 9 5 Try.underlying24 Try.underlying5 Try.underlying9 A1 8 c1 [7, 5, 0, 0, 0, 0, 0, 4] (hs13.ext hb4)
    rw [live_str] at this
    exact this
  clear hT hown4 hs13 hs1 hs3
  have hw4 : Below w.heap.size w w4 := hb1.trans ((hb3.mono hsz1).trans (hb4.mono (by omega)))
  have HW := hid hw4; clear hw4 hb1 hb2 hb3 hb4
  go_wp2_with (go_at_call 11; refine (same_any A4 _ 1 c4 1 [[5, 0, 0, 0, 0, 0, 4]] [[5, 0, 0, 0, 0, 0, 4]] _ (hs4.alloc _) (blk_sla [.int .i64 5, .int .i64 0, .int .i64 0, .int .i64 0, .int .i64 0, .int .i64 0, .int .i64 4] rfl _ rfl) (by simp) (by simp) rfl rfl (by omega)).mono ?_; rintro e w5 ⟨rfl, q, rfl⟩)
  go_ret
  exact ⟨by simp, (HW.out.trans ((Below.refl _ _).alloc (HW.out.size) _)).trans ⟨rfl, rfl, rfl, Nat.le_refl _, fun _ _ => rfl⟩⟩

end Go.Proofs.Ytdleikgcgbokmaa
