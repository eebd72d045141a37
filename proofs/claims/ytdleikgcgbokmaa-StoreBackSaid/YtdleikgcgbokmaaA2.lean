/- slices.Clone, slices.Grow of nil and slices.Concat of bytes. -/
import Derived.Test.YtdleikgcgbokmaaA1
import Derived.Lib.AppendZeros
namespace Go.Proofs.Ytdleikgcgbokmaa
open Go.RowKit Go.KK
set_option linter.unusedVariables false
set_option linter.unusedSimpArgs false

set_option maxHeartbeats 400000 in
theorem clone_u8 (A : Option Addr) (n c : Nat) (l : List Int) (w : World) (h : SlA w 1 A n c (l.map (.int .u8))) (hn : n ≤ 140737488355328) :
    Calls Try.prog 29 #[.slice A n c] w fun e w' => ∃ v, e = .returned v ∧ w'.ownsRow w.heap.size 5 1 v n (l.map (.int .u8)) ∧ Below w.heap.size w w' := by
  obtain ⟨i0, hi, hz0, hz1, hz2⟩ := info_parts Try.infoU8
  rcases A with _ | ad
  · have hl : l = [] := by
      rcases l with _ | ⟨x, l⟩
      · rfl
      · obtain ⟨b, off, e, _⟩ := h.cells 0 _ rfl
        cases e
    subst hl
    have hn0 : n = 0 := by have := h.len; simpa using this.symm
    subst hn0
    have he := fun (W : World) => Lib.run_eql_slice_nil (P := Try.prog) W 24 5 none 0 c 0 0 Try.underlying24
    go_enter Try.func29, Try.ntmps29
    go_wp2
    go_ret
    exact ⟨_, rfl, World.ownsRow_nil _ _ _ _, Below.refl _ _⟩
  · have h' := h.alloc (.cells #[] 5)
    have he := fun (W : World) => Lib.run_eql_slice_nil (P := Try.prog) W 24 5 (some ad) n c 0 0 Try.underlying24
    go_enter Try.func29, Try.ntmps29
    go_wp2_with (at_builtin; refine wpList_append_sl _ rfl _ _ 24 rfl w.heap.size 5 i0 (.int .u8 0) 1 1 Try.underlying24 hi hz0 hz1 hz2 rfl (by decide) _ 0 [] rfl (World.ownsRow_lit w #[] 0 (Nat.le_refl _) (by unfold maxLen; omega) rfl) _ n c _ rfl h' (ints_one _ _) (by unfold maxLen; omega) (by omega) (by simp) ?_; intro v1 w1 hown1 hg1 _)
    go_ret
    refine ⟨_, rfl, by simpa using hown1, ?_⟩
    exact below_append (base := w.heap.size) (size := 1) (xs := []) (n := 0) ((Below.refl _ _).alloc (Nat.le_refl _) _) hg1 (World.ownsRow_lit w #[] 0 (Nat.le_refl _) (by unfold maxLen; omega) rfl) (Nat.le_refl _) (by simp)

set_option maxHeartbeats 400000 in
theorem grow_u8 (n : Nat) (w : World) (hn : n ≤ 140737488355328) :
    Calls Try.prog 28 #[.slice none 0 0, .int .i64 n] w fun e w' => ∃ v, e = .returned v ∧ w'.ownsRow w.heap.size 5 1 v 0 [] ∧ Below w.heap.size w w' := by
  obtain ⟨i0, hi, hz0, hz1, hz2⟩ := info_parts Try.infoU8
  rcases Nat.eq_zero_or_pos n with h0 | h0
  · subst h0
    go_enter Try.func28, Try.ntmps28
    go_wp2
    go_ret
    exact ⟨_, rfl, World.ownsRow_nil _ _ _ _, Below.refl _ _⟩
  · have HR := hid (fun ty => Lib.run_append_nil_zeros (P := Try.prog) w 24 3 ty 5 i0 (.int .u8 0) .i64 .i64 Try.underlying24 Try.underlying3 hi hz0 n h0 (by omega) (by omega) (by rw [hz2]; omega))
    go_enter Try.func28, Try.ntmps28
    go_wp2_with (at_builtin; refine Lib.wpList_append_run _ rfl _ _ _ _ rfl _ _ rfl rfl _ _ (HR.out _) ?_)
    go_ret
    have hge := grownCap_ge w n 0 5
    refine ⟨_, rfl, ?_, ((Below.refl _ _).drew).alloc (Nat.le_refl _) _⟩
    exact World.ownsRow_made (w := w.drew) _ _ (Nat.le_refl _) (grownCap_le_maxLen w n 0 5 (by unfold maxLen; omega)) (by simp [size_zeroCells, Value.cells]; omega)

/-- A slice of slices of bytes that reads. -/
def SlB (w : World) (A : Option Addr) (k c : Nat) (ls : List (List Int)) : Prop :=
  ∃ vs : List Value, SlA w 1 A k c vs ∧ ls.length = k ∧ ∀ (i : Nat) (v : Value) (l : List Int), vs[i]? = some v → ls[i]? = some l → ∃ A n c, v = .slice A n c ∧ SlA w 1 A n c (l.map (.int .u8))
theorem SlB.keep {w w' : World} {A : Option Addr} {k c : Nat} {ls : List (List Int)} (h : SlB w A k c ls) (hb : Below w.heap.size w w') : SlB w' A k c ls := by
  obtain ⟨vs, h1, h2, h3⟩ := h
  refine ⟨vs, h1.ext hb, h2, fun i v l hv hl => ?_⟩
  obtain ⟨A, n, c, e, hs⟩ := h3 i v l hv hl
  exact ⟨A, n, c, e, hs.ext hb⟩
theorem SlB.elem {w : World} {A : Option Addr} {k c : Nat} {ls : List (List Int)} (h : SlB w A k c ls) {i : Nat} (hi : i < k) :
    ∃ b off A' c' l, A = some ⟨b, off, none⟩ ∧ ls[i]? = some l ∧ w.cell? ⟨b, off + i, none⟩ = some (.slice A' l.length c') ∧ SlA w 1 A' l.length c' (l.map (.int .u8)) := by
  obtain ⟨vs, h1, h2, h3⟩ := h
  obtain ⟨b, off, u, e, hu, hc⟩ := h1.elem hi
  have hl : i < ls.length := by omega
  obtain ⟨A', n', c', e', hs⟩ := h3 i u ls[i] hu (List.getElem?_eq_getElem hl)
  have hn : n' = ls[i].length := by have := hs.len; simpa using this.symm
  subst hn
  exact ⟨b, off, A', c', ls[i], e, List.getElem?_eq_getElem hl, by rw [hc, e'], hs⟩

theorem flat_take {α : Type} {ls : List (List α)} {i : Nat} {l : List α} (h : ls[i]? = some l) : (ls.take (i + 1)).flatten = (ls.take i).flatten ++ l := by
  rw [take_snoc h, List.flatten_append]; simp
theorem flat_take_le {α : Type} (ls : List (List α)) (i : Nat) : ((ls.take i).flatten).length ≤ ls.flatten.length := by
  conv => rhs; rw [← List.take_append_drop i ls]
  rw [List.flatten_append, List.length_append]; omega
/-- How long the first j lists are together. -/
def flLen (ls : List (List Int)) (j : Nat) : Nat := (ls.take j).flatten.length

set_option maxHeartbeats 1000000 in
theorem concat_u8 (A : Option Addr) (k c : Nat) (ls : List (List Int)) (w : World) (h : SlB w A k c ls) (hk : k ≤ 140737488355328) (hn : ls.flatten.length ≤ 140737488355328) :
    Calls Try.prog 22 #[.slice A k c] w fun e w' => ∃ v, e = .returned v ∧ w'.ownsRow w.heap.size 5 1 v ls.flatten.length (ls.flatten.map (.int .u8)) ∧ Below w.heap.size w w' := by
  obtain ⟨i0, hi, hz0, hz1, hz2⟩ := info_parts Try.infoU8
  have hlen : ls.length = k := h.choose_spec.2.1
  have HL := hid hlen; clear hlen
  go_enter Try.func22, Try.ntmps22
  go_wp2_with fail
  go_loop [3, 5, 11] (fun s _ i => ∃ j : Nat, j ≤ k ∧ i = .int .i64 j ∧ s = .int .i64 (flLen ls j : Nat)) (fun _ _ i => k - (intOf i).toNat)
  case atStart => exact ⟨0, by omega, by simp, by simp [flLen]⟩
  case round =>
    obtain ⟨j, hj, hi', hs'⟩ := hrel
    subst hi'; subst hs'
    by_cases hlt : j < k
    · obtain ⟨b, off, A', c', l, rfl, hl, hc, hs⟩ := h.elem hlt
      have HF := hid (show flLen ls (j + 1) = flLen ls j + l.length by unfold flLen; rw [flat_take hl]; simp)
      have hle2 : flLen ls j + l.length ≤ 140737488355328 := by
        have := flat_take_le ls (j + 1)
        have h2 := HF.out
        unfold flLen at *
        omega
      clear hl
      go_wp2
      go_round
      case rel => exact ⟨j + 1, by omega, by go_num, by rw [HF.out]; go_num⟩
      case measure => simp [intOf]; omega
    · have hjk : flLen ls j = ls.flatten.length := by unfold flLen; rw [List.take_of_length_le (by rw [HL.out]; omega)]
      have HJ := hid hjk; clear hjk
      go_wp2_with (go_at_call 28; refine (grow_u8 _ _ (by rw [HJ.out]; exact hn)).mono ?_; rintro e w1 ⟨v1, rfl, hown1, hb1⟩)
      clear HJ
      go_loopw [6, 8, 27] (fun v _ i wr => ∃ j : Nat, j ≤ k ∧ i = .int .i64 j ∧ wr.ownsRow w.heap.size 5 1 v (flLen ls j) (((ls.take j).flatten).map (.int .u8)) ∧ Below w.heap.size w wr) (fun _ _ i _ => k - (intOf i).toNat)
      case atStart => exact ⟨0, by omega, by simp, by simpa [flLen] using hown1, hb1⟩
      case round =>
        obtain ⟨m, hm, hi', hown, hb⟩ := hrel
        subst hi'
        have hbs := hb.size
        by_cases hlt : m < k
        · obtain ⟨b, off, A', c', l, rfl, hl, hc, hs⟩ := (h.keep hb).elem hlt
          have HF := hid (show flLen ls (m + 1) = flLen ls m + l.length by unfold flLen; rw [flat_take hl]; simp)
          have HX := hid (show (ls.take m).flatten.map (Value.int .u8) ++ l.map (Value.int .u8) = (ls.take (m+1)).flatten.map (Value.int .u8) by rw [flat_take hl]; simp)
          have hle2 : flLen ls m + l.length ≤ 140737488355328 := by
            have := flat_take_le ls (m + 1)
            have h2 := HF.out
            unfold flLen at *
            omega
          clear hl
          go_wp2_with (at_builtin; refine wpList_append_sl _ rfl _ _ 24 rfl w.heap.size 5 i0 (.int .u8 0) 1 1 Try.underlying24 hi hz0 hz1 hz2 rfl (by decide) _ _ _ rfl hown _ _ _ _ rfl hs (ints_one _ _) (by unfold maxLen; omega) (by omega) hbs ?_; intro v2 w2 hown2 hg2 _)
          rw [HX.out, ← HF.out] at hown2
          go_roundw
          case rel => exact ⟨m + 1, by omega, by go_num, hown2, below_append hb hg2 hown (Nat.le_refl _) hbs⟩
          case measure => simp [intOf]; omega
        · have hjk : flLen ls m = ls.flatten.length ∧ (ls.take m).flatten = ls.flatten := by unfold flLen; rw [List.take_of_length_le (by rw [HL.out]; omega)]; exact ⟨rfl, rfl⟩
          rw [hjk.1, hjk.2] at hown
          clear hjk
          go_wp2
          go_ret
          exact ⟨_, rfl, hown, hb⟩

end Go.Proofs.Ytdleikgcgbokmaa
