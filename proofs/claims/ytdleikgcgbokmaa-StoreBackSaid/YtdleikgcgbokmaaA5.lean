/- Vectors written and read, of both. -/
import Derived.Test.YtdleikgcgbokmaaA4
namespace Go.Proofs.Ytdleikgcgbokmaa
open Go.RowKit Go.KK
set_option linter.unusedVariables false
set_option linter.unusedSimpArgs false

theorem tint_facts (l : List Int) (hl : ∀ x ∈ l, 0 ≤ x ∧ x < 256) :
    ((tint l).2.2 = 0 ∧ 1 ≤ (tint l).2.1 ∧ (tint l).2.1 ≤ 4 ∧ (tint l).2.1 ≤ l.length ∧ 0 ≤ (tint l).1 ∧ (tint l).1 < 1073741824 ∧ enc (tint l).1 = l.take (tint l).2.1)
    ∨ (((tint l).2.2 = 10 ∨ (tint l).2.2 = 11) ∧ (tint l).1 = 0 ∧ (tint l).2.1 = 0) := by
  rcases l with _ | ⟨b0, t⟩
  · right; simp [tint]
  · obtain ⟨hb0, hb1⟩ := hl b0 (by simp)
    by_cases h1 : b0 < 64
    · left; simp [tint, h1, enc]; omega
    · by_cases h2 : b0 < 128
      · rcases t with _ | ⟨b1, t⟩
        · right; simp [tint, h1, h2]
        · obtain ⟨hc0, hc1⟩ := hl b1 (by simp)
          by_cases h3 : (b0 - 64) * 256 + b1 < 64
          · right; simp [tint, h1, h2, h3]
          · left
            have h4 : (b0 - 64) * 256 + b1 < 16384 := by omega
            simp [tint, h1, h2, h3, h4, enc]; omega
      · by_cases h3 : b0 < 192
        · match t, hl with
          | [], _ => right; simp [tint, h1, h2, h3]
          | [_], _ => right; simp [tint, h1, h2, h3]
          | [_, _], _ => right; simp [tint, h1, h2, h3]
          | b1 :: b2 :: b3 :: t, hl =>
            obtain ⟨hc0, hc1⟩ := hl b1 (by simp)
            obtain ⟨hd0, hd1⟩ := hl b2 (by simp)
            obtain ⟨he0, he1⟩ := hl b3 (by simp)
            by_cases h5 : (b0 - 128) * 16777216 + b1 * 65536 + b2 * 256 + b3 < 16384
            · right; simp [tint, h1, h2, h3, h5]
            · left
              have h6 : ¬ (b0 - 128) * 16777216 + b1 * 65536 + b2 * 256 + b3 < 64 := by omega
              simp [tint, h1, h2, h3, h5, h6, enc]; omega
        · right; simp [tint, h1, h2, h3]

/-- A vector at the beginning: its bytes, how many bytes it has with its length, an error. -/
def tbytes (l : List Int) : List Int × Nat × Int :=
  if (tint l).2.2 ≠ 0 then ([], 0, (tint l).2.2)
  else if (l.length : Int) - (tint l).2.1 < (tint l).1 then ([], 0, 10)
  else ((l.drop (tint l).2.1).take (tint l).1.toNat, (tint l).2.1 + (tint l).1.toNat, 0)

theorem cut_mid {w : World} {A : Option Addr} {n c : Nat} {xs : List Value} (h : SlA w 1 A n c xs) {l k : Nat} (hk : l + k ≤ n) (A' : Option Addr) (hA : c ≠ l → A' = A.map (·.add l)) :
    SlA w 1 A' k (c - l) ((xs.drop l).take k) := by
  have h1 := h.nc; have h2 := h.cm; have h3 := h.len
  refine ⟨by omega, by omega, by rw [List.length_take, List.length_drop]; omega, fun j u hj => ?_⟩
  rw [List.getElem?_take] at hj
  split at hj
  · rename_i hjk
    rw [List.getElem?_drop] at hj
    obtain ⟨b, off, rfl, hc⟩ := h.cells _ _ hj
    exact ⟨b, off + l, by rw [hA (by omega)]; simp [add_lit], by rw [Nat.add_assoc]; exact hc⟩
  · cases hj

def TBytes (w : World) (l : List Int) (e : Ending) (w' : World) : Prop :=
  ∃ v, e = .returned (.tuple #[v, .int .i64 (tbytes l).2.1, .int .i64 (tbytes l).2.2]) ∧ w'.ownsRow w.heap.size 5 1 v (tbytes l).1.length ((tbytes l).1.map (.int .u8)) ∧ Below w.heap.size w w'

set_option maxHeartbeats 1000000 in
set_option maxRecDepth 100000 in
theorem tbytes_any (A : Option Addr) (n c : Nat) (l : List Int) (w : World) (h : SlA w 1 A n c (l.map (.int .u8))) (hl : ∀ x ∈ l, 0 ≤ x ∧ x < 256) (hn47 : n ≤ 140737488355328) :
    Calls Try.prog 23 #[.slice A n c] w (TBytes w l) := by
  have hn := h.lenI
  have hnc := h.nc
  have hcm := h.cm
  unfold maxLen at hcm
  rcases tint_facts l hl with ⟨h1, h2, h3, h4, h5, h6, _⟩ | ⟨h1, h2, h3⟩
  · obtain ⟨m, k, e, ht⟩ : ∃ m k e, tint l = (m, k, e) := ⟨_, _, _, rfl⟩
    simp only [ht] at h1 h2 h3 h4 h5 h6
    subst h1
    obtain ⟨m, rfl⟩ := Int.eq_ofNat_of_zero_le h5
    obtain ⟨b, off, x, rfl, _, _⟩ := h.elemI (show 0 < n by omega)
    by_cases hlt : (n : Int) - k < m
    · have HT := hid (show tbytes l = ([], 0, 10) by unfold tbytes; rw [ht]; simp [hn, hlt])
      have HI := hid ht; clear ht hn
      go_enter Try.func23, Try.ntmps23
      go_wp2_with (go_at_call 24; refine (tint_any _ n c l _ h hl).mono ?_; rintro e w' ⟨rfl, rfl⟩; rw [HI.out]; dsimp only)
      go_ret3
      exact ⟨_, by rw [HT.out]; rfl, by rw [HT.out]; exact World.ownsRow_nil _ _ _ _, Below.refl _ _⟩
    · have HT := hid (show tbytes l = ((l.drop k).take m, k + m, 0) by unfold tbytes; rw [ht]; simp [hn, hlt])
      have HI := hid ht; clear ht
      have HL := hid (show ((l.drop k).take m).length = m by rw [List.length_take, List.length_drop]; omega)
      clear hn
      have hkm : k + m ≤ n := by omega
      by_cases hck : c = k
      · have hm0 : m = 0 := by omega
        subst hck; subst hm0
        have hs := cut_mid h (l := c) (k := 0) hkm (some ⟨b, off, none⟩) (fun h => absurd rfl h)
        rw [← List.map_drop, ← List.map_take] at hs
        simp only [Nat.sub_self] at hs
        go_enter Try.func23, Try.ntmps23
        go_wp2_with (first
          | (go_at_call 24; refine (tint_any _ n c l _ h hl).mono ?_; rintro e w' ⟨rfl, rfl⟩; rw [HI.out]; dsimp only)
          | (go_at_call 29; refine (clone_u8 _ 0 _ _ _ hs (by omega)).mono ?_; rintro e w' ⟨v1, rfl, hown1, hb1⟩))
        go_ret3
        refine ⟨_, by rw [HT.out]; rfl, ?_, hb1⟩
        rw [HT.out]
        exact HL.out ▸ hown1
      · have hs := cut_mid h (l := k) (k := m) hkm (some ⟨b, off + k, none⟩) (fun _ => by simp [add_lit])
        rw [← List.map_drop, ← List.map_take] at hs
        go_enter Try.func23, Try.ntmps23
        go_wp2_with (first
          | (go_at_call 24; refine (tint_any _ n c l _ h hl).mono ?_; rintro e w' ⟨rfl, rfl⟩; rw [HI.out]; dsimp only)
          | (go_at_call 29; refine (clone_u8 _ m _ _ _ hs (by omega)).mono ?_; rintro e w' ⟨v1, rfl, hown1, hb1⟩))
        go_ret3
        refine ⟨_, by rw [HT.out]; rfl, ?_, hb1⟩
        rw [HT.out]
        exact HL.out.symm ▸ hown1
  · obtain ⟨m, k, e, ht⟩ : ∃ m k e, tint l = (m, k, e) := ⟨_, _, _, rfl⟩
    simp only [ht] at h1 h2 h3
    subst h2; subst h3
    have HT := hid (show tbytes l = ([], 0, e) by unfold tbytes; rw [ht]; simp; omega)
    have HI := hid ht; clear ht hn
    rcases h1 with rfl | rfl
    all_goals
      go_enter Try.func23, Try.ntmps23
      go_wp2_with (go_at_call 24; refine (tint_any _ n c l _ h hl).mono ?_; rintro e w' ⟨rfl, rfl⟩; rw [HI.out]; dsimp only)
      go_ret3
      exact ⟨_, by rw [HT.out]; rfl, by rw [HT.out]; exact World.ownsRow_nil _ _ _ _, Below.refl _ _⟩

end Go.Proofs.Ytdleikgcgbokmaa
