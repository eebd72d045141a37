import Derived.Test.YtadbgmfdbahcbaaDoorZa
/- plain: atoms under other names (DeduceNames). -/
namespace Go.KK
open Go.RowKit
set_option linter.unusedVariables false
set_option linter.unusedSimpArgs false

def renN (b : Int) (x : ND) : ND := if x.o = 1 then ⟨x.o, 2 * x.n + b, x.s, x.l⟩ else x
theorem ren_o (b : Int) (x : ND) : (renN b x).o = x.o ∧ (renN b x).s = x.s ∧ (renN b x).l = x.l := by
  unfold renN
  split <;> exact ⟨rfl, rfl, rfl⟩
theorem ren_inj {b : Int} {x y : ND} (h : renN b x = renN b y) : x = y := by
  have ho : x.o = y.o := by rw [← (ren_o b x).1, h, (ren_o b y).1]
  unfold renN at h
  by_cases h1 : x.o = 1
  · rw [if_pos h1, if_pos (ho ▸ h1)] at h
    obtain ⟨o, n, s, l⟩ := x
    obtain ⟨o', n', s', l'⟩ := y
    injection h with h1 h2 h3 h4
    simp only at h1 h2 h3 h4
    have : n = n' := by omega
    subst h1; subst this; subst h3; subst h4; rfl
  · rw [if_neg h1, if_neg (ho ▸ h1)] at h
    exact h
theorem ren_sh {b : Int} {x : ND} (hb : 0 ≤ b) (h : x.o = 1 → 0 ≤ x.n) : shB (renN b x) = shB x := by
  unfold renN
  by_cases h1 : x.o = 1
  · rw [if_pos h1]
    have e1 : decide (0 ≤ 2 * x.n + b) = true := decide_eq_true (by have := h h1; omega)
    have e2 : decide (0 ≤ x.n) = true := decide_eq_true (h h1)
    unfold shB
    simp only [e1, e2]
    rw [h1]
    rfl
  · rw [if_neg h1]
theorem ren_opAt (b : Int) (xs : List ND) (t : Int) : opAt (xs.map (renN b)) t = opAt xs t := by
  unfold opAt
  rw [List.getElem?_map]
  rcases xs[t.toNat]? with _ | x
  · rfl
  · exact (ren_o b x).1
theorem ren_hasM (b : Int) (xs : List ND) (t : Int) : hasB (xs.map (renN b)) t = hasB xs t := by unfold hasB; rw [List.length_map]
theorem ren_may {b : Int} {xs : List ND} {x : ND} (hb : 0 ≤ b) (h : x.o = 1 → 0 ≤ x.n) : mayB (xs.map (renN b)) (renN b x) = mayB xs x := by
  unfold mayB
  rw [ren_sh hb h, (ren_o b x).1, (ren_o b x).2.2, ren_opAt]
  congr 2
  congr 1
  funext t
  exact ren_hasM b xs t
theorem mak_ren {b : Int} {xs : List ND} {x : ND} (hb : 0 ≤ b) (h : x.o = 1 → 0 ≤ x.n) : makT (xs.map (renN b)) (renN b x) = (makT xs x).map (renN b) := by
  have hm : renN b x ∈ xs.map (renN b) ↔ x ∈ xs := by
    rw [List.mem_map]
    exact ⟨fun ⟨y, hy, e⟩ => ren_inj e ▸ hy, fun hx => ⟨x, hx, rfl⟩⟩
  unfold makT
  rw [ren_may hb h, List.length_map]
  split
  · by_cases hx : x ∈ xs
    · rw [if_pos hx, if_pos (hm.2 hx)]
    · rw [if_neg hx, if_neg (fun e => hx (hm.1 e))]
      split
      · rfl
      · simp
  · rfl
theorem mks_ren {b : Int} (hb : 0 ≤ b) : ∀ (l xs : List ND), (∀ x ∈ l, x.o = 1 → 0 ≤ x.n) → mksT (xs.map (renN b)) (l.map (renN b)) = (mksT xs l).map (renN b)
  | [], xs, _ => rfl
  | x :: l, xs, h => by
    show mksT (makT (xs.map (renN b)) (renN b x)) (l.map (renN b)) = (mksT (makT xs x) l).map (renN b)
    rw [mak_ren hb (h x (by simp))]
    exact mks_ren hb l _ fun y hy => h y (by simp [hy])
theorem ren_of (b : Int) (xs : List ND) : Ren xs (xs.map (renN b)) := by
  refine ⟨by rw [List.length_map], fun t => ?_⟩
  unfold nodeF
  rw [ren_hasM]
  split
  · rw [List.getD, List.getD, List.getElem?_map]
    rcases xs[t.toNat]? with _ | x
    · exact ⟨rfl, rfl, rfl⟩
    · have := ren_o b x
      exact ⟨this.1.symm, this.2.1.symm, this.2.2.symm⟩
  · exact ⟨rfl, rfl, rfl⟩
theorem wrapB (b : Int) : 0 ≤ (b.tmod 1000 + 1000).tmod 1000 ∧ (b.tmod 1000 + 1000).tmod 1000 < 1000 := by
  have h1 : -1000 < b.tmod 1000 ∧ b.tmod 1000 < 1000 := ⟨by have := Int.lt_tmod_of_pos b (show (0 : Int) < 1000 by decide); omega, Int.tmod_lt_of_pos b (by decide)⟩
  have h2 : 0 ≤ b.tmod 1000 + 1000 := by omega
  rw [Int.tmod_eq_emod_of_nonneg h2]
  omega
end Go.KK

