/- token: find, Had. -/
import Derived.Test.YtanakgbhmmemoaaDoorA11
namespace Go.Proofs.YtanakgbhmmemoaaDoor
open Go.RowKit Go.KK Go.Shelf Go.Maps
set_option linter.unusedVariables false
set_option linter.unusedSimpArgs false

/-- The cells of a row of counts. -/
def cts (g : List (Int × Int)) : List Value := g.flatMap fun c => [.int .i64 c.1, .int .i64 c.2]
theorem cts_len (g : List (Int × Int)) : (cts g).length = g.length * 2 := by
  unfold cts
  induction g with
  | nil => rfl
  | cons c g ih => rw [List.flatMap_cons, List.length_append, ih, List.length_cons]; simp; omega
theorem cts_get : ∀ {g : List (Int × Int)} {j : Nat} {c : Int × Int}, g[j]? = some c → (cts g)[j * 2]? = some (.int .i64 c.1) ∧ (cts g)[j * 2 + 1]? = some (.int .i64 c.2)
  | [], _, _, h => by simp at h
  | d :: g, 0, c, h => by
    injection h with h
    subst h
    exact ⟨rfl, rfl⟩
  | d :: g, j + 1, c, h => by
    have := cts_get (g := g) (j := j) (c := c) (by simpa using h)
    have e : cts (d :: g) = .int .i64 d.1 :: .int .i64 d.2 :: cts g := rfl
    rw [e, show (j + 1) * 2 = j * 2 + 1 + 1 by omega, show j * 2 + 1 + 1 + 1 = j * 2 + 1 + 1 + 1 from rfl]
    exact ⟨by simpa using this.1, by simpa using this.2⟩
/-- A row of counts that reads. -/
abbrev CtA (w : World) (A : Option Addr) (c : Nat) (g : List (Int × Int)) : Prop := SlA w 2 A g.length c (cts g)
theorem ctA_at {w : World} {A : Option Addr} {c : Nat} {g : List (Int × Int)} (h : CtA w A c g) {j : Nat} (hj : j < g.length) : ∃ b o x, A = some ⟨b, o, none⟩ ∧ g[j]? = some x ∧ w.cell? ⟨b, o + j * 2, none⟩ = some (.int .i64 x.1) ∧ w.cell? ⟨b, o + j * 2 + 1, none⟩ = some (.int .i64 x.2) := by
  have hx : g[j]? = some g[j] := List.getElem?_eq_getElem hj
  obtain ⟨g1, g2⟩ := cts_get hx
  obtain ⟨b, o, rfl, h1⟩ := h.cells _ _ g1
  obtain ⟨b', o', e, h2⟩ := h.cells _ _ g2
  injection e with e
  injection e with e1 e2
  subst e1; subst e2
  exact ⟨b, o, g[j], rfl, hx, h1, h2⟩
/-- By who, rising. -/
def CtS (g : List (Int × Int)) : Prop := g.Pairwise fun a b => a.1 < b.1
theorem cts_rise {g : List (Int × Int)} (h : CtS g) {i j : Nat} {a b : Int × Int} (ha : g[i]? = some a) (hb : g[j]? = some b) (hij : i < j) : a.1 < b.1 := by
  obtain ⟨hi, rfl⟩ := List.getElem?_eq_some_iff.1 ha
  obtain ⟨hj, rfl⟩ := List.getElem?_eq_some_iff.1 hb
  exact List.pairwise_iff_getElem.1 h i j hi hj hij
theorem lb_is {g : List (Int × Int)} (w : Int) {i : Nat} (hi : i ≤ g.length) (h1 : ∀ (k : Nat) c, g[k]? = some c → k < i → c.1 < w) (h2 : ∀ (k : Nat) c, g[k]? = some c → i ≤ k → w ≤ c.1) : lbF g w = i := by
  unfold lbF
  rw [← List.take_append_drop i g, List.countP_append]
  have e1 : List.countP (fun c => decide (c.1 < w)) (g.take i) = (g.take i).length := by
    rw [List.countP_eq_length]
    intro c hc
    obtain ⟨k, hk, rfl⟩ := List.mem_iff_getElem.1 hc
    rw [List.getElem_take]
    have hk' : k < i := by rw [List.length_take] at hk; omega
    exact decide_eq_true (h1 k _ (List.getElem?_eq_getElem (by omega)) hk')
  have e2 : List.countP (fun c => decide (c.1 < w)) (g.drop i) = 0 := by
    rw [List.countP_eq_zero]
    intro c hc
    obtain ⟨k, hk, rfl⟩ := List.mem_iff_getElem.1 hc
    rw [List.getElem_drop]
    rw [List.length_drop] at hk
    have := h2 (i + k) _ (List.getElem?_eq_getElem (by omega)) (by omega)
    simp; omega
  rw [e1, e2, List.length_take]
  omega
theorem is_at {g : List (Int × Int)} (h : CtS g) (w : Int) {i : Nat} (h1 : ∀ (k : Nat) c, g[k]? = some c → k < i → c.1 < w) (h2 : ∀ (k : Nat) c, g[k]? = some c → i ≤ k → w ≤ c.1) : isF g w = (match g[i]? with | some c => c.1 == w | none => false) := by
  unfold isF
  rcases hc : g[i]? with _ | c
  · rw [List.any_eq_false]
    intro d hd
    obtain ⟨k, hk, rfl⟩ := List.mem_iff_getElem.1 hd
    have hk' : k < i := by
      have := List.getElem?_eq_none_iff.1 hc; omega
    have := h1 k _ (List.getElem?_eq_getElem hk) hk'
    simp; omega
  · by_cases hcw : c.1 = w
    · show _ = (c.1 == w)
      rw [beq_iff_eq.2 hcw, List.any_eq_true]
      exact ⟨c, List.mem_of_getElem? hc, beq_iff_eq.2 hcw⟩
    · show _ = (c.1 == w)
      rw [beq_eq_false_iff_ne.2 hcw, List.any_eq_false]
      intro d hd
      obtain ⟨k, hk, rfl⟩ := List.mem_iff_getElem.1 hd
      have hd' := List.getElem?_eq_getElem hk
      rcases Nat.lt_trichotomy k i with h3 | h3 | h3
      · have := h1 k _ hd' h3; simp; omega
      · subst h3
        rw [hd'] at hc
        injection hc with hc
        rw [hc]; simpa using hcw
      · have h4 := h2 i c hc (Nat.le_refl _)
        have h5 := cts_rise h hc hd' h3
        simp; omega
theorem find1_any (c1 c2 who : Int) (w : World) :
    Calls Tryd.prog 65 #[.agg #[.int .i64 c1, .int .i64 c2], .int .i64 who] w fun e w' => e = .returned (.int .i64 (Lib.compareInt c1 who)) ∧ Below w.heap.size w w' := by
  have B0 := hid (show Below w.heap.size w (w.alloc (.cells #[.int .i64 c1, .int .i64 c2] 65)) from (Below.refl _ _).alloc (Nat.le_refl _) _)
  go_enter Tryd.func65, Tryd.ntmps65
  go_wp2_with fail
  refine (Tryd.cmp_Compare_int c1 who _).mono ?_
  rintro e w' ⟨rfl, hw⟩
  subst hw
  go_wp2
  go_ret
  exact ⟨rfl, B0.out⟩
end Go.Proofs.YtanakgbhmmemoaaDoor
