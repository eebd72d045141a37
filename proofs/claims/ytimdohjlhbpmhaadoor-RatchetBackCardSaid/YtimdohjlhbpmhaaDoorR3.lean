/- ratchet: a copy of numbers, and how many are left of it, each once. -/
import Derived.Test.YtimdohjlhbpmhaaDoorR2
namespace Go.Proofs.YtimdohjlhbpmhaaDoor
open Go.RowKit Go.KK
set_option linter.unusedVariables false
set_option linter.unusedSimpArgs false

theorem below_setCells {B : Nat} {a : World} (b : Nat) (hb : B ≤ b) : ∀ (vs : List Value) (o : Nat) (w : World), Below B a w → Below B a (w.setCells b o vs)
  | [], _, _, h => h
  | v :: r, o, w, h => by
    rw [World.setCells]
    exact below_setCells b hb r (o + 1) _ (h.setCell hb v)
/-- A list whose cells are known by their numbers. -/
theorem sla_getD {w : World} {b o n c : Nat} {l : List Int} (h : SlA w 1 (some ⟨b, o, none⟩) n c (l.map (.int .i64))) : ∀ j, j < l.length → w.cell? ⟨b, o + j, none⟩ = some (.int .i64 (l.getD j 0)) := by
  intro j hj
  obtain ⟨b', o', e, hc⟩ := h.cells j (.int .i64 (l[j])) (by rw [List.getElem?_map, List.getElem?_eq_getElem hj]; rfl)
  injection e with e
  injection e with e1 e2
  subst e1; subst e2
  rw [hc, List.getD, List.getElem?_eq_getElem hj]
  rfl
theorem clone_int (A : Option Addr) (n c : Nat) (l : List Int) (w : World) (h : SlA w 1 A n c (l.map (.int .i64))) (hn47 : n ≤ 2147483648) :
    Calls Tryd.prog 58 #[.slice A n c] w fun e w' => ∃ v, e = .returned v ∧ w'.ownsRow w.heap.size 3 1 v n (l.map (.int .i64)) ∧ Below w.heap.size w w' := by
  have hn := h.lenI
  rcases A with _ | a
  · have hl : l = [] := by
      rcases l with _ | ⟨x, l⟩
      · rfl
      · obtain ⟨b, o, e, _⟩ := h.cells 0 _ rfl
        cases e
    subst hl
    simp at hn
    subst hn
    exact (Tryd.slices_Clone_int_nil 0 c w).mono fun e w' ⟨h1, h2⟩ => ⟨_, h1, World.ownsRow_nil _ _ _ _, by rw [h2]; exact Below.refl _ _⟩
  · rcases l with _ | ⟨x, l⟩
    · simp at hn
      subst hn
      exact (Tryd.slices_Clone_int_zero a c w).mono fun e w' ⟨v, h1, h2, _, h3⟩ => ⟨v, h1, h2, h3⟩
    · obtain ⟨b, o, e, _⟩ := h.cells 0 _ rfl
      injection e with e
      subst e
      have := Tryd.slices_Clone_int b o n c (x :: l) w (by omega) (by omega) (sla_getD h)
      rw [List.take_of_length_le (by omega)] at this
      exact this.mono fun e w' ⟨v, h1, h2, _, h3⟩ => ⟨v, h1, h2, h3⟩
theorem compact_own (base : Nat) (v : Value) (n : Nat) (l : List Int) (w : World) (h : w.ownsRow base 3 1 v n (l.map (.int .i64))) (hn47 : n ≤ 2147483648) :
    Calls Tryd.prog 74 #[v] w fun e w' => ∃ A c, e = .returned (.slice A (Lib.compact l).length c) ∧ Below base w w' := by
  have hw := h
  obtain ⟨A, c, rfl, hs⟩ := SlA.owned h
  have hn := hs.lenI
  rcases l with _ | ⟨x, l⟩
  · simp at hn
    subst hn
    refine (Tryd.slices_Compact_int_empty A c w).mono fun e w' ⟨h1, h2⟩ => ⟨A, c, ?_, by rw [h2]; exact Below.refl _ _⟩
    rw [h1]; rfl
  · obtain ⟨b, o, e, _⟩ := hs.cells 0 _ rfl
    subst e
    rcases hw.2 with ⟨e1, _⟩ | ⟨g, cap, cur, e1, hbg, _⟩
    · cases e1
    · injection e1 with e1 e2 e3
      injection e1 with e1
      injection e1 with e4 e5
      subst e4; subst e5; subst e3
      have hnc := hs.nc
      have := Tryd.slices_Compact_int_cells b 0 n c (x :: l) w (by omega) (by omega) hnc (sla_getD hs) (fun j hj => by rw [Nat.zero_add]; exact hw.frozenAt j)
      rw [List.take_of_length_le (by omega)] at this
      exact this.mono fun e w' ⟨h1, q, h2⟩ => ⟨_, _, h1, by rw [h2]; exact below_setCells b hbg _ _ _ (below_drewN (Below.refl _ _) q)⟩
/-- Numbers that rise. -/
def riseB (l : List Int) : Bool := sortB l && ((Lib.compact l).length : Int) == (l.length : Int)
/-- whether a number is in a list -/
theorem contains_any (A : Option Addr) (n c : Nat) (l : List Int) (x : Int) (w : World) (h : SlA w 1 A n c (l.map (.int .i64))) (hn47 : n ≤ 2147483648) :
    Calls Tryd.prog 76 #[.slice A n c, .int .i64 x] w fun e w' => e = .returned (.bool (l.contains x)) ∧ w' = w := by
  have hn := h.lenI
  rcases l with _ | ⟨y, l⟩
  · simp at hn
    subst hn
    exact Tryd.slices_Contains_int_empty A c x w
  · obtain ⟨b, o, rfl, _⟩ := h.cells 0 _ rfl
    have := Tryd.slices_Contains_int b o n c (y :: l) x w (by omega) (by omega) (sla_getD h)
    rw [List.take_of_length_le (by omega)] at this
    exact this
end Go.Proofs.YtimdohjlhbpmhaaDoor
