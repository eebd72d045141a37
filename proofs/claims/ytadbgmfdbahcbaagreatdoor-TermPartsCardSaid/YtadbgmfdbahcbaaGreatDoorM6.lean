/- term: a map as a set of numbers; a row that is cut at its end. -/
import Derived.Test.YtadbgmfdbahcbaaGreatDoorM3
import Derived.Test.YtadbgmfdbahcbaaGreatDoorM4
import Derived.Maps.Own
import Derived.Maps.Views
namespace Go.Proofs.YtadbgmfdbahcbaaGreatDoor
open Go.RowKit Go.KK Go.Shelf Go.Maps
set_option linter.unusedVariables false
set_option linter.unusedSimpArgs false

/-- The map holds these numbers, each as true. -/
structure SB (D : MD) (M : List Int) : Prop where
  t : Tidy D
  a : ∀ v, D.atKey (.int .i64 v) (.lit (.bool false)) = .lit (.bool (decide (v ∈ M)))
  h : ∀ v, Maps.has D (.int .i64 v) = decide (v ∈ M)
  z : Maps.size D = M.length
theorem sb_nil : SB (.map []) [] := ⟨tidy_empty, fun v => rfl, fun v => rfl, rfl⟩
theorem SB.put {D : MD} {M : List Int} (h : SB D M) {w : Int} (hw : w ∉ M) : SB (D.put (.int .i64 w) (.lit (.bool true))) (M ++ [w]) := by
  refine ⟨h.t.put (by trivial) _, fun v => ?_, fun v => ?_, ?_⟩
  · by_cases hv : v = w
    · subst hv
      rw [Maps.atKey_put_same h.t.isMap (by trivial)]; simp
    · rw [Maps.atKey_put_other (fun e => hv (by injection e)), h.a]
      simp [hv]
  · by_cases hv : v = w
    · subst hv
      rw [Maps.has_put_same h.t.isMap (by trivial)]; simp
    · rw [Maps.has_put_other (fun e => hv (by injection e)), h.h]
      simp [hv]
  · rw [size_put h.t, h.h, decide_eq_false hw, h.z, List.length_append]
    rfl
theorem lawIn : Keyed Tryz.prog 3 := int_keyed Tryz.underlying3
theorem wf_i64 {y : Int} (h : I64 y) : (Lit.int .i64 y).wf = true := by
  have h2 := wrap64_wf y
  rwa [show RowKit.wrap64 y = y by unfold RowKit.wrap64; unfold I64 at h; omega] at h2
theorem key_i64 {y : Int} (h : I64 y) : keyOf Tryz.prog 3 (.int .i64 y) = some (.int .i64 y) := keyOf_int_mk Tryz.underlying3 (wf_i64 h)
theorem plain_bool_inv {e : TypeId} (he : Tryz.prog.underlying e = some .bool) {v : Value} {z : MD × List MemPlace} (h : plainElem Tryz.prog e v = some z) : ∃ x, v = .bool x ∧ z = (.lit (.bool x), []) := by
  unfold plainElem at h
  rw [he] at h
  cases v <;> simp at h
  subst h
  exact ⟨_, rfl, rfl⟩
theorem litB_inj {a b : Bool} (h : (DataW.lit (.bool a) : MD) = .lit (.bool b)) : a = b := by
  injection h with h
  injection h
/-- A map of numbers that the call has made. -/
abbrev MapB (w : World) (mb k : Nat) (D : MD) : Prop := w.ownsMap Tryz.prog 3 (plainElem Tryz.prog 4) mb k D
theorem zeroB (w : World) : (zeroValue 4).run Tryz.prog w = .ok (.bool false) w := by kernel_rfl
theorem look_set {w : World} {mb k : Nat} {D : MD} {M : List Int} {y : Int} (h : MapB w mb k D) (hs : SB D M) (hk : I64 y) : (Instr.lookup 69 (.map (some mb)) (.int .i64 y) false).run Tryz.prog w = .ok (.bool (decide (y ∈ M))) w := by
  obtain ⟨v, ps, hrun, hv⟩ := h.lookup lawIn Tryz.underlying69 (zeroB w) (plainElem_bool Tryz.underlying4 false) (key_i64 hk)
  obtain ⟨x, rfl, e⟩ := plain_bool_inv Tryz.underlying4 hv
  have e1 := (Prod.mk.inj e).1
  rw [hs.a] at e1
  have e2 : decide (y ∈ M) = x := litB_inj e1
  rw [hrun, e2]
/-- A row, cut at its end. -/
theorem row_cut {w : World} {b0 : Nat} {A : Option Addr} {n c m : Nat} {l : List Int} (h : w.ownsRow b0 3 1 (.slice A n c) l.length (l.map (.int .i64))) (hm : m ≤ l.length) : RowI w b0 (.slice A m c) (l.take m) := by
  unfold RowI
  have hl : (l.take m).length = m := by rw [List.length_take]; omega
  refine ⟨by rw [List.length_map, Nat.mul_one], ?_⟩
  rw [hl]
  rcases h.2 with ⟨hv, h0⟩ | ⟨g, cap, cur, hv, hg, hh, hc, hm', hcs, ht⟩
  · injection hv with e1 e2 e3
    subst e1; subst e3
    refine .inl ⟨by rw [show m = 0 by omega], by omega⟩
  · injection hv with e1 e2 e3
    subst e1; subst e3
    refine .inr ⟨g, c, cur, rfl, hg, hh, by omega, hm', hcs, ?_⟩
    have : (cur.toList.take (l.length * 1)).take m = cur.toList.take (m * 1) := by rw [List.take_take]; congr 1; omega
    rw [← this, ht, List.map_take]
end Go.Proofs.YtadbgmfdbahcbaaGreatDoor
