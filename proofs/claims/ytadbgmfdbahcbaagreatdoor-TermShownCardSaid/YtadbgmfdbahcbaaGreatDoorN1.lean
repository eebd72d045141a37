/- strings.NewReplacer, of the four texts that the program hands it. -/
import Derived.Test.YtadbgmfdbahcbaaGreatDoorA5
namespace Go.Proofs.YtadbgmfdbahcbaaGreatDoor
open Go.RowKit Go.KK Go.Shelf Go.Maps
set_option linter.unusedVariables false
set_option linter.unusedSimpArgs false

/-- What stands in the program: a quote and a stroke, each with a stroke ahead of it. -/
def rs4 : List Value := [.string ⟨#[34]⟩, .string ⟨#[92, 34]⟩, .string ⟨#[92]⟩, .string ⟨#[92, 92]⟩]
theorem infoS : (Tryz.prog.info? 9).map (fun i => (i.zero, i.size, i.bytes)) = some (some (.string ⟨#[]⟩), 1, 16) := by kernel_rfl
theorem rs4_one : ∀ u ∈ rs4, u.oneCell' = true := by
  intro u hu
  simp only [rs4, List.mem_cons, List.mem_nil_iff, or_false] at hu
  rcases hu with rfl | rfl | rfl | rfl <;> rfl
/-- A Replacer that is not built yet, at block b. -/
structure RpN (base : Nat) (W : World) (b : Nat) (v : Value) : Prop where
  o : W.ownsRow base 109 5 (.slice (some ⟨b, 0, none⟩) 1 1) 1 [.int .u32 0, .int .i32 0, .int .u32 0, .nilIface, v]
  s : W.ownsRow base 9 1 v 4 rs4
  d : v.ownBlock ≠ some b
set_option maxHeartbeats 2000000 in
set_option maxRecDepth 100000 in
theorem newrep_any (A : Option Addr) (c : Nat) (w : World) (h : SlA w 1 A 4 c rs4) :
    Calls Tryz.prog 51 #[.slice A 4 c] w fun e w' => ∃ b v, e = .returned (.pointer (some ⟨b, 0, none⟩)) ∧ RpN w.heap.size w' b v ∧ Below w.heap.size w w' := by
  obtain ⟨i0, hi, hz0, hz1, hz2⟩ := info_parts infoS
  have H := hid h
  clear h
  go_enter Tryz.func51, Tryz.ntmps51
  go_wp2_with (first
    | (at_builtin; refine wpList_append_new _ rfl _ _ 87 rfl 9 i0 (.string ⟨#[]⟩) 1 16 Tryz.underlying87 hi hz0 hz1 hz2 rfl (by decide) rfl A 4 c rs4 rfl H.out rs4_one (by unfold maxLen; omega) (by omega) ?_; intro v1 w1 own1 b1; obtain ⟨A1, c1, rfl, -⟩ := SlA.owned own1; have HO := hid own1; have HB := hid b1; clear own1 b1)
    | fail)
  go_ret
  exact ⟨w1.heap.size, .slice A1 4 c1, rfl, ⟨⟨rfl, .inr ⟨w1.heap.size, 1, _, rfl, HB.out.size, heap_alloc_new w1 _, Nat.le_refl _, by decide, rfl, by simp⟩⟩, HO.out.alloc _, fun e => by have := (HO.out.lt _ e).2; omega⟩, HB.out.alloc HB.out.size _⟩
end Go.Proofs.YtadbgmfdbahcbaaGreatDoor
