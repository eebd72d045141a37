/- Arguments opened: what the walk is told of a value that can be read. Of no program. -/
import Derived.Test.YtkgobglmkhkbbaaGreatDoorK1
import Derived.ProofKit
import Derived.OpenShut
import Derived.ShutString
import Derived.ChangeOld
import Derived.Deep.Slices
import Derived.Deep.Fields
namespace Go.KK
open Go.ChangeShapes Go.WideShapes Go.ChangeAt Go.RowKit Go.Deep
set_option linter.unusedVariables false
set_option linter.unusedSimpArgs false

section
variable {H : Type} {enc : TypeId × Value → H} {P : Program} {w : World} {base : Nat} {spare : Nat → Bool} {held : Bool}
/-- A slice of integers that came in. -/
theorem opens_ints {r : Reach} {b0 : Nat} {t e : TypeId} {k : IntKind} {v : Value} {d : DataW H} {p : List MemPlace} (ht : P.underlying t = some (.slice e)) (he : P.underlying e = some (.int k)) (hc : P.cellsOf e = 1)
    (hv : Value.okWide P w r b0 t v) (h : DataW.Trod enc P w base spare held t v d p) :
    ∃ (A : Option Addr) (n c : Nat) (l : List Int), v = .slice A n c ∧ SlA w 1 A n c (l.map (Value.int k)) ∧ ∀ x ∈ l, (Lit.int k x).wf = true := by
  obtain ⟨A, n, c, rfl⟩ := okWide_slice ht hv
  obtain ⟨fuel, hf⟩ := h
  rcases open_ints ht he hc hf with ⟨hcs, _⟩ | ⟨x, l, c', zs, hcs, _, hl, hm, hz, _, hcell, hwz⟩
  · simp [Value.cells] at hcs
    obtain ⟨rfl, rfl, rfl⟩ := hcs
    exact ⟨_, _, _, [], rfl, SlA.nil _ _, by simp⟩
  · simp [Value.cells] at hcs
    obtain ⟨rfl, rfl, rfl⟩ := hcs
    have hzl : n ≤ zs.length := by rw [hz]; split <;> omega
    refine ⟨_, _, _, zs.take n, rfl, ⟨hl, hm, by simp; omega, fun j u hj => ?_⟩, fun y hy => hwz y (List.mem_of_mem_take hy)⟩
    rw [List.getElem?_map, List.getElem?_take] at hj
    split at hj
    · rename_i hjn
      have hc := hcell j (by omega)
      have hjl : j < zs.length := by omega
      rw [List.getElem?_eq_getElem hjl] at hj
      simp only [Option.map_some, Option.some.injEq] at hj
      obtain ⟨b, off, spot⟩ := x
      have hs : spot = none ∨ 0 < j := by
        rcases Nat.eq_zero_or_pos j with h0 | h0
        · subst h0
          left
          have := World.cell?_spot hc
          simpa [Addr.add] using this
        · exact .inr h0
      have h0 := hcell 0 (by omega)
      have hspot : spot = none := by simpa [Addr.add] using World.cell?_spot h0
      subst hspot
      refine ⟨b, off, rfl, ?_⟩
      rw [add_lit] at hc
      rw [hc, ← hj, List.getD, List.getElem?_eq_getElem hjl]
      rfl
    · cases hj

def intV : Value → Int
  | .int _ n => n
  | _ => 0
/-- A struct of integers, by value. -/
theorem opens_struct_ints {r : Reach} {b0 : Nat} {t ti : TypeId} {fs : Array Field} {v : Value} {d : DataW H} {p : List MemPlace} (hs : P.underlying t = some (.struct fs)) (hone : oneCellFields P fs = true) (hC : P.cellsOf t = fs.size)
    (hT : fs.all (fun f => f.type == ti) = true) (hti : P.underlying ti = some (.int .i64)) (hv : Value.okWide P w r b0 t v) (h : DataW.Trod enc P w base spare held t v d p) :
    ∃ l : List Int, l.length = fs.size ∧ v = .agg (l.map (Value.int .i64)).toArray ∧ ∀ x ∈ l, (Lit.int .i64 x).wf = true := by
  obtain ⟨cs, rfl, hsz⟩ := okWide_struct hs hv
  obtain ⟨l⟩ := cs
  have hsz' : l.length = fs.size := by simpa using hsz.trans hC
  obtain ⟨fuel, hf⟩ := h
  obtain ⟨xs, n, _, hx, _, hlen, hg⟩ := DataW.trod_struct hs hf
  have each : ∀ j (hj : j < l.length), ∃ a, l[j] = Value.int .i64 a ∧ (Lit.int .i64 a).wf = true := by
    intro j hj
    have hfj : fs[j]? = some fs[j] := Array.getElem?_eq_getElem (by omega)
    obtain ⟨ho, hk⟩ := hone_of hone j fs[j] hfj
    have h1 := hg j fs[j] hfj
    rw [ho, hk] at h1
    have ht : fs[j].type = ti := by
      have := Array.all_eq_true.1 hT j (by omega)
      simpa using this
    have hcell : (((Value.agg ⟨l⟩).cells.toList.drop j).take 1) = [l[j]] := by
      show (l.drop j).take 1 = _
      rw [List.drop_eq_getElem_cons hj]; rfl
    rw [hcell, ht] at h1
    have hy : xs[j]? = some (xs[j]'(by omega)) := List.getElem?_eq_getElem _
    obtain ⟨a, ha, _, hw⟩ := DataW.trod_int hti (h1.trans hy)
    injection ha with ha
    exact ⟨a, ha, hw⟩
  refine ⟨l.map intV, by simpa using hsz', ?_, ?_⟩
  · congr 2
    apply List.ext_getElem
    · simp
    · intro j h1 h2
      obtain ⟨a, ha, _⟩ := each j h1
      simp [ha, intV]
  · intro x hx
    obtain ⟨v, hv, rfl⟩ := List.mem_map.1 hx
    obtain ⟨j, hj, rfl⟩ := List.getElem_of_mem hv
    obtain ⟨a, ha, hw⟩ := each j hj
    rw [ha]
    exact hw
end
end Go.KK
