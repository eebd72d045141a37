import Derived.Test.YtfmkniakfgpgjaaDoorY01
import Derived.ProofKit
import Derived.OpenShut
import Derived.ShutString
import Derived.ChangeOld
import Derived.Deep.Slices
import Derived.Deep.Fields
/- Arguments opened: what the walk is told of a value that can be read. Of no program. -/
namespace Go.KK
open Go.ChangeShapes Go.WideShapes Go.ChangeAt Go.RowKit Go.Deep
set_option linter.unusedVariables false
set_option linter.unusedSimpArgs false

section
variable {H : Type} {enc : TypeId × Value → H} {P : Program} {w : World} {base : Nat} {spare : Nat → Bool} {held : Bool}
def intV : Value → Int
  | .int _ n => n
  | _ => 0
end
end Go.KK

/- the entry of a law: a row of records of numbers that came in. -/
namespace Go.KK
open Go.ChangeShapes Go.WideShapes Go.ChangeAt Go.RowKit Go.Deep
set_option linter.unusedVariables false
set_option linter.unusedSimpArgs false

section
variable {H : Type} {enc : TypeId × Value → H} {P : Program} {w : World} {base : Nat} {spare : Nat → Bool} {held : Bool}
theorem trod_rec {fuel : Nat} {t ti : TypeId} {fs : Array Field} {cs : List Value} {y : DataW H × List MemPlace} (hs : P.underlying t = some (.struct fs)) (hone : oneCellFields P fs = true) (hC : P.cellsOf t = fs.size)
    (hT : fs.all (fun f => f.type == ti) = true) (hti : P.underlying ti = some (.int .i64)) (hf : DataW.trod enc P w base spare held fuel t cs = some y) : ∃ l : List Int, l.length = fs.size ∧ cs = l.map (Value.int .i64) ∧ ∀ x ∈ l, (Lit.int .i64 x).wf = true := by
  obtain ⟨xs, n, _, hx, hsz, hlen, hg⟩ := DataW.trod_struct hs hf
  have hsz' : cs.length = fs.size := by first | omega | exact hsz.trans hC
  have each : ∀ j (hj : j < cs.length), ∃ a, cs[j] = Value.int .i64 a ∧ (Lit.int .i64 a).wf = true := by
    intro j hj
    have hfj : fs[j]? = some fs[j] := Array.getElem?_eq_getElem (by omega)
    obtain ⟨ho, hk⟩ := hone_of hone j fs[j] hfj
    have h1 := hg j fs[j] hfj
    rw [ho, hk] at h1
    have ht : fs[j].type = ti := by
      have := Array.all_eq_true.1 hT j (by omega)
      simpa using this
    have hcell : ((cs.drop j).take 1) = [cs[j]] := by rw [List.drop_eq_getElem_cons hj]; rfl
    rw [hcell, ht] at h1
    have hy : xs[j]? = some (xs[j]'(by omega)) := List.getElem?_eq_getElem _
    obtain ⟨a, ha, _, hw⟩ := DataW.trod_int hti (h1.trans hy)
    injection ha with ha
    exact ⟨a, ha, hw⟩
  refine ⟨cs.map intV, by simpa using hsz', ?_, ?_⟩
  · apply List.ext_getElem
    · simp
    · intro j h1 h2
      obtain ⟨a, ha, _⟩ := each j h1
      simp [ha, intV]
  · intro x hx
    obtain ⟨v, hv, rfl⟩ := List.mem_map.1 hx
    obtain ⟨j, hj, rfl⟩ := List.getElem_of_mem hv
    obtain ⟨a, ha, hw⟩ := each j hj
    rw [ha]
    exact hw
theorem chooseL {α : Type} {Q : Nat → α → Prop} : ∀ (n : Nat), (∀ j, j < n → ∃ x, Q j x) → ∃ l : List α, l.length = n ∧ ∀ j x, l[j]? = some x → Q j x
  | 0, _ => ⟨[], rfl, fun j x h => by simp at h⟩
  | n + 1, h => by
    obtain ⟨l, hl, hq⟩ := chooseL n (fun j hj => h j (by omega))
    obtain ⟨x, hx⟩ := h n (by omega)
    refine ⟨l ++ [x], by simp [hl], fun j y hy => ?_⟩
    by_cases hj : j < n
    · rw [List.getElem?_append_left (by omega)] at hy
      exact hq j y hy
    · by_cases hjn : j = n
      · subst hjn
        rw [List.getElem?_append_right (by omega), hl, Nat.sub_self] at hy
        injection hy with hy
        rw [← hy]; exact hx
      · rw [List.getElem?_eq_none (by simp; omega)] at hy; cases hy
/-- A row of records of k numbers that came in: its cells, record behind record. -/
theorem opens_recs {r : Reach} {b0 k : Nat} {tt t : TypeId} {v : Value} {d : DataW H} {p : List MemPlace} (htt : P.underlying tt = some (.slice t)) (hC : P.cellsOf t = k) (hk : 0 < k)
    (ht : ∀ fuel cs (y : DataW H × List MemPlace), DataW.trod enc P w base spare held fuel t cs = some y → ∃ l : List Int, l.length = k ∧ cs = l.map (Value.int .i64) ∧ ∀ x ∈ l, (Lit.int .i64 x).wf = true)
    (hv : Value.okWide P w r b0 tt v) (h : DataW.Trod enc P w base spare held tt v d p) :
    ∃ (A : Option Addr) (n c : Nat) (ls : List (List Int)), v = .slice A n c ∧ SlA w k A n c ((ls.flatten).map (Value.int .i64)) ∧ ls.length = n ∧ ∀ l ∈ ls, l.length = k ∧ ∀ x ∈ l, (Lit.int .i64 x).wf = true := by
  obtain ⟨A, n, c, rfl⟩ := okWide_slice htt hv
  obtain ⟨fuel, hf⟩ := h
  rcases open_slice htt hf with ⟨hcs, _⟩ | ⟨a, len, cap, m, n', D, Pl, hcs, _, hl, hm, hmm, _, hi⟩
  · simp [Value.cells] at hcs
    obtain ⟨rfl, rfl, rfl⟩ := hcs
    exact ⟨_, _, _, [], rfl, SlA.nil _ _, rfl, by simp⟩
  · simp [Value.cells] at hcs
    obtain ⟨rfl, rfl, rfl⟩ := hcs
    have hnm : n ≤ m := by rw [hmm]; split <;> omega
    rw [hC] at hi
    have each : ∀ j, j < n → ∃ l : List Int, (∀ i, i < k → w.cell? (a.add (j * k + i)) = (l.map (Value.int .i64))[i]?) ∧ l.length = k ∧ ∀ x ∈ l, (Lit.int .i64 x).wf = true := by
      intro j hj
      obtain ⟨cs', hc, htr⟩ := hi j (by omega)
      obtain ⟨l, h1, h2, h3⟩ := ht _ _ _ htr
      obtain ⟨_, _, hat⟩ := World.cells?_some hc
      refine ⟨l, fun i hik => ?_, h1, h3⟩
      rw [← Go.Deep.add_add, hat i hik, h2]
    obtain ⟨ls, hll, hq⟩ := chooseL n each
    have hlen : ∀ l ∈ ls, l.length = k := fun l hl => by
      obtain ⟨j, hj, rfl⟩ := List.getElem_of_mem hl
      exact (hq j _ (List.getElem?_eq_getElem hj)).2.1
    have hfl : ls.flatten.length = n * k := by rw [flat_len k ls hlen, hll]
    refine ⟨_, _, _, ls, rfl, ⟨hl, hm, by rw [List.length_map, hfl], fun i u hu => ?_⟩, hll, fun l hl => ?_⟩
    · have hil : i < n * k := by
        rcases Nat.lt_or_ge i (n * k) with hh | hh
        · exact hh
        · rw [List.getElem?_eq_none (by rw [List.length_map, hfl]; exact hh)] at hu; cases hu
      have hjn : i / k < n := Nat.div_lt_of_lt_mul (by rw [Nat.mul_comm]; exact hil)
      have hik : i % k < k := Nat.mod_lt _ hk
      have hjl : i / k < ls.length := by rw [hll]; exact hjn
      have hlj : ls[i / k]? = some (ls[i / k]'hjl) := List.getElem?_eq_getElem _
      have hdm : i / k * k + i % k = i := by have := Nat.div_add_mod i k; rw [Nat.mul_comm] at this; exact this
      obtain ⟨b, off, spot⟩ := a
      have hget : ∀ j i' (hj : j < n) (_ : i' < k), ∃ y, (ls.flatten)[j * k + i']? = some y ∧ w.cell? ((⟨b, off, spot⟩ : Addr).add (j * k + i')) = some (.int .i64 y) := by
        intro j i' hj hi'
        have hlj : ls[j]? = some (ls[j]'(by omega)) := List.getElem?_eq_getElem _
        have h1 := (hq j _ hlj).1 i' hi'
        have h2 := (hq j _ hlj).2.1
        have hy : (ls[j]'(by omega))[i']? = some ((ls[j]'(by omega))[i']'(by omega)) := List.getElem?_eq_getElem _
        rw [List.getElem?_map, hy] at h1
        exact ⟨_, (flat_get k ls j i' _ hlen hlj hi').trans hy, h1⟩
      obtain ⟨y0, _, c0⟩ := hget 0 0 (Nat.lt_of_le_of_lt (Nat.zero_le _) hjn) hk
      have hspot : spot = none := by
        simp only [Nat.zero_mul, Nat.add_zero] at c0
        simpa [Addr.add] using World.cell?_spot c0
      subst hspot
      obtain ⟨y, hy, hc⟩ := hget (i / k) (i % k) hjn hik
      rw [hdm] at hy hc
      refine ⟨b, off, rfl, ?_⟩
      rw [add_lit] at hc
      rw [List.getElem?_map, hy] at hu
      rw [hc, ← hu]; rfl
    · obtain ⟨j, hj, rfl⟩ := List.getElem_of_mem hl
      exact ⟨hlen _ (List.getElem_mem hj), (hq j _ (List.getElem?_eq_getElem hj)).2.2⟩
/-- The records as triples. -/
theorem triples : ∀ {ls : List (List Int)}, (∀ l ∈ ls, l.length = 3 ∧ ∀ x ∈ l, (Lit.int .i64 x).wf = true) → ∃ os : List (Int × Int × Int), os.length = ls.length ∧ (ls.flatten).map (Value.int .i64) = (os.flatMap fun o => [Value.int .i64 o.1, .int .i64 o.2.1, .int .i64 o.2.2]) ∧ ∀ o ∈ os, (Lit.int .i64 o.1).wf = true ∧ (Lit.int .i64 o.2.1).wf = true ∧ (Lit.int .i64 o.2.2).wf = true
  | [], _ => ⟨[], rfl, rfl, by simp⟩
  | l :: ls, h => by
    obtain ⟨os, h1, h2, h3⟩ := triples (ls := ls) fun l hl => h l (by simp [hl])
    obtain ⟨hl, hw⟩ := h l (by simp)
    match l, hl, hw with
    | [a, b, c], _, hw =>
      refine ⟨(a, b, c) :: os, by simp [h1], by rw [List.flatten_cons, List.map_append, h2]; rfl, fun o ho => ?_⟩
      rcases List.mem_cons.1 ho with e | ho
      · subst e; exact ⟨hw a (by simp), hw b (by simp), hw c (by simp)⟩
      · exact h3 o ho
end
end Go.KK

