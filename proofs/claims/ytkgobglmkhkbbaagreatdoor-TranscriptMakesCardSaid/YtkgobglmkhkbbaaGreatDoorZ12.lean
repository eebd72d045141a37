import Derived.Test.YtkgobglmkhkbbaaGreatDoorZ01
import Derived.ProofKit
import Derived.OpenShut
import Derived.ShutString
import Derived.ChangeOld
import Derived.Deep.Slices
import Derived.Deep.Fields
import Derived.Test.YtkgobglmkhkbbaaGreatDoorZ09
import Derived.Test.YtkgobglmkhkbbaaGreatDoorZ02
import Derived.Lib.ConvBytes
import Derived.Laws.AppendOwn
import Derived.Test.YtkgobglmkhkbbaaGreatDoorZ04
import Derived.Deep.WholeRow
/- Arguments opened: what the walk is told of a value that can be read. Of no program. -/
namespace Go.KK
open Go.ChangeShapes Go.WideShapes Go.ChangeAt Go.RowKit Go.Deep
set_option linter.unusedVariables false
set_option linter.unusedSimpArgs false

section
variable {H : Type} {enc : TypeId × Value → H} {P : Program} {w : World} {base : Nat} {spare : Nat → Bool} {held : Bool}
/-- A slice of integers that came in. -/
theorem opens_ints {r : Reach} {b0 : Nat} {t e : TypeId} {k : IntKind} {v : Value} {d : DataW H} {p : List MemPlace} (ht : P.underlying t = some (.slice e)) (he : P.underlying e = some (.int k)) (hc : P.cellsOf e = 1)
    (hv : Value.okWide P w r b0 t v) (h : DataW.Trod enc P w base spare held t v d p) :
    ∃ (A : Option Addr) (n c : Nat) (l : List Int), v = .slice A n c ∧ SlA w 1 A n c (l.map (Value.int k)) ∧ ∀ x ∈ l, (Lit.int k x).wf = true := by
  obtain ⟨A, n, c, rfl⟩ := okWide_slice ht hv
  obtain ⟨fuel, hf⟩ := h
  rcases open_ints ht he hc hf with ⟨hcs, _⟩ | ⟨x, l, c', zs, hcs, _, hl, hm, hz, _, hcell, hwz⟩
  · simp [Value.cells] at hcs
    obtain ⟨rfl, rfl, rfl⟩ := hcs
    exact ⟨_, _, _, [], rfl, SlA.nil _ _, by simp⟩
  · simp [Value.cells] at hcs
    obtain ⟨rfl, rfl, rfl⟩ := hcs
    have hzl : n ≤ zs.length := by rw [hz]; split <;> omega
    refine ⟨_, _, _, zs.take n, rfl, ⟨hl, hm, by simp; omega, fun j u hj => ?_⟩, fun y hy => hwz y (List.mem_of_mem_take hy)⟩
    rw [List.getElem?_map, List.getElem?_take] at hj
    split at hj
    · rename_i hjn
      have hc := hcell j (by omega)
      have hjl : j < zs.length := by omega
      rw [List.getElem?_eq_getElem hjl] at hj
      simp only [Option.map_some, Option.some.injEq] at hj
      obtain ⟨b, off, spot⟩ := x
      have hs : spot = none ∨ 0 < j := by
        rcases Nat.eq_zero_or_pos j with h0 | h0
        · subst h0
          left
          have := World.cell?_spot hc
          simpa [Addr.add] using this
        · exact .inr h0
      have h0 := hcell 0 (by omega)
      have hspot : spot = none := by simpa [Addr.add] using World.cell?_spot h0
      subst hspot
      refine ⟨b, off, rfl, ?_⟩
      rw [add_lit] at hc
      rw [hc, ← hj, List.getD, List.getElem?_eq_getElem hjl]
      rfl
    · cases hj

def intV : Value → Int
  | .int _ n => n
  | _ => 0
/-- A struct of integers, by value. -/
theorem opens_struct_ints {r : Reach} {b0 : Nat} {t ti : TypeId} {fs : Array Field} {v : Value} {d : DataW H} {p : List MemPlace} (hs : P.underlying t = some (.struct fs)) (hone : oneCellFields P fs = true) (hC : P.cellsOf t = fs.size)
    (hT : fs.all (fun f => f.type == ti) = true) (hti : P.underlying ti = some (.int .i64)) (hv : Value.okWide P w r b0 t v) (h : DataW.Trod enc P w base spare held t v d p) :
    ∃ l : List Int, l.length = fs.size ∧ v = .agg (l.map (Value.int .i64)).toArray ∧ ∀ x ∈ l, (Lit.int .i64 x).wf = true := by
  obtain ⟨cs, rfl, hsz⟩ := okWide_struct hs hv
  obtain ⟨l⟩ := cs
  have hsz' : l.length = fs.size := by simpa using hsz.trans hC
  obtain ⟨fuel, hf⟩ := h
  obtain ⟨xs, n, _, hx, _, hlen, hg⟩ := DataW.trod_struct hs hf
  have each : ∀ j (hj : j < l.length), ∃ a, l[j] = Value.int .i64 a ∧ (Lit.int .i64 a).wf = true := by
    intro j hj
    have hfj : fs[j]? = some fs[j] := Array.getElem?_eq_getElem (by omega)
    obtain ⟨ho, hk⟩ := hone_of hone j fs[j] hfj
    have h1 := hg j fs[j] hfj
    rw [ho, hk] at h1
    have ht : fs[j].type = ti := by
      have := Array.all_eq_true.1 hT j (by omega)
      simpa using this
    have hcell : (((Value.agg ⟨l⟩).cells.toList.drop j).take 1) = [l[j]] := by
      show (l.drop j).take 1 = _
      rw [List.drop_eq_getElem_cons hj]; rfl
    rw [hcell, ht] at h1
    have hy : xs[j]? = some (xs[j]'(by omega)) := List.getElem?_eq_getElem _
    obtain ⟨a, ha, _, hw⟩ := DataW.trod_int hti (h1.trans hy)
    injection ha with ha
    exact ⟨a, ha, hw⟩
  refine ⟨l.map intV, by simpa using hsz', ?_, ?_⟩
  · congr 2
    apply List.ext_getElem
    · simp
    · intro j h1 h2
      obtain ⟨a, ha, _⟩ := each j h1
      simp [ha, intV]
  · intro x hx
    obtain ⟨v, hv, rfl⟩ := List.mem_map.1 hx
    obtain ⟨j, hj, rfl⟩ := List.getElem_of_mem hv
    obtain ⟨a, ha, hw⟩ := each j hj
    rw [ha]
    exact hw
end
end Go.KK

/- the entry of a law: an array of numbers, a row of arrays of numbers that came in. -/
namespace Go.KK
open Go.ChangeShapes Go.WideShapes Go.ChangeAt Go.RowKit Go.Deep
set_option linter.unusedVariables false
set_option linter.unusedSimpArgs false

section
variable {H : Type} {enc : TypeId × Value → H} {P : Program} {w : World} {base : Nat} {spare : Nat → Bool} {held : Bool}
theorem trod_arr {fuel n : Nat} {t e : TypeId} {cs : List Value} {y : DataW H × List MemPlace} (ht : P.underlying t = some (.array n e)) (hC : P.cellsOf t = n) (hce : P.cellsOf e = 1) (he : P.underlying e = some (.int .i64))
    (h : DataW.trod enc P w base spare held fuel t cs = some y) : ∃ l : List Int, l.length = n ∧ cs = l.map (Value.int .i64) ∧ ∀ x ∈ l, (Lit.int .i64 x).wf = true := by
  obtain ⟨xs, m, _, _, hlen, hxl, hg⟩ := DataW.trod_array ht h
  rw [hC] at hlen
  rw [hce] at hg
  have each : ∀ j (hj : j < cs.length), ∃ a, cs[j] = Value.int .i64 a ∧ (Lit.int .i64 a).wf = true := by
    intro j hj
    have h1 := hg j (by omega)
    have hcell : (cs.drop (j * 1)).take 1 = [cs[j]] := by
      rw [Nat.mul_one, List.drop_eq_getElem_cons hj]; rfl
    rw [hcell] at h1
    obtain ⟨a, ha, _, hw⟩ := DataW.trod_int he (h1.trans (List.getElem?_eq_getElem (by omega)))
    injection ha with ha
    exact ⟨a, ha, hw⟩
  refine ⟨cs.map intV, by simpa using hlen, ?_, ?_⟩
  · apply List.ext_getElem
    · simp
    · intro j h1 h2
      obtain ⟨a, ha, _⟩ := each j h1
      simp [ha, intV]
  · intro x hx
    obtain ⟨v, hv, rfl⟩ := List.mem_map.1 hx
    obtain ⟨j, hj, rfl⟩ := List.getElem_of_mem hv
    obtain ⟨a, ha, hw⟩ := each j hj
    rw [ha]
    exact hw
/-- An array of numbers that came in. -/
theorem opens_arr {r : Reach} {b0 n : Nat} {t e : TypeId} {v : Value} {d : DataW H} {p : List MemPlace} (ht : P.underlying t = some (.array n e)) (hC : P.cellsOf t = n) (hce : P.cellsOf e = 1) (he : P.underlying e = some (.int .i64))
    (hv : Value.okWide P w r b0 t v) (h : DataW.Trod enc P w base spare held t v d p) : ∃ l : List Int, l.length = n ∧ v = .agg (l.map (Value.int .i64)).toArray ∧ ∀ x ∈ l, (Lit.int .i64 x).wf = true := by
  simp only [Value.okWide, ht] at hv
  obtain ⟨cs, rfl, -, -⟩ := hv
  obtain ⟨fuel, hf⟩ := h
  obtain ⟨l, h1, h2, h3⟩ := trod_arr ht hC hce he hf
  refine ⟨l, h1, ?_, h3⟩
  obtain ⟨cl⟩ := cs
  have : cl = l.map (Value.int .i64) := h2
  rw [this]
theorem five_of {l : List Int} (h : l.length = 5) : ∃ a b c d e, l = [a, b, c, d, e] := by
  match l, h with
  | [a, b, c, d, e], _ => exact ⟨a, b, c, d, e, rfl⟩
theorem chooseL {α : Type} {Q : Nat → α → Prop} : ∀ (n : Nat), (∀ j, j < n → ∃ x, Q j x) → ∃ l : List α, l.length = n ∧ ∀ j x, l[j]? = some x → Q j x
  | 0, _ => ⟨[], rfl, fun j x h => by simp at h⟩
  | n + 1, h => by
    obtain ⟨l, hl, hq⟩ := chooseL n (fun j hj => h j (by omega))
    obtain ⟨x, hx⟩ := h n (by omega)
    refine ⟨l ++ [x], by simp [hl], fun j y hy => ?_⟩
    by_cases hj : j < n
    · rw [List.getElem?_append_left (by omega)] at hy
      exact hq j y hy
    · by_cases hjn : j = n
      · subst hjn
        rw [List.getElem?_append_right (by omega), hl, Nat.sub_self] at hy
        injection hy with hy
        rw [← hy]; exact hx
      · rw [List.getElem?_eq_none (by simp; omega)] at hy; cases hy
/-- A row of arrays of k numbers that came in: its cells, row behind row. -/
theorem opens_arrs {r : Reach} {b0 k : Nat} {tt t e : TypeId} {v : Value} {d : DataW H} {p : List MemPlace} (htt : P.underlying tt = some (.slice t)) (ht : P.underlying t = some (.array k e)) (hC : P.cellsOf t = k) (hk : 0 < k) (hce : P.cellsOf e = 1) (he : P.underlying e = some (.int .i64))
    (hv : Value.okWide P w r b0 tt v) (h : DataW.Trod enc P w base spare held tt v d p) :
    ∃ (A : Option Addr) (n c : Nat) (ls : List (List Int)), v = .slice A n c ∧ SlA w k A n c ((ls.flatten).map (Value.int .i64)) ∧ ls.length = n ∧ ∀ l ∈ ls, l.length = k ∧ ∀ x ∈ l, (Lit.int .i64 x).wf = true := by
  obtain ⟨A, n, c, rfl⟩ := okWide_slice htt hv
  obtain ⟨fuel, hf⟩ := h
  rcases open_slice htt hf with ⟨hcs, _⟩ | ⟨a, len, cap, m, n', D, Pl, hcs, _, hl, hm, hmm, _, hi⟩
  · simp [Value.cells] at hcs
    obtain ⟨rfl, rfl, rfl⟩ := hcs
    exact ⟨_, _, _, [], rfl, SlA.nil _ _, rfl, by simp⟩
  · simp [Value.cells] at hcs
    obtain ⟨rfl, rfl, rfl⟩ := hcs
    have hnm : n ≤ m := by rw [hmm]; split <;> omega
    rw [hC] at hi
    have each : ∀ j, j < n → ∃ l : List Int, (∀ i, i < k → w.cell? (a.add (j * k + i)) = (l.map (Value.int .i64))[i]?) ∧ l.length = k ∧ ∀ x ∈ l, (Lit.int .i64 x).wf = true := by
      intro j hj
      obtain ⟨cs', hc, htr⟩ := hi j (by omega)
      obtain ⟨l, h1, h2, h3⟩ := trod_arr ht hC hce he htr
      obtain ⟨_, _, hat⟩ := World.cells?_some hc
      refine ⟨l, fun i hik => ?_, h1, h3⟩
      rw [← Go.Deep.add_add, hat i hik, h2]
    obtain ⟨ls, hll, hq⟩ := chooseL n each
    have hlen : ∀ l ∈ ls, l.length = k := fun l hl => by
      obtain ⟨j, hj, rfl⟩ := List.getElem_of_mem hl
      exact (hq j _ (List.getElem?_eq_getElem hj)).2.1
    have hfl : ls.flatten.length = n * k := by rw [flat_len k ls hlen, hll]
    refine ⟨_, _, _, ls, rfl, ⟨hl, hm, by rw [List.length_map, hfl], fun i u hu => ?_⟩, hll, fun l hl => ?_⟩
    · have hil : i < n * k := by
        rcases Nat.lt_or_ge i (n * k) with hh | hh
        · exact hh
        · rw [List.getElem?_eq_none (by rw [List.length_map, hfl]; exact hh)] at hu; cases hu
      have hjn : i / k < n := Nat.div_lt_of_lt_mul (by rw [Nat.mul_comm]; exact hil)
      have hik : i % k < k := Nat.mod_lt _ hk
      have hjl : i / k < ls.length := by rw [hll]; exact hjn
      have hlj : ls[i / k]? = some (ls[i / k]'hjl) := List.getElem?_eq_getElem _
      have hdm : i / k * k + i % k = i := by have := Nat.div_add_mod i k; rw [Nat.mul_comm] at this; exact this
      obtain ⟨b, off, spot⟩ := a
      have hget : ∀ j i' (hj : j < n) (_ : i' < k), ∃ y, (ls.flatten)[j * k + i']? = some y ∧ w.cell? ((⟨b, off, spot⟩ : Addr).add (j * k + i')) = some (.int .i64 y) := by
        intro j i' hj hi'
        have hlj : ls[j]? = some (ls[j]'(by omega)) := List.getElem?_eq_getElem _
        have h1 := (hq j _ hlj).1 i' hi'
        have h2 := (hq j _ hlj).2.1
        have hy : (ls[j]'(by omega))[i']? = some ((ls[j]'(by omega))[i']'(by omega)) := List.getElem?_eq_getElem _
        rw [List.getElem?_map, hy] at h1
        exact ⟨_, (flat_get k ls j i' _ hlen hlj hi').trans hy, h1⟩
      obtain ⟨y0, _, c0⟩ := hget 0 0 (Nat.lt_of_le_of_lt (Nat.zero_le _) hjn) hk
      have hspot : spot = none := by
        simp only [Nat.zero_mul, Nat.add_zero] at c0
        simpa [Addr.add] using World.cell?_spot c0
      subst hspot
      obtain ⟨y, hy, hc⟩ := hget (i / k) (i % k) hjn hik
      rw [hdm] at hy hc
      refine ⟨b, off, rfl, ?_⟩
      rw [add_lit] at hc
      rw [List.getElem?_map, hy] at hu
      rw [hc, ← hu]; rfl
    · obtain ⟨j, hj, rfl⟩ := List.getElem_of_mem hl
      exact ⟨hlen _ (List.getElem_mem hj), (hq j _ (List.getElem?_eq_getElem hj)).2.2⟩
end
end Go.KK

/- transcript over the law's arena: Chain. -/
namespace Go.KK
open Go.RowKit
set_option linter.unusedVariables false
set_option linter.unusedSimpArgs false

theorem chT_stuck {st : Cs} (h : st.2.2.2 ≠ 0) : ∀ l : List (Int × Int × Int), l.foldl chT st = st
  | [] => rfl
  | m :: l => by
    show l.foldl chT (chT st m) = st
    have : chT st m = st := by unfold chT; rw [if_neg h]
    rw [this]
    exact chT_stuck h l
theorem ch_one {xs : List ND} {start : Int} {L : List (Int × Int × Int)} {j : Nat} {m : Int × Int × Int} (h : L[j]? = some m) : chF xs start (L.take (j + 1)) = chT (chF xs start (L.take j)) m := by
  rw [take_one h, ch_snoc]
theorem ch_stuck {xs : List ND} {start : Int} {L : List (Int × Int × Int)} {j : Nat} {m : Int × Int × Int} (hm : L[j]? = some m) {st : Cs} (h : chT (chF xs start (L.take j)) m = st) (he : st.2.2.2 ≠ 0) : chF xs start L = st := by
  have e : L = L.take (j + 1) ++ L.drop (j + 1) := (List.take_append_drop _ L).symm
  conv => lhs; rw [e]
  unfold chF
  rw [List.foldl_append]
  have := ch_one (xs := xs) (start := start) hm
  unfold chF at this
  rw [this]
  unfold chF at h
  rw [h]
  exact chT_stuck he _
theorem chT_e1 {st : Cs} {m : Int × Int × Int} {R1 : Rs} (h0 : st.2.2.2 = 0) (h1 : hsF st.1 [st.2.1, m.1, m.2.1] = R1) (e1 : R1.2.2 ≠ 0) : chT st m = (R1.1, 0, [], R1.2.2) := by
  have : chS st.1 st.2.1 m = (R1.1, (0, 0), R1.2.2) := by unfold chS; rw [h1, if_neg e1]
  unfold chT
  rw [if_pos h0, this]
  dsimp only
  rw [if_neg e1]
theorem chT_e2 {st : Cs} {m : Int × Int × Int} {R1 R2 : Rs} (h0 : st.2.2.2 = 0) (h1 : hsF st.1 [st.2.1, m.1, m.2.1] = R1) (e1 : R1.2.2 = 0) (h2 : tgF R1.1 m.2.2 R1.2.1 = R2) (e2 : R2.2.2 ≠ 0) : chT st m = (R2.1, 0, [], R2.2.2) := by
  have : chS st.1 st.2.1 m = (R2.1, (0, 0), R2.2.2) := by unfold chS; rw [h1, if_pos e1, h2, if_neg e2]
  unfold chT
  rw [if_pos h0, this]
  dsimp only
  rw [if_neg e2]
theorem chS_3 {X : List ND} {s : Int} {m : Int × Int × Int} {R1 R2 R3 : Rs} (h1 : hsF X [s, m.1, m.2.1] = R1) (e1 : R1.2.2 = 0) (h2 : tgF R1.1 m.2.2 R1.2.1 = R2) (e2 : R2.2.2 = 0) (h3 : hsF R2.1 [R1.2.1, R2.2.1] = R3) : chS X s m = (R3.1, (R1.2.1, R3.2.1), R3.2.2) := by
  unfold chS; rw [h1, if_pos e1, h2, if_pos e2, h3]
theorem chT_e3 {st : Cs} {m : Int × Int × Int} {R1 R2 R3 : Rs} (h0 : st.2.2.2 = 0) (h1 : hsF st.1 [st.2.1, m.1, m.2.1] = R1) (e1 : R1.2.2 = 0) (h2 : tgF R1.1 m.2.2 R1.2.1 = R2) (e2 : R2.2.2 = 0) (h3 : hsF R2.1 [R1.2.1, R2.2.1] = R3) (e3 : R3.2.2 ≠ 0) : chT st m = (R3.1, 0, [], R3.2.2) := by
  unfold chT
  rw [if_pos h0, chS_3 h1 e1 h2 e2 h3]
  dsimp only
  rw [if_neg e3]
theorem chT_go {st : Cs} {m : Int × Int × Int} {R1 R2 R3 : Rs} (h0 : st.2.2.2 = 0) (h1 : hsF st.1 [st.2.1, m.1, m.2.1] = R1) (e1 : R1.2.2 = 0) (h2 : tgF R1.1 m.2.2 R1.2.1 = R2) (e2 : R2.2.2 = 0) (h3 : hsF R2.1 [R1.2.1, R2.2.1] = R3) (e3 : R3.2.2 = 0) : chT st m = (R3.1, R3.2.1, st.2.2.1 ++ [R1.2.1], 0) := by
  unfold chT
  rw [if_pos h0, chS_3 h1 e1 h2 e2 h3]
  dsimp only
  rw [if_pos e3]
/-- The numbers of triples, one behind the other. -/
def fl3 (L : List (Int × Int × Int)) : List Int := (L.map fun m => [m.1, m.2.1, m.2.2]).flatten
/-- A row of triples. -/
def Sl3 (W : World) (Z : Nat → Prop) (A : Option Addr) (n c : Nat) (L : List (Int × Int × Int)) : Prop := (SlA W 3 A n c ((fl3 L).map (.int .i64)) ∧ L.length = n) ∧ ∀ b o, A = some ⟨b, o, none⟩ → 0 < n → b < W.heap.size ∧ ¬ Z b
theorem fl3_get {L : List (Int × Int × Int)} {j : Nat} {m : Int × Int × Int} (h : L[j]? = some m) : (fl3 L)[j * 3 + 0]? = some m.1 ∧ (fl3 L)[j * 3 + 1]? = some m.2.1 ∧ (fl3 L)[j * 3 + 2]? = some m.2.2 := by
  have hl : ∀ l ∈ L.map fun m => [m.1, m.2.1, m.2.2], l.length = 3 := fun l hl => by
    obtain ⟨m, -, rfl⟩ := List.mem_map.1 hl; rfl
  have hj : (L.map fun m => [m.1, m.2.1, m.2.2])[j]? = some [m.1, m.2.1, m.2.2] := by rw [List.getElem?_map, h]; rfl
  exact ⟨flat_get 3 _ j 0 _ hl hj (by omega), flat_get 3 _ j 1 _ hl hj (by omega), flat_get 3 _ j 2 _ hl hj (by omega)⟩
theorem Sl3.at {W : World} {Z : Nat → Prop} {A : Option Addr} {n c : Nat} {L : List (Int × Int × Int)} (h : Sl3 W Z A n c L) {j : Nat} (hj : j < n) : ∃ b off m, A = some ⟨b, off, none⟩ ∧ L[j]? = some m ∧ W.cell? ⟨b, off + j * 3, none⟩ = some (.int .i64 m.1) ∧ W.cell? ⟨b, off + j * 3 + 1, none⟩ = some (.int .i64 m.2.1) ∧ W.cell? ⟨b, off + j * 3 + 2, none⟩ = some (.int .i64 m.2.2) := by
  have hm : L[j]? = some (L[j]'(by have := h.1.2; omega)) := List.getElem?_eq_getElem _
  generalize L[j]'(by have := h.1.2; omega) = m at hm
  obtain ⟨g0, g1, g2⟩ := fl3_get hm
  obtain ⟨b, off, rfl, c0⟩ := h.1.1.cells (j * 3 + 0) (.int .i64 m.1) (by rw [List.getElem?_map, g0]; rfl)
  obtain ⟨b1, o1, f1, c1⟩ := h.1.1.cells (j * 3 + 1) (.int .i64 m.2.1) (by rw [List.getElem?_map, g1]; rfl)
  obtain ⟨b2, o2, f2, c2⟩ := h.1.1.cells (j * 3 + 2) (.int .i64 m.2.2) (by rw [List.getElem?_map, g2]; rfl)
  simp only [Option.some.injEq, Addr.mk.injEq, and_true] at f1 f2
  obtain ⟨rfl, rfl⟩ := f1; obtain ⟨rfl, rfl⟩ := f2
  exact ⟨b, off, m, rfl, hm, c0, c1, c2⟩
end Go.KK
namespace Go.Proofs.YtkgobglmkhkbbaaGreatDoor
open Go.RowKit Go.KK Go.Shelf Go.Maps

theorem Sl3.mv {W W' : World} {Z Z' : Nat → Prop} {A : Option Addr} {n c : Nat} {L : List (Int × Int × Int)} (h : Sl3 W Z A n c L) (m : Mv Z W Z' W') : Sl3 W' Z' A n c L := by
  refine ⟨⟨⟨h.1.1.nc, h.1.1.cm, h.1.1.len, fun j u hj => ?_⟩, h.1.2⟩, fun b o e hn => ?_⟩
  · have hjl := (List.getElem?_eq_some_iff.1 hj).1
    have hlen := h.1.1.len
    obtain ⟨b, off, e, hc⟩ := h.1.1.cells j u hj
    have hn : 0 < n := by omega
    obtain ⟨h1, h2⟩ := h.2 b off e hn
    refine ⟨b, off, e, ?_⟩
    rw [World.cell?_of_block (a := ⟨b, off + j, none⟩) (show W'.heap[b]? = W.heap[b]? from m.t.block b h1 h2)]
    exact hc
  · obtain ⟨h1, h2⟩ := h.2 b o e hn
    refine ⟨Nat.lt_of_lt_of_le h1 m.t.size, fun hz => ?_⟩
    rcases m.n b hz with h | h
    · exact h2 h
    · omega
theorem Sl3.of_in {w0 W : World} {Z : Nat → Prop} {sa : Nat} {xs : List ND} {A : Option Addr} {n c : Nat} {L : List (Int × Int × Int)} (h : SlA w0 3 A n c ((fl3 L).map (.int .i64))) (hn : L.length = n) (la : LA w0 W Z sa xs) : Sl3 W Z A n c L := by
  refine ⟨⟨h.ext la.bl, hn⟩, fun b o e hn' => ?_⟩
  obtain ⟨b', o', x, e', -, hc, -⟩ := Sl3.at (Z := fun _ => False) (show Sl3 w0 (fun _ => False) A n c L from ⟨⟨h, hn⟩, fun b o e h' => by
    have hp : (0 : Nat) < ((fl3 L).map (Value.int .i64)).length := by rw [h.len]; omega
    obtain ⟨b1, o1, e1, hc1⟩ := h.cells 0 _ (List.getElem?_eq_getElem hp)
    rw [e] at e1
    injection e1 with e1
    injection e1 with e1 e2
    subst e1
    exact ⟨block_lt_of_cell hc1, fun h => h⟩⟩) hn'
  rw [e] at e'
  injection e' with e'
  injection e' with e1 e2
  subst e1
  have := block_lt_of_cell hc
  exact ⟨Nat.lt_of_lt_of_le this la.sz, fun hz => by have := la.z b hz; simp only at *; omega⟩
/-- A row of numbers of the call's own, beside the arena. -/
structure OwR (W : World) (Z : Nat → Prop) (B : Nat) (v : Value) (l : List Int) : Prop where
  own : W.ownsRow B 3 1 v l.length (l.map (.int .i64))
  nz : ∀ b, v.ownBlock = some b → ¬ Z b
section
variable {w0 W W' : World} {Z Z' : Nat → Prop} {sa B : Nat} {xs xs' : List ND} {v : Value} {l : List Int}
theorem OwR.mv (h : OwR W Z B v l) (m : Mv Z W Z' W') : OwR W' Z' B v l :=
  ⟨own_block h.own fun b e => m.t.block b (h.own.lt b e).2 (h.nz b e), fun b e hz => (m.n b hz).elim (h.nz b e) fun h' => by have := (h.own.lt b e).2; omega⟩
theorem OwR.nil (W : World) (Z : Nat → Prop) (B : Nat) : OwR W Z B (.slice none 0 0) [] := ⟨World.ownsRow_nil _ _ _ _, fun b e => by cases e⟩
theorem OwR.sla (h : OwR W Z B v l) : ∃ A c, v = .slice A l.length c ∧ SlA W 1 A l.length c (l.map (.int .i64)) := SlA.owned h.own
/-- Behind an append to such a row the arena is as it was. -/
theorem OwR.push {v' : Value} {l' : List Int} (h : OwR W Z B v l) (la : LA w0 W Z sa xs) (hB : w0.heap.size ≤ B) (hBW : B ≤ W.heap.size) (hg : W.grownBy W' v.ownBlock) (ho : W'.ownsRow B 3 1 v' l'.length (l'.map (.int .i64))) (hn : ∀ b, v'.ownBlock = some b → v.ownBlock = some b ∨ W.heap.size ≤ b) : LA w0 W' Z sa xs ∧ OwR W' Z B v' l' ∧ Below B W W' := by
  have ht : Turn (fun b => v.ownBlock = some b) W W' := .grown hg fun b e => .inl e
  have hb : Below B W W' := ht.below (fun b e => (h.own.lt b e).1) hBW
  refine ⟨⟨la.ar.turn ht fun b hz e => h.nz b e hz, la.z, la.bl.trans (hb.mono hB)⟩, ⟨ho, fun b e hz => ?_⟩, hb⟩
  rcases hn b e with e' | e'
  · exact h.nz b e' hz
  · have := la.ar.zlt b hz; omega
end
/-- What Chain leaves. -/
def ChS (w0 W : World) (Z : Nat → Prop) (sa : Nat) (st : Cs) (e : Ending) (w' : World) : Prop := ∃ Z' v, e = .returned (.tuple #[v, .int .i64 st.2.2.2]) ∧ LA w0 w' Z' sa st.1 ∧ OwR w' Z' W.heap.size v st.2.2.1 ∧ (∀ b, Z' b → Z b ∨ W.heap.size ≤ b) ∧ Turn Z W w'
section
variable {w0 W : World} {Z : Nat → Prop} {sa : Nat} {xs : List ND}
set_option maxHeartbeats 8000000 in
set_option maxRecDepth 100000 in
theorem l_chain (h : LA w0 W Z sa xs) (hT : Tb w0.heap.size w0) {start : Int} (hs : I64 start) {A : Option Addr} {n c : Nat} {L : List (Int × Int × Int)} (hl : Sl3 W Z A n c L) (hn : n ≤ 100000) (hi : ∀ m ∈ L, I64 m.1 ∧ I64 m.2.1 ∧ I64 m.2.2) :
    Calls Tryz.prog 53 #[.pointer (some ⟨sa, 0, none⟩), .int .i64 start, .slice A n c] W (ChS w0 W Z sa (chF xs start L)) := by
  obtain ⟨i0, hi0, hz0, hz1, hz2⟩ := info_parts Tryz.infoInt
  have HT := hid hT; have HL := hid hl; have HI := hid hi
  have H0 := hid h; have HSZ0 := hid h.sz
  clear h hT hl hi
  go_enter Tryz.func53, Tryz.ntmps53
  go_wp2_with fail
  go_loopw [16, 1, 8] (fun i s o wr => ∃ (j : Nat) (Zr : Nat → Prop) (st : Cs) (v : Value), i = .int .i64 j ∧ j ≤ n ∧ s = .int .i64 st.2.1 ∧ o = v ∧ Hid (st = chF xs start (L.take j) ∧ st.2.2.2 = 0 ∧ st.2.2.1.length = j ∧ I64 st.2.1 ∧ LA w0 wr Zr sa st.1 ∧ Mv Z W Zr wr ∧ OwR wr Zr W.heap.size v st.2.2.1)) (fun i _ _ _ => n - (intOf i).toNat)
  case atStart => exact ⟨0, Z, (xs, start, [], 0), _, rfl, Nat.zero_le _, rfl, rfl, hid ⟨rfl, rfl, rfl, hs, H0.out, Mv.below (Below.refl _ _), OwR.nil _ _ _⟩⟩
  case round =>
    clear H0
    obtain ⟨j, Zr, st, v, hv, hj, hs, ho, HQ⟩ := hrel
    subst hv
    obtain ⟨X, s, l, er⟩ := st
    obtain ⟨hst, he, hln, hsi, hla, hmv, how⟩ := HQ.out
    dsimp only at hst he hln hsi hla hmv how hs
    subst he
    subst hs
    obtain ⟨Ao, co, hvv, -⟩ := how.sla
    rw [hln] at hvv
    subst hvv
    subst ho
    have HST := hid hst; have HLN := hid hln; have HSI := hid hsi; have HLA := hid hla; have HMV := hid hmv; have HOW := hid how
    clear hst hln hsi hla hmv how HQ
    by_cases hlt : j < n
    · obtain ⟨b, off, m, rfl, hm, c0, c1, c2⟩ := (Sl3.mv HL.out HMV.out).at hlt
      obtain ⟨i1, i2, i3⟩ := HI.out m (List.mem_of_getElem? hm)
      obtain ⟨m1, m2, m3⟩ := m
      dsimp only at c0 c1 c2 i1 i2 i3
      have hlt' : (j : Int) < (n : Int) := by omega
      have HLT := hid hlt
      have HM := hid hm
      have LB := hid (HLA.out.alloc (.cells #[.int .i64 m1, .int .i64 m2, .int .i64 m3] 39))
      have HEB := hid (heap_alloc_new wr (.cells #[.int .i64 m1, .int .i64 m2, .int .i64 m3] 39))
      have HZB := hid (show ¬ Zr wr.heap.size from fun hz => by have := HLA.out.ar.zlt _ hz; omega)
      have MB := hid (HMV.out.trans (Mv.alloc Zr wr (.cells #[.int .i64 m1, .int .i64 m2, .int .i64 m3] 39)))
      have OB := hid (HOW.out.mv (Mv.alloc Zr wr (.cells #[.int .i64 m1, .int .i64 m2, .int .i64 m3] 39)))
      clear hm hlt
      obtain ⟨R1, hR1⟩ : ∃ R1 : Rs, R1 = hsF X [s, m1, m2] := ⟨_, rfl⟩
      have HC := hid (l_cf LB.out HT.out HSI.out i1 i2)
      rw [← hR1] at HC
      have HR1 := hid hR1
      clear hR1
      by_cases e1 : R1.2.2 = 0
      rotate_left
      · have HF := hid (show chF xs start L = (R1.1, 0, [], R1.2.2) from ch_stuck HM.out (by rw [← HST.out]; exact chT_e1 rfl HR1.out.symm e1) e1)
        have hne : (R1.2.2 != 0) = true := bne_iff_ne.2 e1
        clear e1
        go_wp2_with fail
        refine HC.out.mono ?_
        rintro e w2 ⟨Z2, rfl, l2, q2⟩
        have L2 := hid l2; have M2 := hid (MB.out.trans q2)
        clear l2 q2 HC
        go_wp2_with fail
        go_ret2
        exact (show ChS _ _ _ _ _ _ _ from ⟨Z2, _, by rw [HF.out]; rfl, by rw [HF.out]; exact L2.out, by rw [HF.out]; exact OwR.nil _ _ _, M2.out.n, M2.out.t⟩)
      obtain ⟨R2, hR2⟩ : ∃ R2 : Rs, R2 = tgF R1.1 m3 R1.2.1 := ⟨_, rfl⟩
      have HR2 := hid hR2
      clear hR2
      have HE1 := hid e1
      have HI1 := hid (fun (la : ∃ U Zq, LA w0 U Zq sa R1.1) => show I64 R1.2.1 from by
        obtain ⟨U, Zq, la⟩ := la
        exact i64_at (X := R1.1) la ⟨[], by simp⟩ (by rw [HR1.out]; exact (sb_hs [s, m1, m2]).has X (by rw [← HR1.out]; exact HE1.out)))
      unfold LrS at HC
      rw [e1] at HC
      clear e1
      go_wp2_with fail
      refine HC.out.mono ?_
      rintro e w2 ⟨Z2, rfl, l2, q2⟩
      have I1 := hid (HI1.out ⟨_, _, l2⟩)
      have HE2 := hid (Mv.cellE HEB.out q2 HZB.out)
      have HZ2 := hid (show ¬ Z2 wr.heap.size from fun hz => (q2.n _ hz).elim HZB.out fun h => by have := (Array.getElem?_eq_some_iff.1 HEB.out).1; omega)
      have c2' : w2.cell? ⟨wr.heap.size, 2, none⟩ = some (.int .i64 m3) := by rw [cell_of_row w2 wr.heap.size 2 _ _ (0, 0) HE2.out]; rfl
      have HTG := hid (l_tg l2 HT.out (k := m3) (m := R1.2.1) i3 I1.out)
      rw [← HR2.out] at HTG
      have M2 := hid (MB.out.trans q2); have O2 := hid (OB.out.mv q2)
      clear l2 q2 HC HEB HZB LB MB OB HI1
      by_cases e2 : R2.2.2 = 0
      rotate_left
      · have HF := hid (show chF xs start L = (R2.1, 0, [], R2.2.2) from ch_stuck HM.out (by rw [← HST.out]; exact chT_e2 rfl HR1.out.symm HE1.out HR2.out.symm e2) e2)
        have hne : (R2.2.2 != 0) = true := bne_iff_ne.2 e2
        clear e2
        go_wp2_with fail
        refine HTG.out.mono ?_
        rintro e w3 ⟨Z3, rfl, l3, q3⟩
        have L3 := hid l3; have M3 := hid (M2.out.trans q3)
        clear l3 q3 HTG
        go_wp2_with fail
        go_ret2
        exact (show ChS _ _ _ _ _ _ _ from ⟨Z3, _, by rw [HF.out]; rfl, by rw [HF.out]; exact L3.out, by rw [HF.out]; exact OwR.nil _ _ _, M3.out.n, M3.out.t⟩)
      obtain ⟨R3, hR3⟩ : ∃ R3 : Rs, R3 = hsF R2.1 [R1.2.1, R2.2.1] := ⟨_, rfl⟩
      have HR3 := hid hR3
      clear hR3
      have HEE2 := hid e2
      have HI2 := hid (fun (la : ∃ U Zq, LA w0 U Zq sa R2.1) => show I64 R2.2.1 from by
        obtain ⟨U, Zq, la⟩ := la
        exact i64_at (X := R2.1) la ⟨[], by simp⟩ (by rw [HR2.out]; exact (sb_tg m3 R1.2.1).has R1.1 (by rw [← HR2.out]; exact HEE2.out)))
      unfold LrS at HTG
      rw [e2] at HTG
      clear e2
      go_wp2_with fail
      refine HTG.out.mono ?_
      rintro e w3 ⟨Z3, rfl, l3, q3⟩
      have I2 := hid (HI2.out ⟨_, _, l3⟩)
      have HIM := hid (l_im l3 HT.out (c := R1.2.1) (t := R2.2.1) I1.out I2.out)
      rw [← HR3.out] at HIM
      have M3 := hid (M2.out.trans q3); have O3 := hid (O2.out.mv q3)
      clear l3 q3 HTG HI2 M2 O2 HE2 HZ2 c2'
      by_cases e3 : R3.2.2 = 0
      rotate_left
      · have HF := hid (show chF xs start L = (R3.1, 0, [], R3.2.2) from ch_stuck HM.out (by rw [← HST.out]; exact chT_e3 rfl HR1.out.symm HE1.out HR2.out.symm HEE2.out HR3.out.symm e3) e3)
        have hne : (R3.2.2 != 0) = true := bne_iff_ne.2 e3
        clear e3
        go_wp2_with fail
        refine HIM.out.mono ?_
        rintro e w4 ⟨Z4, rfl, l4, q4⟩
        have L4 := hid l4; have M4 := hid (M3.out.trans q4)
        clear l4 q4 HIM
        go_wp2_with fail
        go_ret2
        exact (show ChS _ _ _ _ _ _ _ from ⟨Z4, _, by rw [HF.out]; rfl, by rw [HF.out]; exact L4.out, by rw [HF.out]; exact OwR.nil _ _ _, M4.out.n, M4.out.t⟩)
      have HEE3 := hid e3
      have HI3 := hid (fun (la : ∃ U Zq, LA w0 U Zq sa R3.1) => show I64 R3.2.1 from by
        obtain ⟨U, Zq, la⟩ := la
        exact i64_at (X := R3.1) la ⟨[], by simp⟩ (by rw [HR3.out]; exact (sb_hs [R1.2.1, R2.2.1]).has R2.1 (by rw [← HR3.out]; exact HEE3.out)))
      unfold LrS at HIM
      rw [e3] at HIM
      have HGO := hid (show chF xs start (L.take (j + 1)) = (R3.1, R3.2.1, l ++ [R1.2.1], 0) from by
        rw [ch_one HM.out, ← HST.out]
        exact chT_go rfl HR1.out.symm HE1.out HR2.out.symm HEE2.out HR3.out.symm HEE3.out)
      clear e3
      go_wp2_with fail
      refine HIM.out.mono ?_
      rintro e w4 ⟨Z4, rfl, l4, q4⟩
      have I3 := hid (HI3.out ⟨_, _, l4⟩)
      have L4 := hid (l4.alloc (.cells #[.int .i64 R1.2.1] 3)); have M4 := hid ((M3.out.trans q4).trans (Mv.alloc Z4 w4 (.cells #[.int .i64 R1.2.1] 3)))
      have O4 := hid ((O3.out.mv q4).mv (Mv.alloc Z4 w4 (.cells #[.int .i64 R1.2.1] 3)))
      have OW := hid (show (w4.alloc (.cells #[.int .i64 R1.2.1] 3)).ownsRow W.heap.size 3 1 (.slice Ao j co) j (l.map (.int .i64)) from by have := O4.out.own; rw [HLN.out] at this; exact this)
      have hsz : W.heap.size ≤ (w4.alloc (.cells #[.int .i64 R1.2.1] 3)).heap.size := M4.out.t.size
      have hjn : j ≤ 100000 := by have := HLT.out; omega
      clear l4 q4 HIM HI3 M3 O3
      go_wp2_with (first
        | (at_builtin; refine wpList_append_sl _ rfl _ _ 22 rfl W.heap.size 3 i0 (.int .i64 0) 1 8 Tryz.underlying22 hi0 hz0 hz1 hz2 rfl (by decide) (.slice Ao j co) j (l.map (.int .i64)) rfl OW.out _ 1 1 [.int .i64 R1.2.1] rfl (SlA.lit1 _) (one_int _ _) (by unfold maxLen; omega) (by omega) hsz ?_; intro v5 w5 own5 gr5 loc5; have HO5 := hid own5; have HG5 := hid gr5; have HL5 := hid loc5; clear own5 gr5 loc5)
        | fail)
      have HP := hid (O4.out.push (v' := v5) (l' := l ++ [R1.2.1]) L4.out HSZ0.out hsz HG5.out (by rw [List.length_append, List.map_append, HLN.out]; exact HO5.out) (fun b e => by
        rcases HL5.out with h | h
        · exact .inl (h ▸ e)
        · rw [h] at e; injection e with e; exact .inr (by omega)))
      go_roundw
      case rel => exact ⟨j + 1, Z4, _, v5, by go_num, by have := HLT.out; omega, rfl, rfl, hid ⟨HGO.out.symm, rfl, by simp [HLN.out], I3.out, HP.out.1, ⟨M4.out.t.trans (.grown (F := fun b => (Value.slice Ao j co).ownBlock = some b) HG5.out fun b e => .inl e) (fun b e => .inr (OW.out.lt b e).1), M4.out.n⟩, HP.out.2.1⟩⟩
      case measure => have := HLT.out; simp [intOf]; omega
    · obtain rfl : j = n := by omega
      have hlt' : ¬ (j : Int) < (j : Int) := by omega
      have HF := hid (show chF xs start L = (X, s, l, 0) by rw [HST.out, List.take_of_length_le (by have := HL.out.1.2; omega)])
      go_wp2_with fail
      go_ret2
      exact (show ChS _ _ _ _ _ _ _ from ⟨Zr, _, by rw [HF.out]; rfl, by rw [HF.out]; exact HLA.out, by rw [HF.out]; exact HOW.out, HMV.out.n, HMV.out.t⟩)
end
end Go.Proofs.YtkgobglmkhkbbaaGreatDoor

/- strings.NewReplacer, of the four texts that the program hands it. []byte(s) as a step of a walk: a row of its own; nothing that was there has turned (of no program). (*strings.Replacer).build, of the four texts: a byteStringReplacer. -/
namespace Go.Proofs.YtkgobglmkhkbbaaGreatDoor
open Go.RowKit Go.KK Go.Shelf Go.Maps
set_option linter.unusedVariables false
set_option linter.unusedSimpArgs false

/-- What stands in the program: a quote and a stroke, each with a stroke ahead of it. -/
def rs4 : List Value := [.string ⟨#[34]⟩, .string ⟨#[92, 34]⟩, .string ⟨#[92]⟩, .string ⟨#[92, 92]⟩]
theorem infoS : (Tryz.prog.info? 9).map (fun i => (i.zero, i.size, i.bytes)) = some (some (.string ⟨#[]⟩), 1, 16) := by kernel_rfl
theorem rs4_one : ∀ u ∈ rs4, u.oneCell' = true := by
  intro u hu
  simp only [rs4, List.mem_cons, List.mem_nil_iff, or_false] at hu
  rcases hu with rfl | rfl | rfl | rfl <;> rfl
/-- A Replacer that is not built yet, at block b. -/
structure RpN (base : Nat) (W : World) (b : Nat) (v : Value) : Prop where
  o : W.ownsRow base 180 5 (.slice (some ⟨b, 0, none⟩) 1 1) 1 [.int .u32 0, .int .i32 0, .int .u32 0, .nilIface, v]
  s : W.ownsRow base 9 1 v 4 rs4
  d : v.ownBlock ≠ some b
set_option maxHeartbeats 2000000 in
set_option maxRecDepth 100000 in
theorem newrep_any (A : Option Addr) (c : Nat) (w : World) (h : SlA w 1 A 4 c rs4) :
    Calls Tryz.prog 107 #[.slice A 4 c] w fun e w' => ∃ b v, e = .returned (.pointer (some ⟨b, 0, none⟩)) ∧ RpN w.heap.size w' b v ∧ Below w.heap.size w w' := by
  obtain ⟨i0, hi, hz0, hz1, hz2⟩ := info_parts infoS
  have H := hid h
  clear h
  go_enter Tryz.func107, Tryz.ntmps107
  go_wp2_with (first
    | (at_builtin; refine wpList_append_new _ rfl _ _ 63 rfl 9 i0 (.string ⟨#[]⟩) 1 16 Tryz.underlying63 hi hz0 hz1 hz2 rfl (by decide) rfl A 4 c rs4 rfl H.out rs4_one (by unfold maxLen; omega) (by omega) ?_; intro v1 w1 own1 b1; obtain ⟨A1, c1, rfl, -⟩ := SlA.owned own1; have HO := hid own1; have HB := hid b1; clear own1 b1)
    | fail)
  go_ret
  exact ⟨w1.heap.size, .slice A1 4 c1, rfl, ⟨⟨rfl, .inr ⟨w1.heap.size, 1, _, rfl, HB.out.size, heap_alloc_new w1 _, Nat.le_refl _, by decide, rfl, by simp⟩⟩, HO.out.alloc _, fun e => by have := (HO.out.lt _ e).2; omega⟩, HB.out.alloc HB.out.size _⟩
end Go.Proofs.YtkgobglmkhkbbaaGreatDoor
namespace Go.KK
open Go.RowKit

/-- A text's bytes as cells. -/
def byC (s : ByteArray) : List Value := s.data.toList.map fun b => .int .u8 b.toNat
theorem byC_len (s : ByteArray) : (byC s).length = s.size := by simp [byC]
theorem byC_one (s : ByteArray) : ∀ u ∈ byC s, u.oneCell' = true := by
  intro u hu
  simp only [byC, List.mem_map] at hu
  obtain ⟨b, -, rfl⟩ := hu
  rfl
theorem grown_bytes (w : World) (e : TypeId) (s : ByteArray) : w.grownBy (Lib.bytesWorld w e s) none :=
  ⟨rfl, rfl, rfl, by rw [Lib.bytesWorld_size]; omega, fun i hi _ => Lib.bytesWorld_at_old w e s i hi⟩
theorem sla_bytes (w : World) (e : TypeId) (s : ByteArray) (hs : s.size ≤ maxLen) : SlA (Lib.bytesWorld w e s) 1 (some ⟨w.heap.size, 0, none⟩) s.size (grownCap w s.size 0 e) (byC s) := by
  refine ⟨grownCap_ge w s.size 0 e, grownCap_le_maxLen w s.size 0 e hs, by rw [byC_len, Nat.mul_one], fun j u hj => ⟨w.heap.size, 0, rfl, ?_⟩⟩
  have hl : j < s.size := by
    have := (List.getElem?_eq_some_iff.1 hj).1
    rwa [byC_len] at this
  rw [Nat.zero_add, Lib.bytesWorld_cell w e s j hl]
  have hd : j < s.data.toList.length := by simpa using hl
  simp only [byC, List.getElem?_map, List.getElem?_eq_getElem hd, Option.map_some] at hj
  injection hj with hj
  rw [← hj, List.getD, List.getElem?_eq_getElem hd]
  rfl
theorem wpList_str_bytes {P : Program} {w : World} {ops : Array Oper} {rest : List Oper} {o : Oper} {a : Act} {Q : Exit → Act → World → Prop} (hgd : o.guard = none) (x : Operand) (src dst e : TypeId)
    (hop : o.op = Op.convert src dst x) (hs : P.underlying src = some .string) (hd : P.underlying dst = some (.slice e)) (he : P.underlying e = some (.int .u8)) (s : ByteArray) (hx : a.eval x = .string s) (hm : s.size ≤ maxLen)
    (h : ∀ c w', w.grownBy w' none → w'.heap.size = w.heap.size + 1 → SlA w' 1 (some ⟨w.heap.size, 0, none⟩) s.size c (byC s) → wpList P ops Q rest (a.put o.dst (.slice (some ⟨w.heap.size, 0, none⟩) s.size c)) w') :
    wpList P ops Q (o :: rest) a w := by
  refine wpList_plain hgd fun K hK => ?_
  unfold Oper.wp execOp
  simp only [hop, hx, Sem.run_bind, Sem.run_pure, Lib.run_convert_string_bytes w src dst e s hs hd he, Result.andThen_ok]
  exact hK _ _ (h _ _ (grown_bytes w e s) (Lib.bytesWorld_size w e s) (sla_bytes w e s hm))
end Go.KK
namespace Go.Proofs.YtkgobglmkhkbbaaGreatDoor
open Go.RowKit Go.KK Go.Shelf Go.Maps

/-- The cells of a byteStringReplacer that holds nothing yet. -/
def bsrZ (v : Value) : Array Value := (Array.replicate 256 (.slice none 0 0)).push v
theorem bsrZ_size (v : Value) : (bsrZ v).size = 257 := by simp [bsrZ]
theorem info_bsr : (Tryz.prog.info? 222).map (fun i => (i.zero, i.size)) = some (some (.agg (bsrZ (.slice none 0 0))), 257) := by kernel_rfl
theorem build_bsr (A : Option Addr) (n c : Nat) (w : World) : (Instr.build 222 #[(1, .slice A n c)]).run Tryz.prog w = .ok (.agg (bsrZ (.slice A n c))) w := by kernel_rfl
theorem rep_set (n : Nat) (a v x : Value) : ((Array.replicate n a).push x).toList.set n v = ((Array.replicate n a).push v).toList := by
  simp
theorem rep_all (n : Nat) (A : Option Addr) (m c : Nat) : ((Array.replicate n (Value.slice none 0 0)).push (Value.slice A m c)).all (·.oneCell') = true := by
  rw [← Array.all_toList, Array.toList_push, List.all_eq_true]
  intro x hx
  rw [List.mem_append, Array.toList_replicate, List.mem_replicate, List.mem_singleton] at hx
  rcases hx with ⟨_, rfl⟩ | rfl <;> rfl
theorem rep_at (n : Nat) (a x : Value) (i : Nat) (hi : i < n) : ((Array.replicate n a).push x).toList[i]? = some a := by
  simp [List.getElem?_append, hi]
theorem rep_end (n : Nat) (a x : Value) : ((Array.replicate n a).push x).toList[n]? = some x := by simp
theorem bsrZ_set (v : Value) : (bsrZ (.slice none 0 0)).toList.set 256 v = (bsrZ v).toList := rep_set 256 _ _ _
theorem bsrZ_all (A : Option Addr) (n c : Nat) : (bsrZ (.slice A n c)).all (·.oneCell') = true := rep_all 256 A n c
theorem run_store_bsr (w : World) (A : Option Addr) (n c : Nat) : (storeCells ⟨w.heap.size, 0, none⟩ ((bsrZ (.slice none 0 0)).toList.set 256 (.slice A n c)) 0).run Tryz.prog (w.alloc (.cells (bsrZ (.slice none 0 0)) 222)) = .ok () (w.alloc (.cells (bsrZ (.slice A n c)) 222)) := by
  rw [bsrZ_set]
  exact run_storeCells_new (P := Tryz.prog) w 222 _ _ (by rw [(zero_of_info info_bsr).2, bsrZ_size]) (by rw [bsrZ_size, bsrZ_size]) (bsrZ_all A n c)
theorem bsrZ_at (v : Value) (i : Nat) (hi : i < 256) : (bsrZ v).toList[i]? = some (.slice none 0 0) := rep_at 256 _ _ i hi
theorem bsrZ_end (v : Value) : (bsrZ v).toList[256]? = some v := rep_end 256 _ _
theorem eql_nil (w : World) : (binOp .eql 128 (.slice none 0 0) (.slice none 0 0)).run Tryz.prog w = .ok (.bool true) w := by kernel_rfl
theorem neq_nil (w : World) : (binOp .neq 128 (.slice none 0 0) (.slice none 0 0)).run Tryz.prog w = .ok (.bool false) w := by kernel_rfl
theorem neq_some (a : Addr) (n c : Nat) (w : World) : (binOp .neq 128 (.slice (some a) n c) (.slice none 0 0)).run Tryz.prog w = .ok (.bool true) w := by kernel_rfl
/-- build on its way: L are the cells at block g, v the row of what is to be replaced. -/
structure BdW (w0 W : World) (g : Nat) (L : List Value) (v : Value) (ts : List Value) : Prop where
  o : W.ownsRow w0.heap.size 222 257 (.slice (some ⟨g, 0, none⟩) 1 1) 1 L
  t : W.ownsRow w0.heap.size 9 1 v ts.length ts
  d : v.ownBlock ≠ some g
  b : Below w0.heap.size w0 W
/-- A row of bytes that stands beside. -/
structure ByB (m : Nat) (W : World) (g : Nat) (v : Value) (A : Option Addr) (c : Nat) (s : ByteArray) : Prop where
  s : SlA W 1 A s.size c (byC s)
  a : ∃ h, A = some ⟨h, 0, none⟩ ∧ h < W.heap.size ∧ h ≠ g ∧ v.ownBlock ≠ some h ∧ m ≤ h
section
variable {w0 W W' : World} {g : Nat} {L : List Value} {v v' : Value} {ts ts' : List Value} {A : Option Addr} {c : Nat} {s : ByteArray} {r : Option Nat}
theorem BdW.lt (h : BdW w0 W g L v ts) : w0.heap.size ≤ g ∧ g < W.heap.size := h.o.lt g rfl
theorem BdW.ext (h : BdW w0 W g L v ts) (hg : W.grownBy W' none) : BdW w0 W' g L v ts :=
  ⟨own_block h.o fun b hb => hg.block b (h.o.lt b hb).2 (by simp), own_block h.t fun b hb => hg.block b (h.t.lt b hb).2 (by simp), h.d, h.b.grown hg h.b.size (fun k hk => by cases hk)⟩
theorem BdW.app (h : BdW w0 W g L v ts) (hg : W.grownBy W' v.ownBlock) (ht : W'.ownsRow w0.heap.size 9 1 v' ts'.length ts') (hl : v'.ownBlock = v.ownBlock ∨ v'.ownBlock = some W.heap.size) : BdW w0 W' g L v' ts' :=
  ⟨own_block h.o fun b hb => hg.block b (h.o.lt b hb).2 (fun e => by simp [Value.ownBlock] at hb; subst hb; exact h.d e.symm), ht, fun e => by
    rcases hl with hl | hl
    · exact h.d (hl ▸ e)
    · rw [hl] at e; injection e with e; have := h.lt; omega, h.b.grown hg h.b.size (fun k hk => (h.t.lt k hk).1)⟩
theorem BdW.st (h : BdW w0 W g L v ts) (j : Nat) (u : Value) : BdW w0 (W.setCell ⟨g, j, none⟩ u) g (L.set j u) v ts :=
  ⟨(h.o.stored j u).1, own_block h.t fun b hb => (h.o.stored j u).2.block b (h.t.lt b hb).2 (fun e => h.d (by rw [hb, e])), h.d, h.b.grown (h.o.stored j u).2 h.b.size (fun k hk => by injection hk with hk; subst hk; exact h.lt.1)⟩
theorem BdW.cell (h : BdW w0 W g L v ts) {j : Nat} {u : Value} (hj : L[j]? = some u) : W.cell? ⟨g, j, none⟩ = some u := by
  obtain ⟨b, off, e, hc⟩ := ((SlA.of_own h.o).2).cells j u hj
  injection e with e
  injection e with e1 e2
  subst e1; subst e2
  rwa [Nat.zero_add] at hc
theorem ByB.mv {m : Nat} (h : ByB m W g v A c s) (hg : W.grownBy W' r) (hr : r = some g ∨ r = v.ownBlock ∨ r = none) (hv : v'.ownBlock = v.ownBlock ∨ v'.ownBlock = some W.heap.size) : ByB m W' g v' A c s := by
  obtain ⟨b, rfl, hb, hbg, hbv, hbm⟩ := h.a
  have hh : W'.heap[b]? = W.heap[b]? := hg.block b hb (fun e => by
    rcases hr with rfl | rfl | rfl
    · injection e with e; exact hbg e
    · exact hbv e.symm
    · cases e)
  refine ⟨⟨h.s.nc, h.s.cm, h.s.len, fun j u hj => ?_⟩, b, rfl, Nat.lt_of_lt_of_le hb hg.size, hbg, fun e => ?_, hbm⟩
  · obtain ⟨b', off, e, hc⟩ := h.s.cells j u hj
    injection e with e
    injection e with e1 e2
    subst e1; subst e2
    refine ⟨b, 0, rfl, ?_⟩
    unfold World.cell? at hc ⊢
    rw [hh]; exact hc
  · rcases hv with hv | hv
    · exact hbv (hv ▸ e)
    · rw [hv] at e; injection e with e; omega
theorem ByB.new (h : BdW w0 W g L v ts) {c : Nat} (hs : SlA W' 1 (some ⟨W.heap.size, 0, none⟩) s.size c (byC s)) (hsz : W'.heap.size = W.heap.size + 1) : ByB w0.heap.size W' g v (some ⟨W.heap.size, 0, none⟩) c s :=
  ⟨hs, W.heap.size, rfl, by omega, fun e => by have := h.lt; omega, fun e => by have := (h.t.lt _ e).2; omega, h.b.size⟩
end
/-- So many rounds are done. -/
def BdK (w0 W : World) (g k : Nat) : Prop := ∃ L v, BdW w0 W g L v ([.string ⟨#[92]⟩, .string ⟨#[34]⟩].take k) ∧ L[256]? = some v ∧ (∀ i, i < 256 → (i = 34 → k < 2) → (i = 92 → k < 1) → L[i]? = some (.slice none 0 0)) ∧
  (1 ≤ k → ∃ A c, L[92]? = some (.slice A 2 c) ∧ ByB w0.heap.size W g v A c ⟨#[92, 92]⟩) ∧ (2 ≤ k → ∃ A c, L[34]? = some (.slice A 2 c) ∧ ByB w0.heap.size W g v A c ⟨#[92, 34]⟩)
/-- A byteStringReplacer that puts a stroke ahead of quotes and strokes. -/
structure Bsr (m : Nat) (w : World) (g : Nat) : Prop where
  q : ∃ h c, w.cell? ⟨g, 34, none⟩ = some (.slice (some ⟨h, 0, none⟩) 2 c) ∧ m ≤ h ∧ SlA w 1 (some ⟨h, 0, none⟩) 2 c (byC ⟨#[92, 34]⟩)
  e : ∃ h c, w.cell? ⟨g, 92, none⟩ = some (.slice (some ⟨h, 0, none⟩) 2 c) ∧ m ≤ h ∧ SlA w 1 (some ⟨h, 0, none⟩) 2 c (byC ⟨#[92, 92]⟩)
  o : ∀ i, i < 256 → i ≠ 34 → i ≠ 92 → w.cell? ⟨g, i, none⟩ = some (.slice none 0 0)
  t : ∃ h c, w.cell? ⟨g, 256, none⟩ = some (.slice (some ⟨h, 0, none⟩) 2 c) ∧ m ≤ h ∧ SlA w 1 (some ⟨h, 0, none⟩) 2 c [.string ⟨#[92]⟩, .string ⟨#[34]⟩]
  g : m ≤ g
theorem cell_heap {w w' : World} {b o : Nat} (h : w'.heap[b]? = w.heap[b]?) : w'.cell? ⟨b, o, none⟩ = w.cell? ⟨b, o, none⟩ := by
  unfold World.cell?; rw [h]
theorem sla_heap {w w' : World} {b n c : Nat} {l : List Value} (h : w'.heap[b]? = w.heap[b]?) (hs : SlA w 1 (some ⟨b, 0, none⟩) n c l) : SlA w' 1 (some ⟨b, 0, none⟩) n c l :=
  ⟨hs.nc, hs.cm, hs.len, fun j u hj => by
    obtain ⟨b', off, e, hc⟩ := hs.cells j u hj
    injection e with e
    injection e with e1 e2
    subst e1; subst e2
    exact ⟨b, 0, rfl, (cell_heap h).trans hc⟩⟩
/-- It hangs on blocks from m on. -/
theorem Bsr.mv {m : Nat} {w w' : World} {g : Nat} (h : Bsr m w g) (k : ∀ b, m ≤ b → w'.heap[b]? = w.heap[b]?) : Bsr m w' g := by
  have hg := k g h.g
  obtain ⟨a1, c1, x1, y1, z1⟩ := h.q
  obtain ⟨a2, c2, x2, y2, z2⟩ := h.e
  obtain ⟨a3, c3, x3, y3, z3⟩ := h.t
  exact ⟨⟨a1, c1, (cell_heap hg).trans x1, y1, sla_heap (k _ y1) z1⟩, ⟨a2, c2, (cell_heap hg).trans x2, y2, sla_heap (k _ y2) z2⟩, fun i h1 h2 h3 => (cell_heap hg).trans (h.o i h1 h2 h3), ⟨a3, c3, (cell_heap hg).trans x3, y3, sla_heap (k _ y3) z3⟩, h.g⟩
set_option maxHeartbeats 8000000 in
set_option maxRecDepth 1000000 in
theorem build_any (b : Nat) (A : Option Addr) (c : Nat) (w : World) (hc : w.cell? ⟨b, 4, none⟩ = some (.slice A 4 c)) (hs : SlA w 1 A 4 c rs4) :
    Calls Tryz.prog 141 #[.pointer (some ⟨b, 0, none⟩)] w fun e w' => ∃ g, e = .returned (.iface 223 (.pointer (some ⟨g, 0, none⟩))) ∧ Bsr w.heap.size w' g ∧ Below w.heap.size w w' := by
  obtain ⟨i0, hi, hz0, hz1, hz2⟩ := info_parts infoS
  have H := hid hs
  obtain ⟨b1, off, rfl, c0'⟩ := hs.cells 0 _ rfl
  have cj : ∀ (j : Nat) u, rs4[j]? = some u → w.cell? ⟨b1, off + j, none⟩ = some u := fun j u hj => by
    obtain ⟨b2, o2, e, h⟩ := hs.cells j u hj
    injection e with e
    injection e with e1 e2
    subst e1; subst e2
    exact h
  have CJ := hid cj
  have q0 := cj 0 _ rfl; rw [Nat.add_zero] at q0; have q1 := cj 1 _ rfl; have q2 := cj 2 _ rfl; have q3 := cj 3 _ rfl
  clear hs c0' cj
  have hzv := (zero_of_info info_bsr).1
  have hbd := build_bsr
  have hnl := eql_nil
  have hby : ∀ (x : UInt8) (h : 0 < (⟨#[x]⟩ : ByteArray).size), (⟨#[x]⟩ : ByteArray)[0]'h = x := fun _ _ => rfl
  go_enter Tryz.func141, Tryz.ntmps141
  go_wp2_with fail
  go_loopw [5, 4] (fun v av wr => wr = w ∧ ((v = .int .i64 0 ∧ av = .bool true) ∨ (v = .int .i64 2 ∧ av = .bool false) ∨ (v = .int .i64 4 ∧ av = .bool false))) (fun v _ _ => 4 - (intOf v).toNat)
  case atStart => exact ⟨rfl, .inl ⟨rfl, rfl⟩⟩
  case round =>
    obtain ⟨hw, ⟨hv, ha⟩ | ⟨hv, ha⟩ | ⟨hv, ha⟩⟩ := hrel
    all_goals
      have hw' := hw.symm
      clear hw
      subst hw'; subst hv; subst ha
    · go_wp2_with fail
      go_roundw
      case rel => exact ⟨by first | rfl | trivial, .inr (.inl ⟨by go_num, by first | rfl | trivial⟩)⟩
      case measure => simp [intOf]
    · go_wp2_with fail
      go_roundw
      case rel => exact ⟨by first | rfl | trivial, .inr (.inr ⟨by go_num, by first | rfl | trivial⟩)⟩
      case measure => simp [intOf]
    · go_upto_region 26 with fail
      go_wp2_with (first
        | (at_make; refine wpList_make_own _ rfl _ _ 63 rfl w.heap.size 9 i0 (.string ⟨#[]⟩) 1 Tryz.underlying63 hi hz0 hz1 .i64 .i64 2 2 rfl rfl rfl (by omega) (by decide) (Nat.le_refl _) ?_; intro w1 o1 g1)
        | fail)
      have hst := run_store_bsr w1 (some ⟨w.heap.size, 0, none⟩) 0 2
      simp only [hst, Result.andThen]
      rw [Oper.upon_skip]
      have HG := hid g1
      have HK0 := hid (show BdK w (w1.alloc (.cells (bsrZ (.slice (some ⟨w.heap.size, 0, none⟩) 0 2)) 222)) w1.heap.size 0 from
        ⟨(bsrZ (.slice (some ⟨w.heap.size, 0, none⟩) 0 2)).toList, .slice (some ⟨w.heap.size, 0, none⟩) 0 2, ⟨⟨by rw [Array.length_toList, bsrZ_size], .inr ⟨w1.heap.size, 1, _, rfl, g1.size, heap_alloc_new w1 _, Nat.le_refl _, by decide, by rw [bsrZ_size], List.take_of_length_le (by rw [Array.length_toList, bsrZ_size]; decide)⟩⟩, o1.alloc _, fun e => by
          have h2 := (o1.lt _ rfl).2
          simp only [Value.ownBlock, Option.some.injEq] at e
          have h3 : (⟨w.heap.size, 0, none⟩ : Addr).block = w.heap.size := rfl
          omega, (below_grown g1).alloc g1.size _⟩, bsrZ_end _, fun i h1 _ _ => bsrZ_at _ i h1, fun h => absurd h (by decide), fun h => absurd h (by decide)⟩)
      clear o1 g1 hst
      generalize w1.heap.size = g at *
      go_wp2_with fail
      go_loopw [12] (fun v wr => (v = .int .i64 2 ∧ BdK w wr g 0) ∨ (v = .int .i64 0 ∧ BdK w wr g 1) ∨ (v = .int .i64 (-2) ∧ BdK w wr g 2)) (fun v _ => (intOf v + 2).toNat)
      case atStart => exact .inl ⟨rfl, HK0.out⟩
      case round =>
        clear HK0 HG
        obtain ⟨hv, hbk⟩ | ⟨hv, hbk⟩ | ⟨hv, hbk⟩ := hrel
        all_goals subst hv
        · obtain ⟨L, v, hB, hL, hZ, hE, -⟩ := hbk
          have HB := hid hB; have HLE := hid hL; have HZ := hid hZ; have HE := hid hE
          have hLn : 256 < L.length := (List.getElem?_eq_some_iff.1 hL).1
          have CO := hid (fun (j : Nat) u (hj : rs4[j]? = some u) => (HB.out.b.cell (p := ⟨b1, off + j, none⟩) (block_lt_of_cell (CJ.out j u hj))).trans (CJ.out j u hj))
          have p0 := CO.out 0 _ rfl
          rw [Nat.add_zero] at p0
          have p1 := CO.out 1 _ rfl; have p2 := CO.out 2 _ rfl; have p3 := CO.out 3 _ rfl
          obtain ⟨At, ct, rfl, -⟩ := SlA.owned hB.t
          have k256 := HB.out.cell hL
          have kO := HB.out.cell (hZ 92 (by omega) (by omega) (by omega))
          have hcv : (convert 128 9 (.slice (some ⟨wr.heap.size, 0, none⟩) 1 1)).run Tryz.prog (wr.alloc (.cells #[.int .u8 92] 5)) = .ok (.string ⟨#[92]⟩) (wr.alloc (.cells #[.int .u8 92] 5)) :=
            run_str_sl _ 128 9 5 Tryz.underlying128 Tryz.underlying5 Tryz.underlying9 _ 1 1 [92] (SlA.lit1 _)
          clear hB hL hZ hE
          go_wp2_with (first
            | (at_builtin; refine wpList_append_sl _ rfl _ _ 63 rfl w.heap.size 9 i0 (.string ⟨#[]⟩) 1 16 Tryz.underlying63 hi hz0 hz1 hz2 rfl (by decide) _ 0 _ rfl ((HB.out.t.alloc _).alloc _) _ 1 1 [.string ⟨#[92]⟩] rfl (by have := SlA.lit1 (w := wr.alloc (.cells #[.int .u8 92] 5)) (T := 9) (.string ⟨#[92]⟩); simpa using this) (by intro u hu; rw [List.mem_singleton] at hu; subst hu; rfl) (by decide) (by decide) (by have := HB.out.b.size; simp; omega) ?_
               intro v4 w4 own4 gr4 loc4
               have H4 := hid (BdW.app (ts' := [.string ⟨#[92]⟩, .string ⟨#[34]⟩].take (0 + 1)) ((HB.out.ext (World.grownBy_alloc _ _ _)).ext (World.grownBy_alloc _ _ _)) gr4 own4 loc4)
               have GR4 := hid gr4; have LC4 := hid loc4
               obtain ⟨A4, c4, rfl, -⟩ := SlA.owned own4
               have m256 := H4.out.cell HLE.out
               have z256 := H4.out.o.frozenAt 256
               clear own4 gr4 loc4)
            | (refine wpList_str_bytes rfl _ 9 128 5 rfl Tryz.underlying9 Tryz.underlying128 Tryz.underlying5 ⟨#[92, 92]⟩ rfl (by decide) ?_
               intro c6 w6 gr6 sz6 sl6
               have GR6 := hid gr6
               have H6 := hid ((H4.out.st 256 _).ext gr6)
               have B6 := hid (ByB.new (H4.out.st 256 _) sl6 sz6)
               have m6 := H6.out.cell (j := 92) (by rw [List.getElem?_set_ne (by decide)]; exact HZ.out 92 (by omega) (by omega) (by omega))
               have z6 := H6.out.o.frozenAt 92
               clear gr6 sz6 sl6)
            | fail)
          have HKN := hid (show BdK w _ g (0 + 1) from ⟨_, _, H6.out.st 92 (.slice (some ⟨_, 0, none⟩) 2 c6), by rw [List.getElem?_set_ne (by decide), List.getElem?_set_self (by omega)], fun i h1 h2 h3 => by
            rw [List.getElem?_set_ne (by omega), List.getElem?_set_ne (by omega)]
            exact HZ.out i h1 (by omega) (by omega), fun _ => ⟨_, c6, by rw [List.getElem?_set_self (by simp; omega)], B6.out.mv (H6.out.o.stored 92 _).2 (.inl rfl) (.inl rfl)⟩, fun h => absurd h (by decide)⟩)
          go_roundw
          case rel => exact .inr (.inl ⟨by go_num, by simpa using HKN.out⟩)
          case measure => simp [intOf]
        · obtain ⟨L, v, hB, hL, hZ, hE, -⟩ := hbk
          have HB := hid hB; have HLE := hid hL; have HZ := hid hZ; have HE := hid hE
          have hLn : 256 < L.length := (List.getElem?_eq_some_iff.1 hL).1
          have CO := hid (fun (j : Nat) u (hj : rs4[j]? = some u) => (HB.out.b.cell (p := ⟨b1, off + j, none⟩) (block_lt_of_cell (CJ.out j u hj))).trans (CJ.out j u hj))
          have p0 := CO.out 0 _ rfl
          rw [Nat.add_zero] at p0
          have p1 := CO.out 1 _ rfl; have p2 := CO.out 2 _ rfl; have p3 := CO.out 3 _ rfl
          obtain ⟨At, ct, rfl, -⟩ := SlA.owned hB.t
          have k256 := HB.out.cell hL
          have kO := HB.out.cell (hZ 34 (by omega) (by omega) (by omega))
          have hcv : (convert 128 9 (.slice (some ⟨wr.heap.size, 0, none⟩) 1 1)).run Tryz.prog (wr.alloc (.cells #[.int .u8 34] 5)) = .ok (.string ⟨#[34]⟩) (wr.alloc (.cells #[.int .u8 34] 5)) :=
            run_str_sl _ 128 9 5 Tryz.underlying128 Tryz.underlying5 Tryz.underlying9 _ 1 1 [34] (SlA.lit1 _)
          clear hB hL hZ hE
          go_wp2_with (first
            | (at_builtin; refine wpList_append_sl _ rfl _ _ 63 rfl w.heap.size 9 i0 (.string ⟨#[]⟩) 1 16 Tryz.underlying63 hi hz0 hz1 hz2 rfl (by decide) _ 1 _ rfl ((HB.out.t.alloc _).alloc _) _ 1 1 [.string ⟨#[34]⟩] rfl (by have := SlA.lit1 (w := wr.alloc (.cells #[.int .u8 34] 5)) (T := 9) (.string ⟨#[34]⟩); simpa using this) (by intro u hu; rw [List.mem_singleton] at hu; subst hu; rfl) (by decide) (by decide) (by have := HB.out.b.size; simp; omega) ?_
               intro v4 w4 own4 gr4 loc4
               have H4 := hid (BdW.app (ts' := [.string ⟨#[92]⟩, .string ⟨#[34]⟩].take (1 + 1)) ((HB.out.ext (World.grownBy_alloc _ _ _)).ext (World.grownBy_alloc _ _ _)) gr4 own4 loc4)
               have GR4 := hid gr4; have LC4 := hid loc4
               obtain ⟨A4, c4, rfl, -⟩ := SlA.owned own4
               have m256 := H4.out.cell HLE.out
               have z256 := H4.out.o.frozenAt 256
               clear own4 gr4 loc4)
            | (refine wpList_str_bytes rfl _ 9 128 5 rfl Tryz.underlying9 Tryz.underlying128 Tryz.underlying5 ⟨#[92, 34]⟩ rfl (by decide) ?_
               intro c6 w6 gr6 sz6 sl6
               have GR6 := hid gr6
               have H6 := hid ((H4.out.st 256 _).ext gr6)
               have B6 := hid (ByB.new (H4.out.st 256 _) sl6 sz6)
               have m6 := H6.out.cell (j := 34) (by rw [List.getElem?_set_ne (by decide)]; exact HZ.out 34 (by omega) (by omega) (by omega))
               have z6 := H6.out.o.frozenAt 34
               clear gr6 sz6 sl6)
            | fail)
          have HKN := hid (show BdK w _ g (1 + 1) from by
            obtain ⟨A9, c9, hL9, hB9⟩ := HE.out (by omega)
            exact ⟨_, _, H6.out.st 34 (.slice (some ⟨_, 0, none⟩) 2 c6), by rw [List.getElem?_set_ne (by decide), List.getElem?_set_self (by omega)], fun i h1 h2 h3 => by
            rw [List.getElem?_set_ne (by omega), List.getElem?_set_ne (by omega)]
            exact HZ.out i h1 (by omega) (by omega), fun _ => ⟨A9, c9, by rw [List.getElem?_set_ne (by decide), List.getElem?_set_ne (by decide)]; exact hL9, (((((hB9.mv (World.grownBy_alloc _ _ none) (.inr (.inr rfl)) (.inl rfl)).mv (World.grownBy_alloc _ _ none) (.inr (.inr rfl)) (.inl rfl)).mv GR4.out (.inr (.inl rfl)) LC4.out).mv (H4.out.o.stored 256 _).2 (.inl rfl) (.inl rfl)).mv GR6.out (.inr (.inr rfl)) (.inl rfl)).mv (H6.out.o.stored 34 _).2 (.inl rfl) (.inl rfl)⟩, fun _ => ⟨_, c6, by rw [List.getElem?_set_self (by simp; omega)], B6.out.mv (H6.out.o.stored 34 _).2 (.inl rfl) (.inl rfl)⟩⟩)
          go_roundw
          case rel => exact .inr (.inr ⟨by go_num, by simpa using HKN.out⟩)
          case measure => simp [intOf]
        · obtain ⟨L, v, hB, hL, hZ, hE, hQ⟩ := hbk
          have HB := hid hB
          obtain ⟨A1, c1, hA1, hB1⟩ := hE (by omega)
          obtain ⟨A2, c2, hA2, hB2⟩ := hQ (by omega)
          have HBS := hid (show Bsr w.heap.size wr g from by
            obtain ⟨x1, rfl, -, -, -, y1⟩ := hB1.a
            obtain ⟨x2, rfl, -, -, -, y2⟩ := hB2.a
            obtain ⟨At, ct, rfl, hst⟩ := SlA.owned hB.t
            obtain ⟨x3, off3, rfl, -⟩ := hst.cells 0 _ rfl
            have hb3 := hB.t.lt x3 rfl
            obtain rfl : off3 = 0 := by
              rcases hB.t.2 with ⟨e, _⟩ | ⟨_, _, _, e, _⟩
              · injection e with e; cases e
              · injection e with e; injection e with e; injection e
            exact ⟨⟨x2, c2, hB.cell hA2, y2, hB2.s⟩, ⟨x1, c1, hB.cell hA1, y1, hB1.s⟩, fun i h1 h2 h3 => hB.cell (hZ i h1 (by omega) (by omega)), ⟨x3, ct, hB.cell hL, hb3.1, hst⟩, hB.lt.1⟩)
          clear hB hL hZ hE hQ hA1 hA2 hB1 hB2
          go_wp2_with fail
          go_ret
          exact ⟨g, rfl, HBS.out, HB.out.b⟩
end Go.Proofs.YtkgobglmkhkbbaaGreatDoor

