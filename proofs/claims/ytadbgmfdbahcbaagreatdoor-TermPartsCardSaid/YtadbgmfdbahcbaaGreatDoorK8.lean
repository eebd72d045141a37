/- Arguments opened: a row of term's nodes. Of no program. -/
import Derived.Test.YtadbgmfdbahcbaaGreatDoorK3
import Derived.Test.YtadbgmfdbahcbaaGreatDoorA2
import Derived.ChangeArms
namespace Go.KK
open Go.ChangeShapes Go.WideShapes Go.ChangeAt Go.RowKit Go.Deep
set_option linter.unusedVariables false
set_option linter.unusedSimpArgs false

/-- What is known of a node that came in. -/
structure NdW (x : ND) : Prop where
  o : -9223372036854775808 ≤ x.o ∧ x.o ≤ 9223372036854775807
  n : -9223372036854775808 ≤ x.n ∧ x.n ≤ 9223372036854775807
  l : ∀ i ∈ x.l, -9223372036854775808 ≤ i ∧ i ≤ 9223372036854775807
  s : x.s.size ≤ maxLen
section
variable {H : Type} {enc : TypeId × Value → H} {P : Program} {w : World} {base : Nat} {spare : Nat → Bool} {held : Bool}
theorem trod_ints {fuel : Nat} {t e : TypeId} {k : IntKind} {v : Value} {y : DataW H × List MemPlace} (ht : P.underlying t = some (.slice e)) (he : P.underlying e = some (.int k)) (hc : P.cellsOf e = 1)
    (h : DataW.trod enc P w base spare held fuel t [v] = some y) : ∃ (A : Option Addr) (n c : Nat) (l : List Int), v = .slice A n c ∧ SlA w 1 A n c (l.map (Value.int k)) ∧ ∀ x ∈ l, (Lit.int k x).wf = true := by
  rcases open_ints ht he hc h with ⟨hcs, _⟩ | ⟨x, l, c', zs, hcs, _, hl, hm, hz, _, hcell, hwz⟩
  · injection hcs with hcs
    subst hcs
    exact ⟨_, _, _, [], rfl, SlA.nil _ _, by simp⟩
  · injection hcs with hcs
    subst hcs
    have hzl : l ≤ zs.length := by rw [hz]; split <;> omega
    refine ⟨_, _, _, zs.take l, rfl, ⟨hl, hm, by simp; omega, fun j u hj => ?_⟩, fun y hy => hwz y (List.mem_of_mem_take hy)⟩
    rw [List.getElem?_map, List.getElem?_take] at hj
    split at hj
    · rename_i hjn
      have hc := hcell j (by omega)
      have hjl : j < zs.length := by omega
      rw [List.getElem?_eq_getElem hjl] at hj
      simp only [Option.map_some, Option.some.injEq] at hj
      obtain ⟨b, off, spot⟩ := x
      have h0 := hcell 0 (by omega)
      have hspot : spot = none := by simpa [Addr.add] using World.cell?_spot h0
      subst hspot
      refine ⟨b, off, rfl, ?_⟩
      rw [add_lit] at hc
      rw [hc, ← hj, List.getD, List.getElem?_eq_getElem hjl]
      rfl
    · cases hj
/-- A node's cells that read. -/
theorem nd_of_trod {fuel : Nat} {t ti ts tl : TypeId} {fs : Array Field} {cs : List Value} {y : DataW H × List MemPlace} (hs : P.underlying t = some (.struct fs)) (hone : oneCellFields P fs = true) (hsz : fs.size = 4) (hC : P.cellsOf t = 4)
    (h4 : fs.toList.map (fun f => f.type) = [ti, ti, ts, tl]) (hti : P.underlying ti = some (.int .i64)) (hts : P.underlying ts = some .string) (htl : P.underlying tl = some (.slice ti)) (hci : P.cellsOf ti = 1)
    (h : DataW.trod enc P w base spare held fuel t cs = some y) : ∃ (x : ND) (q : Value), cs = x.cells q ∧ In1 w q x.l ∧ NdW x := by
  obtain ⟨xs, n, _, _, hlen, hxl, hg⟩ := DataW.trod_struct hs h
  rw [hC] at hlen
  match cs, hlen with
  | [a0, a1, a2, a3], _ =>
    have fld : ∀ k (hk : k < 4), ∃ z, DataW.trod enc P w base spare held n ([ti, ti, ts, tl][k]'(by simp; omega)) [([a0, a1, a2, a3])[k]'(by simp; omega)] = some z := by
      intro k hk
      have hf : fs[k]? = some (fs[k]'(by omega)) := Array.getElem?_eq_getElem _
      obtain ⟨ho, hc⟩ := hone_of hone k _ hf
      have := hg k _ hf
      rw [ho, hc, List.drop_eq_getElem_cons (by simpa using hk)] at this
      have e : (fs[k]'(by omega)).type = [ti, ti, ts, tl][k]'(by simp; omega) := by
        have e1 : (fs.toList.map (fun f => f.type))[k]? = some (fs[k]'(by omega)).type := by
          rw [List.getElem?_map, Array.getElem?_toList, hf]; rfl
        rw [h4, List.getElem?_eq_getElem (by simp; omega)] at e1
        exact (Option.some.inj e1).symm
      rw [e] at this
      exact ⟨_, this.trans (List.getElem?_eq_getElem (by omega))⟩
    obtain ⟨z0, t0⟩ := fld 0 (by omega)
    obtain ⟨z1, t1⟩ := fld 1 (by omega)
    obtain ⟨z2, t2⟩ := fld 2 (by omega)
    obtain ⟨z3, t3⟩ := fld 3 (by omega)
    simp only [List.getElem_cons_zero, List.getElem_cons_succ] at t0 t1 t2 t3
    obtain ⟨o, e0, _, w0⟩ := DataW.trod_int hti t0
    obtain ⟨m, e1, _, w1⟩ := DataW.trod_int hti t1
    obtain ⟨s, e2, _, w2⟩ := DataW.trod_string hts t2
    obtain ⟨A, k, c, u, e5, hsl, hw⟩ := trod_ints htl hti hci t3
    injection e0 with e0; injection e1 with e1; injection e2 with e2
    subst e0; subst e1; subst e2; subst e5
    have hm := hsl.lenI
    subst hm
    exact ⟨⟨o, m, s, u⟩, _, rfl, ⟨A, c, rfl, hsl⟩, bounds_i64 w0, bounds_i64 w1, fun i hi => bounds_i64 (hw i hi), w2⟩
theorem choose_list {α : Type} {Q : Nat → α → Prop} : ∀ (n : Nat), (∀ j, j < n → ∃ x, Q j x) → ∃ l : List α, l.length = n ∧ ∀ j x, l[j]? = some x → Q j x
  | 0, _ => ⟨[], rfl, fun j x h => by simp at h⟩
  | n + 1, h => by
    obtain ⟨l, hl, hq⟩ := choose_list n (fun j hj => h j (by omega))
    obtain ⟨x, hx⟩ := h n (by omega)
    refine ⟨l ++ [x], by simp [hl], fun j y hy => ?_⟩
    by_cases hj : j < n
    · rw [List.getElem?_append_left (by omega)] at hy
      exact hq j y hy
    · by_cases hjn : j = n
      · subst hjn
        rw [List.getElem?_append_right (by omega), hl, Nat.sub_self] at hy
        injection hy with hy
        rw [← hy]; exact hx
      · rw [List.getElem?_eq_none (by simp; omega)] at hy; cases hy
/-- A row of nodes that came in. -/
theorem opens_nodes {r : Reach} {b0 : Nat} {tt t ti ts tl : TypeId} {fs : Array Field} {v : Value} {d : DataW H} {p : List MemPlace} (htt : P.underlying tt = some (.slice t)) (hs : P.underlying t = some (.struct fs)) (hone : oneCellFields P fs = true) (hsz : fs.size = 4) (hC : P.cellsOf t = 4)
    (h4 : fs.toList.map (fun f => f.type) = [ti, ti, ts, tl]) (hti : P.underlying ti = some (.int .i64)) (hts : P.underlying ts = some .string) (htl : P.underlying tl = some (.slice ti)) (hci : P.cellsOf ti = 1)
    (hv : Value.okWide P w r b0 tt v) (h : DataW.Trod enc P w base spare held tt v d p) : ∃ A n c xs, v = .slice A n c ∧ NdA w A n c xs ∧ ∀ x ∈ xs, NdW x := by
  obtain ⟨A, n, c, rfl⟩ := okWide_slice htt hv
  obtain ⟨fuel, hf⟩ := h
  rcases open_slice htt hf with ⟨hcs, _⟩ | ⟨a, len, cap, m, n', D, Pl, hcs, _, hl, hm, hmm, _, hi⟩
  · simp [Value.cells] at hcs
    obtain ⟨rfl, rfl, rfl⟩ := hcs
    exact ⟨_, _, _, [], rfl, NdA.nil _, fun x h => by simp at h⟩
  · simp [Value.cells] at hcs
    obtain ⟨rfl, rfl, rfl⟩ := hcs
    have hnm : n ≤ m := by rw [hmm]; split <;> omega
    have each : ∀ j, j < n → ∃ xq : ND × Value, (∀ k, k < 4 → w.cell? (a.add (j * 4 + k)) = (xq.1.cells xq.2)[k]?) ∧ In1 w xq.2 xq.1.l ∧ NdW xq.1 := by
      intro j hj
      obtain ⟨cs', hc, ht⟩ := hi j (by omega)
      obtain ⟨x, q, e, hin, hw⟩ := nd_of_trod hs hone hsz hC h4 hti hts htl hci ht
      rw [hC] at hc
      obtain ⟨_, _, hat⟩ := World.cells?_some hc
      refine ⟨⟨x, q⟩, fun k hk => ?_, hin, hw⟩
      rw [← Go.Deep.add_add, hat k hk, e]
    obtain ⟨l, hll, hq⟩ := choose_list n each
    have hx : ∀ {j : Nat} {x : ND}, (l.map (·.1))[j]? = some x → ∃ q, l[j]? = some (x, q) := by
      intro j x h
      rw [List.getElem?_map] at h
      rcases hh : l[j]? with _ | ⟨y, q⟩
      · rw [hh] at h; cases h
      · rw [hh] at h; injection h with h; subst h; exact ⟨q, rfl⟩
    refine ⟨_, _, _, l.map (·.1), rfl, ⟨l.map (·.2), by simp, ⟨hl, hm, by rw [nds_len (by simp)]; simp [hll], fun i u hu => ?_⟩, fun j x q hxj hqj => ?_⟩, fun x hxm => ?_⟩
    · have hil : i < n * 4 := by
        rcases Nat.lt_or_ge i (n * 4) with hh | hh
        · exact hh
        · rw [List.getElem?_eq_none (by rw [nds_len (by simp)]; simp [hll]; omega)] at hu; cases hu
      have hjn : i / 4 < n := by omega
      have hlj : l[i / 4]? = some (l[i / 4]'(by omega)) := List.getElem?_eq_getElem _
      obtain ⟨b, off, spot⟩ := a
      have c0 := (hq 0 _ (List.getElem?_eq_getElem (by omega))).1 0 (by omega)
      have hspot : spot = none := by
        simp only [Nat.zero_mul, Nat.add_zero, ND.cells, List.getElem?_cons_zero] at c0
        simpa [Addr.add] using World.cell?_spot c0
      subst hspot
      refine ⟨b, off, rfl, ?_⟩
      have hg := nds_get (xs := l.map (·.1)) (qs := l.map (·.2)) (j := i / 4) (k := i % 4) (by rw [List.getElem?_map, hlj]; rfl) (by rw [List.getElem?_map, hlj]; rfl) (Nat.mod_lt _ (by omega))
      rw [show i / 4 * 4 + i % 4 = i by omega] at hg
      have hc := (hq _ _ hlj).1 (i % 4) (Nat.mod_lt _ (by omega))
      rw [show i / 4 * 4 + i % 4 = i by omega, add_lit] at hc
      rw [hc, ← hg, hu]
    · obtain ⟨q', hl'⟩ := hx hxj
      rw [List.getElem?_map, hl'] at hqj
      injection hqj with hqj
      subst hqj
      exact (hq j _ hl').2.1
    · obtain ⟨j, hj, rfl⟩ := List.mem_iff_getElem.1 hxm
      obtain ⟨q', hl'⟩ := hx (List.getElem?_eq_getElem hj)
      exact (hq j _ hl').2.2
end
end Go.KK
