/- append(t, make([]T, k)...) onto a row of the call's own; of nodes. -/
import Derived.Test.YtimdohjlhbpmhaaDoorT2
import Derived.Test.YtimdohjlhbpmhaaDoorK2
import Derived.Lib.AppendZerosOnto
namespace Go.KK
open Go.RowKit
set_option linter.unusedVariables false
set_option linter.unusedSimpArgs false

theorem run_append_zeros_own {P : Program} (w : World) (base : Nat) (t tn ty e : TypeId) (i : TypeInfo) (z : Value) (kq kn : IntKind) (size : Nat) (ht : P.underlying t = some (.slice e)) (htn : P.underlying tn = some (.int kn)) (hi : P.info? e = some i) (hz : i.zero = some z)
    (hsize : i.size = size) (hzs : z.cells.size = size) (hsz : 0 < size) (hz1 : ∀ v ∈ z.cells.toList, v.oneCell' = true)
    (g n cap : Nat) (xs : List Value) (hown : w.ownsRow base e size (.slice (some ⟨g, 0, none⟩) n cap) n xs) (k : Nat) (h0 : 0 < k) (hb : i.bytes ≤ 100000) (hn : n ≤ 100000) (hk : k ≤ 100000) (hbase : base ≤ w.heap.size) :
    ∃ g' cap' w', (Builtin.append_ #[t, tn] ty #[.slice (some ⟨g, 0, none⟩) n cap, .int kq k]).run P w = .ok (.slice (some ⟨g', 0, none⟩) (n + k) cap') w' ∧
      w'.ownsRow base e size (.slice (some ⟨g', 0, none⟩) (n + k) cap') (n + k) (xs ++ (Builtin.zeroCells z.cells k).toList) ∧ w.grownBy w' (some g) ∧ (g' = g ∨ g' = w.heap.size) := by
  subst hsize
  have hzl : (Builtin.zeroCells z.cells k).toList.length = k * i.size := by rw [Array.length_toList, size_zeroCells, hzs]
  have hlen : (xs ++ (Builtin.zeroCells z.cells k).toList).length = (n + k) * i.size := by rw [List.length_append, hown.1, hzl, Nat.add_mul]
  rcases hown.2 with ⟨e1, _⟩ | ⟨g1, cap1, cur, e1, hbg, hg, hnc, hcm, hcs, htake⟩
  · cases e1
  · injection e1 with e1 e2 e3
    injection e1 with e1
    injection e1 with e4 e5
    subst e4; subst e3
    have hw : IntKind.i64.wrap (k : Int) = k := by rw [IntKind.wrap_i64]; omega
    have hk0 : k ≠ 0 := by omega
    have hks : ¬ (k * i.size = 0) := Nat.mul_ne_zero hk0 (by omega)
    have hneg : ¬ ((k : Int) < 0) := by omega
    have hkb : k * i.bytes ≤ 10000000000 := by
      have := Nat.mul_le_mul hk hb
      omega
    have h48 : ¬ (281474976710656 < (k : Int) * (i.bytes : Int)) := by
      rw [← Int.natCast_mul]; omega
    by_cases hroom : n + k ≤ cap
    · have hfit : n * i.size + 0 + (Builtin.zeroCells z.cells k).toList.length ≤ cur.size := by rw [hzl, hcs, Nat.add_zero, ← Nat.add_mul]; exact Nat.mul_le_mul_right _ hroom
      have h1 : ∀ v ∈ (Builtin.zeroCells z.cells k).toList, v.oneCell' = true := by
        intro v hv
        unfold Builtin.zeroCells at hv
        simp only [Array.toList_map, List.mem_map] at hv
        obtain ⟨m, _, rfl⟩ := hv
        have hm : m % z.cells.size < z.cells.size := Nat.mod_lt _ (by omega)
        rw [getElem!_pos z.cells _ hm]
        exact hz1 _ (Array.getElem_mem_toList _)
      have hst := run_storeCells_at P g (n * i.size) e _ 0 cur w hg hfit h1
      obtain ⟨L, hL⟩ : ∃ L, L = (cur.toList.take (n * i.size) ++ (Builtin.zeroCells z.cells k).toList ++ cur.toList.drop (n * i.size + (Builtin.zeroCells z.cells k).toList.length)).toArray := ⟨_, rfl⟩
      simp only [Nat.add_zero] at hst
      rw [← hL] at hst
      refine ⟨g, cap, w.setRow g L, ?_, ⟨hlen, .inr ⟨g, cap, L, rfl, hbg, setRow_heap w g cur L e _ hg, hroom, hcm, ?_, ?_⟩⟩, ⟨rfl, rfl, rfl, by simp, fun k _ hk => setRow_other w g k _ (fun e => hk (by simp [e]))⟩, .inl rfl⟩
      · simp [Builtin.append_, run_underlying ht, run_underlying htn, sizeOf, typeInfo, zeroValue, hi, hz, asInt, asIntOf, hw, hneg, hks, h48, hroom, Addr.add_lit]
        rw [hst]
        rfl
      · rw [hL]
        simp only [List.size_toArray, List.length_append, List.length_take, List.length_drop, Array.length_toList]
        simp only [Array.length_toList] at hfit
        omega
      · rw [hL, htake, ← hlen]
        exact List.take_left
    · have hold : (Builtin.firstCells i.size n (.slice (some ⟨g, 0, none⟩) n cap)).run P w.drew = .ok xs.toArray w.drew := by
        have := run_firstCells_some (P := P) w.drew i.size n ⟨g, 0, none⟩ n cap xs hown.1 (fun j u hj => by
          have := hown.cells (g := g) rfl j u hj
          exact this)
        exact this
      have hg1 := grownCap_ge w (n + k) cap e
      have hg2 := grownCap_le_maxLen w (n + k) cap e (by unfold maxLen; omega)
      have hnx : Builtin.nextslicecap (n + k) cap ≤ 2 * (n + k) := by
        unfold Builtin.nextslicecap
        split
        · omega
        · split
          · omega
          · simp only [Builtin.growBy]
            repeat' split
            all_goals omega
      have hr := Lib.run_append_grow_zeros (P := P) w t tn ty e i z kq kn ht htn hi hz (some ⟨g, 0, none⟩) n cap xs hold k h0 (by omega) (by omega) (by omega) (by omega) (by
        have := Nat.mul_le_mul hnx hb
        have h3 : 2 * (n + k) * 100000 ≤ 2 * 200000 * 100000 := Nat.mul_le_mul_right _ (by omega)
        omega)
      refine ⟨w.heap.size, _, _, hr, ⟨hlen, .inr ⟨w.heap.size, _, _, rfl, hbase, heap_alloc_new w.drew _, hg1, hg2, ?_, ?_⟩⟩, grown_undrew (World.grownBy_alloc w.drew _ _), .inr rfl⟩
      · rw [Array.size_append, Array.size_append, size_zeroCells, size_zeroCells, hzs, List.size_toArray, hown.1, ← Nat.add_mul, ← Nat.add_mul]
        congr 1
        omega
      · rw [Array.toList_append, Array.toList_append, List.take_append_of_le_length (by rw [List.length_append, hzl, hown.1, ← Nat.add_mul]; exact Nat.le_refl _)]
        show ((xs ++ (Builtin.zeroCells z.cells k).toList).take ((n + k) * i.size)) = _
        rw [← hlen, List.take_length]

def zeroN : TN := ⟨0, 0, 0, 0, 0, []⟩
theorem zeros_nodes (k : Nat) : (Builtin.zeroCells (Value.agg #[.int .i64 0, .int .i64 0, .int .i64 0, .int .i64 0, .int .i64 0, .slice none 0 0]).cells k).toList = ncs (List.replicate k zeroN) (List.replicate k (.slice none 0 0)) := by
  refine ncs_ext (by simp) (by rw [Array.length_toList, size_zeroCells]; simp [Value.cells]) ?_
  intro j x q hx hq d hd
  have hjk : j < k := by
    rcases Nat.lt_or_ge j k with hh | hh
    · exact hh
    · rw [List.getElem?_eq_none (by simpa using hh)] at hx; cases hx
  rw [List.getElem?_replicate, if_pos hjk] at hx hq
  injection hx with hx; injection hq with hq
  subst hx; subst hq
  have hlt : j * 6 + d < k * 6 := by omega
  unfold Builtin.zeroCells
  simp only [Value.cells, Array.toList_map, List.getElem?_map, Array.toList_range]
  rw [List.getElem?_range (by simpa using hlt)]
  have hm : (j * 6 + d) % 6 = d := by omega
  have hd' : d = 0 ∨ d = 1 ∨ d = 2 ∨ d = 3 ∨ d = 4 ∨ d = 5 := by omega
  rcases hd' with rfl | rfl | rfl | rfl | rfl | rfl <;> simp [hm, TN.cells, zeroN]
theorem ncs_app {xs ys : List TN} {qs rs : List Value} (hq : qs.length = xs.length) (hr : rs.length = ys.length) : ncs (xs ++ ys) (qs ++ rs) = ncs xs qs ++ ncs ys rs := by
  unfold ncs
  rw [List.zipWith_append hq.symm, List.flatten_append]
theorem TrW.mono {w : World} {base base' g cap : Nat} {xs : List TN} {qs : List Value} (h : TrW w base g cap xs qs) (hb : base' ≤ base) : TrW w base' g cap xs qs :=
  ⟨own_mono h.row hb, h.ql, fun j x q hx hq => ⟨fun hk => ⟨own_mono ((h.own j x q hx hq).1 hk).1 hb, ((h.own j x q hx hq).1 hk).2⟩, (h.own j x q hx hq).2⟩, h.apart⟩
/-- More nodes, all of them blank. -/
theorem TrW.more {w w' : World} {base g cap g' cap' k : Nat} {xs : List TN} {qs : List Value} (h : TrW w base g cap xs qs) (hw : w.grownBy w' (some g)) (hg' : g' = g ∨ g' = w.heap.size)
    (hrow : w'.ownsRow base 25 6 (.slice (some ⟨g', 0, none⟩) (xs.length + k) cap') (xs.length + k) (ncs xs qs ++ ncs (List.replicate k zeroN) (List.replicate k (.slice none 0 0)))) :
    TrW w' base g' cap' (xs ++ List.replicate k zeroN) (qs ++ List.replicate k (.slice none 0 0)) := by
  have at_old : ∀ {j : Nat} {x : TN}, (xs ++ List.replicate k zeroN)[j]? = some x → x.k = 2 → xs[j]? = some x := by
    intro j x hx hk
    by_cases hj : j < xs.length
    · rwa [List.getElem?_append_left hj] at hx
    · rw [List.getElem?_append_right (by omega), List.getElem?_replicate] at hx
      split at hx
      · injection hx with hx; subst hx; exact absurd hk (by decide)
      · cases hx
  have q_old : ∀ {j : Nat} {q : Value}, j < xs.length → (qs ++ List.replicate k (Value.slice none 0 0))[j]? = some q → qs[j]? = some q := by
    intro j q hj hq
    rwa [List.getElem?_append_left (by rw [h.ql]; exact hj)] at hq
  refine ⟨?_, by simp [h.ql], fun j x q hx hq => ⟨fun hk => ?_, fun hk => ?_⟩, fun i j x y p q b hx hy hp hq k1 k2 b1 b2 => ?_⟩
  · rw [ncs_app h.ql (by simp), List.length_append, List.length_replicate]
    exact hrow
  · have hx' := at_old hx hk
    have hq' := q_old (List.getElem?_eq_some_iff.1 hx').1 hq
    obtain ⟨o1, o2⟩ := (h.own j x q hx' hq').1 hk
    refine ⟨o1.kept hw (.inr o2), ?_⟩
    rcases hg' with e | e
    · rw [e]; exact o2
    · intro e2
      have := (o1.lt g' e2).2
      omega
  · by_cases hj : j < xs.length
    · rw [List.getElem?_append_left hj] at hx
      exact (h.own j x q hx (q_old hj hq)).2 hk
    · rw [List.getElem?_append_right (by omega), List.getElem?_replicate] at hx
      rw [List.getElem?_append_right (by rw [h.ql]; omega), List.getElem?_replicate] at hq
      split at hx
      · injection hx with hx
        split at hq
        · injection hq with hq
          subst hx; subst hq
          exact ⟨rfl, none, 0, rfl, Nat.zero_le _⟩
        · cases hq
      · cases hx
  · have hx' := at_old hx k1
    have hy' := at_old hy k2
    exact h.apart i j x y p q b hx' hy' (q_old (List.getElem?_eq_some_iff.1 hx').1 hp) (q_old (List.getElem?_eq_some_iff.1 hy').1 hq) k1 k2 b1 b2

end Go.KK
