/- the reference of layer 7: Copy. -/
import Derived.Test.YtimdohjlhbpmhaaDoorQ7
import Derived.Test.YtimdohjlhbpmhaaDoorK6
namespace Go.Proofs.YtimdohjlhbpmhaaDoor
open Go.RowKit Go.KK Go.Shelf
set_option linter.unusedVariables false
set_option linter.unusedSimpArgs false

/-- A copy whose lists are rows of its own. -/
structure CpS (base : Nat) (wr : World) (v : Value) (xs : List TN) (rs : List Value) : Prop where
  ql : rs.length = xs.length
  row : wr.ownsRow base 25 6 v xs.length (ncs xs rs)
  new : ∀ (k : Nat) x q, xs[k]? = some x → rs[k]? = some q → wr.ownsRow base 3 1 q x.u.length (x.u.map (.int .i64)) ∧ (q.ownBlock = none ∨ q.ownBlock ≠ v.ownBlock)
  apart : ∀ (i k : Nat) p q b, rs[i]? = some p → rs[k]? = some q → p.ownBlock = some b → q.ownBlock = some b → i = k
theorem CpS.nil (base : Nat) (w : World) : CpS base w (.slice none 0 0) [] [] := ⟨rfl, World.ownsRow_nil _ _ _ _, fun k x q h => by simp at h, fun i k p q b h => by simp at h⟩
theorem app_get {α : Type} {l : List α} {y z : α} {k : Nat} (h : (l ++ [y])[k]? = some z) : (k < l.length ∧ l[k]? = some z) ∨ (k = l.length ∧ z = y) := by
  by_cases hk : k < l.length
  · rw [List.getElem?_append_left hk] at h; exact .inl ⟨hk, h⟩
  · by_cases hkl : k = l.length
    · subst hkl
      rw [List.getElem?_append_right (Nat.le_refl _), Nat.sub_self] at h
      injection h with h
      exact .inr ⟨rfl, h.symm⟩
    · rw [List.getElem?_eq_none (by simp; omega)] at h; cases h
theorem CpS.snoc {base : Nat} {wr w2 W : World} {v v' q : Value} {xs : List TN} {rs : List Value} {x : TN} (h : CpS base wr v xs rs) (hb : Below wr.heap.size wr w2) (hbase : base ≤ wr.heap.size)
    (hq : w2.ownsRow wr.heap.size 3 1 q x.u.length (x.u.map (.int .i64))) (hg : w2.grownBy W v.ownBlock) (hv : v'.ownBlock = v.ownBlock ∨ v'.ownBlock = some w2.heap.size) (hrow : W.ownsRow base 25 6 v' (xs.length + 1) (ncs xs rs ++ x.cells q)) :
    CpS base W v' (xs ++ [x]) (rs ++ [q]) := by
  have hvlt : ∀ b, v.ownBlock = some b → b < wr.heap.size := fun b e => (h.row.lt b e).2
  have hqge : ∀ b, q.ownBlock = some b → wr.heap.size ≤ b ∧ b < w2.heap.size := fun b e => hq.lt b e
  have hz := hb.size
  refine ⟨by simp [h.ql], ?_, fun k y p hy hp => ?_, fun i k p r b hp hr h1 h2 => ?_⟩
  · rw [ncs_app h.ql rfl, List.length_append]
    have : ncs [x] [q] = x.cells q := by unfold ncs; simp
    rw [this]
    exact hrow
  · rcases app_get hy with ⟨hk, hy'⟩ | ⟨hk, rfl⟩
    · rcases app_get hp with ⟨_, hp'⟩ | ⟨hk2, _⟩
      · obtain ⟨o1, o2⟩ := h.new k y p hy' hp'
        refine ⟨(own_ext o1 hb).kept hg o2, ?_⟩
        rcases o2 with o2 | o2
        · exact .inl o2
        · rcases hv with e | e
          · rw [e]; exact .inr o2
          · refine .inr fun e2 => ?_
            rw [e] at e2
            have := (o1.lt _ e2).2
            omega
      · have := h.ql; omega
    · rcases app_get hp with ⟨hk2, _⟩ | ⟨_, rfl⟩
      · have := h.ql; omega
      · refine ⟨(own_mono hq hbase).kept hg ?_, ?_⟩
        · rcases hb2 : p.ownBlock with _ | b
          · exact .inl rfl
          · refine .inr fun e => ?_
            have h1 := hvlt b e.symm
            have h2 := (hqge b hb2).1
            omega
        · rcases hb2 : p.ownBlock with _ | b
          · exact .inl rfl
          · refine .inr fun e => ?_
            have h2 := hqge b hb2
            rcases hv with e3 | e3
            · rw [e3] at e
              have h1 := hvlt b e.symm
              omega
            · rw [e3] at e; injection e with e; omega
  · rcases app_get hp with ⟨hk, hp'⟩ | ⟨hk, rfl⟩
    · rcases app_get hr with ⟨hk2, hr'⟩ | ⟨hk2, rfl⟩
      · exact h.apart i k p r b hp' hr' h1 h2
      · have hx : xs[i]? = some (xs[i]'(by have := h.ql; omega)) := List.getElem?_eq_getElem _
        have a := ((h.new i _ p hx hp').1.lt b h1).2
        have b2 := (hqge b h2).1
        omega
    · rcases app_get hr with ⟨hk2, hr'⟩ | ⟨hk2, rfl⟩
      · have hx : xs[k]? = some (xs[k]'(by have := h.ql; omega)) := List.getElem?_eq_getElem _
        have a := ((h.new k _ r hx hr').1.lt b h2).2
        have b2 := (hqge b h1).1
        omega
      · omega
theorem CpS.ext {base : Nat} {wr w2 : World} {v : Value} {xs : List TN} {rs : List Value} (h : CpS base wr v xs rs) (hb : Below wr.heap.size wr w2) : CpS base w2 v xs rs :=
  ⟨h.ql, own_ext h.row hb, fun k x q hx hq => ⟨own_ext (h.new k x q hx hq).1 hb, (h.new k x q hx hq).2⟩, h.apart⟩
theorem CpS.trv {base : Nat} {wr : World} {v : Value} {xs : List TN} {rs : List Value} (h : CpS base wr v xs rs) : TrV wr v xs := by
  obtain ⟨A, c, rfl, hs⟩ := SlA.owned h.row
  refine ⟨A, _, c, rfl, rs, h.ql, hs, fun j x q hx hq => ?_⟩
  obtain ⟨A', c', e, hs'⟩ := SlA.owned (h.new j x q hx hq).1
  exact ⟨A', c', e, hs'⟩
theorem CpS.trw {base : Nat} {wr : World} {v : Value} {xs : List TN} {rs : List Value} (h : CpS base wr v xs rs) (hb : Bare xs) (hn : 0 < xs.length) : ∃ g cap, v = .slice (some ⟨g, 0, none⟩) xs.length cap ∧ TrW wr base g cap xs rs := by
  rcases h.row.2 with ⟨_, e⟩ | ⟨g, cap, cur, e, _⟩
  · omega
  · subst e
    refine ⟨g, cap, rfl, h.row, h.ql, fun j x q hx hq => ⟨fun _ => ?_, fun hk => ⟨hb j x hx hk, ?_⟩⟩, fun i j x y p q b _ _ hp hq _ _ h1 h2 => h.apart i j p q b hp hq h1 h2⟩
    · obtain ⟨o1, o2⟩ := h.new j x q hx hq
      refine ⟨o1, ?_⟩
      rcases o2 with o2 | o2
      · rw [o2]; simp
      · exact o2
    · obtain ⟨A', c', e', hs'⟩ := SlA.owned (h.new j x q hx hq).1
      rw [hb j x hx hk] at e' hs'
      exact ⟨A', c', e', hs'.cm⟩
theorem new_frozen {w w2 : World} {xs : Array Value} {t : TypeId} (hb : Below (w.alloc (.cells xs t)).heap.size (w.alloc (.cells xs t)) w2) (i : Nat) : w2.frozen? ⟨w.heap.size, i, none⟩ = false := by
  rw [hb.frozen (p := ⟨w.heap.size, i, none⟩) (by rw [World.size_alloc]; exact Nat.lt_succ_self _), World.frozen?_alloc_at xs t _ i rfl]
theorem cp_below {wr w3 : World} {o : Obj} (h : Below wr.heap.size wr (wr.alloc o)) (hb : Below (wr.alloc o).heap.size (wr.alloc o) w3) (v : Value) : Below wr.heap.size wr (w3.setCell ⟨wr.heap.size, 5, none⟩ v) :=
  (h.trans (hb.mono (by simp))).setCell (Nat.le_refl _) v
theorem cp_own {wr w3 : World} {o : Obj} {e : TypeId} {v u : Value} {n : Nat} {xs : List Value} (h : w3.ownsRow (wr.alloc o).heap.size e 1 v n xs) : (w3.setCell ⟨wr.heap.size, 5, none⟩ u).ownsRow wr.heap.size e 1 v n xs := by
  refine (own_mono h (by simp)).kept (row := some wr.heap.size) (grown_setCell (World.grownBy.refl _ _) rfl u) ?_
  rcases hb : v.ownBlock with _ | b
  · exact .inl rfl
  · refine .inr fun e => ?_
    injection e with e
    have := (h.lt b hb).1
    rw [World.size_alloc] at this
    omega
theorem sla_lit6 {w : World} {T : TypeId} (b : Nat) (hb : b = w.heap.size) (a0 a1 a2 a3 a4 a5 : Value) : SlA (w.alloc (.cells #[a0, a1, a2, a3, a4, a5] T)) 6 (some ⟨b, 0, none⟩) 1 1 [a0, a1, a2, a3, a4, a5] :=
  ⟨Nat.le_refl _, by decide, rfl, fun j u hj => ⟨b, 0, rfl, by rw [World.cell?_alloc_at _ _ _ _ hb, Nat.zero_add]; simpa using hj⟩⟩
theorem cp_row {base : Nat} {wr : World} {v : Value} {xs : List TN} {rs : List Value} {j : Nat} (h : CpS base wr v xs rs) (hj : xs.length = j) : wr.ownsRow base 25 6 v j (ncs xs rs) := by
  subst hj; exact h.row
theorem cells_one (x : TN) (A : Option Addr) (n c : Nat) : ∀ u ∈ x.cells (.slice A n c), u.oneCell' = true := by
  intro u hu
  simp only [TN.cells, List.mem_cons, List.not_mem_nil, or_false] at hu
  rcases hu with rfl | rfl | rfl | rfl | rfl | rfl <;> rfl
theorem bytes_ok {n m : Nat} (hn : n ≤ 600) (hm : m ≤ 600) : (n + m) * 64 ≤ 140737488355328 := by omega
set_option maxHeartbeats 2000000 in
theorem copy_any (A : Option Addr) (n c : Nat) (xs : List TN) (w : World) (h : Tr w A n c xs) (hnm : n ≤ 600) (hu : Shorts xs) :
    Calls Tryd.prog 10 #[.slice A n c] w fun e w' => ∃ v rs, e = .returned v ∧ CpS w.heap.size w' v xs rs ∧ Below w.heap.size w w' := by
  have H := hid h; have HU := hid hu
  have HL := hid h.len
  clear h hu
  obtain ⟨i0, hi, hz0, hz1, hz2⟩ := info_parts Tryd.infoTN
  obtain ⟨i1, hi1, hy0, hy1, hy2⟩ := info_parts Tryd.infoInt
  go_enter Tryd.func10, Tryd.ntmps10
  go_wp2
  go_loopw [8, 3] (fun i v wr => ∃ (j : Nat) (rs : List Value), i = .int .i64 j ∧ j ≤ n ∧ CpS w.heap.size wr v (xs.take j) rs ∧ Below w.heap.size w wr) (fun i _ _ => n - (intOf i).toNat)
  case atStart => exact ⟨0, [], rfl, by omega, CpS.nil _ _, Below.refl _ _⟩
  case round =>
    obtain ⟨j, rs, hi, hj, hcp, hbr⟩ := hrel
    subst hi
    have HB := hid hbr; clear hbr
    by_cases hlt : j < n
    · obtain ⟨b0, o0, q, Aq, cq, rfl, hq, c0, c1, c2, c3, c4, c5, hsq⟩ := (H.out.ext HB.out).at hlt
      have hqu := HU.out _ _ hq
      have HT := hid (take_get hq)
      have hzr := HB.out.size
      have HCP := hid hcp
      have hlj : (xs.take j).length = j := by rw [List.length_take, HL.out]; omega
      have HLJ := hid hlj
      have hsq2 := hsq.alloc (.cells #[.int .i64 q.k, .int .i64 q.i, .int .i64 q.e, .int .i64 q.s, .int .i64 q.h, .slice Aq q.u.length cq] 25)
      have HSQ := hid hsq2
      have hb1 : Below wr.heap.size wr (wr.alloc (.cells #[.int .i64 q.k, .int .i64 q.i, .int .i64 q.e, .int .i64 q.s, .int .i64 q.h, .slice Aq q.u.length cq] 25)) := (Below.refl _ _).alloc (Nat.le_refl _) _
      have HB1 := hid hb1
      clear hq hcp hsq hsq2 hb1 hlj
      have hj600 : (j + 1) * 64 ≤ 140737488355328 := by omega
      have hml : j + 1 ≤ maxLen := by unfold maxLen; omega
      go_wp2_with (first
        | (at_builtin; refine wpList_append_new _ rfl _ _ 23 rfl 3 i1 (.int .i64 0) 1 8 Tryd.underlying23 hi1 hy0 hy1 hy2 rfl (by decide) rfl Aq q.u.length cq _ rfl HSQ.out (ints_one _ _) (by unfold maxLen; omega) (by omega) ?_; intro v3 w3 hown3 hb3; obtain ⟨A3, c3, rfl⟩ := own_shape hown3; have k0 := new_cell hb3 0; have k1 := new_cell hb3 1; have k2 := new_cell hb3 2; have k3 := new_cell hb3 3; have k4 := new_cell hb3 4; have k5 := new_cell hb3 5; have f5 := new_frozen hb3 5; have hbS := hid (cp_below HB1.out hb3 (Value.slice A3 q.u.length c3)); have hoS := hid (cp_own (u := .slice A3 q.u.length c3) hown3); have hzS := hid (below_new (Below.refl _ _) (Nat.le_refl _) hb3).2; have HG := hid (cp_row (HCP.out.ext (hbS.out.alloc hbS.out.size (.cells #[.int .i64 q.k, .int .i64 q.i, .int .i64 q.e, .int .i64 q.s, .int .i64 q.h, .slice A3 q.u.length c3] 25))) HLJ.out); have HGZ := hid (Nat.le_trans hzr (hbS.out.alloc hbS.out.size (.cells #[.int .i64 q.k, .int .i64 q.i, .int .i64 q.e, .int .i64 q.s, .int .i64 q.h, .slice A3 q.u.length c3] 25)).size); have HL6 := hid (sla_lit6 (w := w3.setCell ⟨wr.heap.size, 5, none⟩ (.slice A3 q.u.length c3)) (T := 25) w3.heap.size (by simp) (.int .i64 q.k) (.int .i64 q.i) (.int .i64 q.e) (.int .i64 q.s) (.int .i64 q.h) (.slice A3 q.u.length c3)); have HO6 := hid (cells_one q A3 q.u.length c3); clear hown3 hb3)
        | (at_builtin; refine wpList_append_sl _ rfl _ _ 22 rfl w.heap.size 25 i0 _ 6 64 Tryd.underlying22 hi hz0 hz1 hz2 rfl (by decide) _ j _ rfl HG.out _ 1 1 (q.cells (.slice A3 q.u.length c3)) rfl HL6.out HO6.out hml hj600 HGZ.out ?_; intro v4 w4 hown4 hg4 hv4))
      go_roundw
      case rel =>
        have hbW := hbS.out.alloc hbS.out.size (.cells #[.int .i64 q.k, .int .i64 q.i, .int .i64 q.e, .int .i64 q.s, .int .i64 q.h, .slice A3 q.u.length c3] 25)
        have hcp := HCP.out.snoc (x := q) hbW hzr ((hoS.out).alloc _) hg4 hv4 (by rw [HLJ.out]; exact hown4)
        refine ⟨j + 1, rs ++ [.slice A3 q.u.length c3], by go_num, by omega, by rw [HT.out]; exact hcp, ?_⟩
        exact (HB.out.trans (hbW.mono hzr)).grown hg4 (by have := hbW.size; omega) (fun k hk => (HCP.out.row.lt k hk).1)
      case measure => simp [intOf]; omega
    · have HJ := hid (show xs.take j = xs from List.take_of_length_le (by have := HL.out; omega))
      have HCP := hid hcp
      clear hcp
      go_wp2
      go_ret
      have := HCP.out
      rw [HJ.out] at this
      exact ⟨_, rs, rfl, this, HB.out⟩
end Go.Proofs.YtimdohjlhbpmhaaDoor
