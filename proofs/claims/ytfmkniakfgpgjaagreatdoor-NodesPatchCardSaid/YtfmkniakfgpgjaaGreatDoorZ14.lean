import Derived.Test.YtfmkniakfgpgjaaGreatDoorZ13
import Derived.Test.YtfmkniakfgpgjaaGreatDoorZ09
import Derived.Deep.QuietTactic
import Derived.BigQuiet
import Derived.Deep.RegionWith
import Derived.Deep.RegionLaw
import Derived.Test.YtfmkniakfgpgjaaGreatDoorZ05
import Derived.Lib.AppendZerosOnto
/- what changed between two rows. -/
namespace Go.Proofs.YtfmkniakfgpgjaaGreatDoor
open Go.RowKit Go.KK Go.Shelf Go.Maps
set_option linter.unusedVariables false
set_option linter.unusedSimpArgs false

def chB (l m : List Int) (i : Int) : Bool := !(decide (i < l.length) && decide (i < m.length) && (l.getD i.toNat 0 == m.getD i.toNat 0))
def chL (l m : List Int) (j : Nat) : List Int := ((List.range j).map fun i : Nat => (i : Int)).filter (chB l m)
def chF (l m : List Int) : List Int := chL l m (max l.length m.length)
theorem chL_le (l m : List Int) (j : Nat) : (chL l m j).length ≤ j := by
  unfold chL
  have := List.length_filter_le (chB l m) ((List.range j).map fun i : Nat => (i : Int))
  rw [List.length_map, List.length_range] at this
  exact this
theorem chL_yes {l m : List Int} {j : Nat} (h : chB l m (j : Int) = true) : chL l m (j + 1) = chL l m j ++ [(j : Int)] := by
  unfold chL
  rw [List.range_succ, List.map_append, List.filter_append]
  congr 1
  exact List.filter_cons_of_pos h
theorem chL_no {l m : List Int} {j : Nat} (h : chB l m (j : Int) = false) : chL l m (j + 1) = chL l m j := by
  unfold chL
  rw [List.range_succ, List.map_append, List.filter_append]
  have : List.filter (chB l m) (List.map (fun i : Nat => (i : Int)) [j]) = [] := by
    rw [List.map_cons, List.filter_cons_of_neg (by rw [h]; decide)]; rfl
  rw [this, List.append_nil]
theorem chB_out {l m : List Int} {j : Nat} (h : ¬ (j < l.length ∧ j < m.length)) : chB l m (j : Int) = true := by
  unfold chB
  by_cases h1 : j < l.length
  · have h2 : ¬ j < m.length := fun h2 => h ⟨h1, h2⟩
    simp [h2]
  · simp [h1]
theorem chB_at {l m : List Int} {j : Nat} {z z' : Int} (h : l[j]? = some z) (h' : m[j]? = some z') : chB l m (j : Int) = (z != z') := by
  have h1 := (List.getElem?_eq_some_iff.1 h).1
  have h2 := (List.getElem?_eq_some_iff.1 h').1
  unfold chB
  simp only [List.getD_eq_getElem?_getD, Int.toNat_natCast, h, h', Option.getD_some]
  simp [h1, h2, bne]
set_option maxHeartbeats 2000000 in
set_option maxRecDepth 20000 in
theorem changed_any (A : Option Addr) (n c : Nat) (l : List Int) (B : Option Addr) (m d : Nat) (l' : List Int) (w : World) (h : SlA w 1 A n c (l.map (.int .i64))) (h' : SlA w 1 B m d (l'.map (.int .i64))) (hn : n ≤ 1000000) (hm : m ≤ 1000000) :
    Calls Tryz.prog 23 #[.slice A n c, .slice B m d] w fun e w' => ∃ v, e = .returned v ∧ w'.ownsRow w.heap.size 3 1 v (chF l l').length ((chF l l').map (.int .i64)) ∧ Below w.heap.size w w' := by
  have HS := hid h; have HS' := hid h'
  have HL := hid h.lenI; have HL' := hid h'.lenI
  clear h h'
  have HM := hid (show chF l l' = chL l l' (max n m) by unfold chF; rw [HL.out, HL'.out])
  obtain ⟨i0, hi, hz0, hz1, hz2⟩ := info_parts Tryz.infoInt
  have hN : max n m ≤ 1000000 := by omega
  generalize hmx : max n m = M at *
  have HMX := hid hmx; clear hmx
  have HX := hid (show (max (n : Int) (m : Int)) = (M : Int) by have := HMX.out; omega)
  go_enter Tryz.func23, Tryz.ntmps23
  go_wp2
  try rw [HX.out]

  go_loopw [12, 5] (fun i v wr => ∃ j : Nat, i = .int .i64 j ∧ j ≤ M ∧ wr.ownsRow w.heap.size 3 1 v (chL l l' j).length ((chL l l' j).map (.int .i64)) ∧ Below w.heap.size w wr) (fun i _ _ => M - (intOf i).toNat)
  case atStart => exact ⟨0, rfl, by omega, World.ownsRow_nil _ _ _ _, Below.refl _ _⟩
  case round =>
    obtain ⟨j, hi1, hj, hown, hbr⟩ := hrel
    subst hi1
    have HBr := hid hbr; clear hbr
    by_cases hlt : j < M
    · have hlt' : (j : Int) < (M : Int) := by omega
      by_cases hin : j < n ∧ j < m
      · obtain ⟨b, o, z, rfl, hz, hc⟩ := (HS.out.ext HBr.out).elemI hin.1
        obtain ⟨b', o', z', rfl, hz', hc'⟩ := (HS'.out.ext HBr.out).elemI hin.2
        have HC := hid (chB_at hz hz')
        have hj0 : (0 : Int) ≤ (j : Int) := by omega
        have hj1 : (j : Int) < (n : Int) := by omega
        have hj2 : (j : Int) < (m : Int) := by omega
        have hge : ¬ (min (n : Int) (m : Int) ≤ (j : Int)) := by omega
        clear hz hz'
        by_cases hzx : z = z'
        · have HJ := hid (chL_no (l := l) (m := l') (j := j) (by rw [HC.out, hzx]; simp))
          have hzx' : (z != z') = false := by rw [hzx]; simp
          clear hzx
          go_wp2
          go_quiet (fail)
          go_wp2
          go_roundw
          case rel => exact ⟨j + 1, by go_num, by omega, by rw [HJ.out]; exact hown, below_drewN HBr.out nq⟩
          case measure => simp [intOf]; omega
        · have HJ := hid (chL_yes (l := l) (m := l') (j := j) (by rw [HC.out]; exact bne_iff_ne.2 hzx))
          have hzx' : (z != z') = true := bne_iff_ne.2 hzx
          clear hzx
          go_wp2
          go_quiet (fail)
          have HO3 := hid ((show (wr.drewN nq).ownsRow w.heap.size 3 1 _ _ _ from hown).alloc (.cells #[.int .i64 j] 3))
          have HLT := hid (SlA.lit1 (w := wr.drewN nq) (T := 3) (.int .i64 j))
          have HBz := hid (below_drewN HBr.out nq)
          have HZ := hid (HBz.out.alloc HBz.out.size (.cells #[.int .i64 j] 3)).size
          have HML := hid (chL_le l l' j)
          go_wp2_with (at_builtin; refine wpList_append_sl _ rfl _ _ 33 rfl w.heap.size 3 i0 (.int .i64 0) 1 8 Tryz.underlying33 hi hz0 hz1 hz2 rfl (by decide) _ _ _ rfl HO3.out _ 1 1 _ rfl HLT.out (one_int _ _) (by have := HML.out; unfold maxLen; omega) (by have := HML.out; omega) HZ.out ?_; intro v3 w3 hown4 hg4 _; have HO4 := hid hown4; have HG4 := hid hg4; clear hown4 hg4)
          go_roundw
          case rel =>
            refine ⟨j + 1, by go_num, by omega, ?_, below_append (HBz.out.alloc HBz.out.size _) HG4.out HO3.out (Nat.le_refl _) HZ.out⟩
            rw [HJ.out, List.map_append, List.length_append]
            exact HO4.out
          case measure => simp [intOf]; omega
      · have HJ := hid (chL_yes (l := l) (m := l') (j := j) (chB_out (by rw [HL.out, HL'.out]; exact hin)))
        have hge : min (n : Int) (m : Int) ≤ (j : Int) := by omega
        go_wp2
        go_quiet (fail)
        have HO3 := hid ((show (wr.drewN nq).ownsRow w.heap.size 3 1 _ _ _ from hown).alloc (.cells #[.int .i64 j] 3))
        have HLT := hid (SlA.lit1 (w := wr.drewN nq) (T := 3) (.int .i64 j))
        have HBz := hid (below_drewN HBr.out nq)
        have HZ := hid (HBz.out.alloc HBz.out.size (.cells #[.int .i64 j] 3)).size
        have HML := hid (chL_le l l' j)
        go_wp2_with (at_builtin; refine wpList_append_sl _ rfl _ _ 33 rfl w.heap.size 3 i0 (.int .i64 0) 1 8 Tryz.underlying33 hi hz0 hz1 hz2 rfl (by decide) _ _ _ rfl HO3.out _ 1 1 _ rfl HLT.out (one_int _ _) (by have := HML.out; unfold maxLen; omega) (by have := HML.out; omega) HZ.out ?_; intro v3 w3 hown4 hg4 _; have HO4 := hid hown4; have HG4 := hid hg4; clear hown4 hg4)
        go_roundw
        case rel =>
          refine ⟨j + 1, by go_num, by omega, ?_, below_append (HBz.out.alloc HBz.out.size _) HG4.out HO3.out (Nat.le_refl _) HZ.out⟩
          rw [HJ.out, List.map_append, List.length_append]
          exact HO4.out
        case measure => simp [intOf]; omega
    · have hjn : j = M := by omega
      have HJ := hid hjn; clear hjn
      go_wp2
      go_ret
      refine ⟨_, rfl, ?_, HBr.out⟩
      rw [HM.out, ← HJ.out]
      exact hown
end Go.Proofs.YtfmkniakfgpgjaaGreatDoor

/- ratchet: what Add does to a node above. -/
namespace Go.Proofs.YtfmkniakfgpgjaaGreatDoor
open Go.RowKit Go.KK Go.Shelf
set_option linter.unusedVariables false
set_option linter.unusedSimpArgs false

/-- How many of a list's numbers are less. -/
def lessN (u : List Int) (i : Int) : Nat := u.countP (· < i)
theorem lessN_le (u : List Int) (i : Int) : lessN u i ≤ u.length := List.countP_le_length
/-- The numbers in a parent's list, and one more. -/
def addN (i : Int) (x : TN) : TN := if x.k = 2 then { x with u := insL x.u (lessN x.u i) i } else x
/-- A block beside the tree. -/
structure Far (w : World) (g : Nat) (xs : List TN) (qs : List Value) (b : Nat) : Prop where
  lt : b < w.heap.size
  ne : b ≠ g
  far : ∀ (j : Nat) x q, xs[j]? = some x → qs[j]? = some q → x.k = 2 → q.ownBlock ≠ some b
/-- What a step on the tree leaves alone. -/
def Keeps (w w' : World) (g : Nat) (xs xs' : List TN) (qs qs' : List Value) : Prop := ∀ b, Far w g xs qs b → Far w' g xs' qs' b ∧ w'.heap[b]? = w.heap[b]?
theorem Keeps.refl (w : World) (g : Nat) (xs : List TN) (qs : List Value) : Keeps w w g xs xs qs qs := fun _ h => ⟨h, rfl⟩
theorem Keeps.trans {a b c : World} {g : Nat} {xs ys zs : List TN} {qs rs ts : List Value} (h : Keeps a b g xs ys qs rs) (k : Keeps b c g ys zs rs ts) : Keeps a c g xs zs qs ts := fun x hx =>
  have h1 := h x hx
  have h2 := k x h1.1
  ⟨h2.1, h2.2.trans h1.2⟩
theorem Far.new {w w' : World} {base g cap : Nat} {xs : List TN} {qs : List Value} (h : TrW w base g cap xs qs) {b : Nat} (hb : w.heap.size ≤ b) (hb' : b < w'.heap.size) : Far w' g xs qs b :=
  ⟨hb', by have := h.lt; omega, fun j x q hx hq hk e => by have := (((h.own j x q hx hq).1 hk).1.lt b e).2; omega⟩
theorem Far.ext {w w' : World} {g : Nat} {xs : List TN} {qs : List Value} {b : Nat} (h : Far w g xs qs b) (hb : w.heap.size ≤ w'.heap.size) : Far w' g xs qs b := ⟨Nat.lt_of_lt_of_le h.lt hb, h.ne, h.far⟩
theorem far_ins {w w1 w2 : World} {g : Nat} {xs : List TN} {qs : List Value} (hw : Below w.heap.size w w1) {j : Nat} {x : TN} {p : Value} (hx : xs[j]? = some x) (hp : qs[j]? = some p) (u : List Int) (q : Value) (hk : x.k = 2) (hg2 : w1.grownBy w2 p.ownBlock)
    (hnew : q.ownBlock = p.ownBlock ∨ q.ownBlock = some w1.heap.size) : Keeps w (w2.setCell ⟨g, j * 6 + 5, none⟩ q) g xs (xs.set j { x with u := u }) qs (qs.set j q) := by
  intro b hb
  have h1 := Nat.lt_of_lt_of_le hb.lt hw.size
  refine ⟨⟨by have := hg2.size; simp; omega, hb.ne, fun k y r hy hr hk2 => ?_⟩, ?_⟩
  · rcases set_get hr with ⟨rfl, rfl⟩ | ⟨hne, hr'⟩
    · rcases hnew with e | e
      · rw [e]; exact hb.far k x p hx hp hk
      · rw [e]; intro e2; injection e2 with e2; omega
    · rcases set_get hy with ⟨hh, _⟩ | ⟨_, hy'⟩
      · exact absurd hh hne
      · exact hb.far k y r hy' hr' hk2
  · rw [Below.heap_setCell w2 ⟨g, j * 6 + 5, none⟩ q b hb.ne, hg2.block b h1 (fun e => hb.far j x p hx hp hk e.symm), hw.block b hb.lt]
end Go.Proofs.YtfmkniakfgpgjaaGreatDoor

/- append(t, make([]T, k)...) onto a row of the call's own; of nodes. -/
namespace Go.KK
open Go.RowKit
set_option linter.unusedVariables false
set_option linter.unusedSimpArgs false

theorem run_append_zeros_own {P : Program} (w : World) (base : Nat) (t tn ty e : TypeId) (i : TypeInfo) (z : Value) (kq kn : IntKind) (size : Nat) (ht : P.underlying t = some (.slice e)) (htn : P.underlying tn = some (.int kn)) (hi : P.info? e = some i) (hz : i.zero = some z)
    (hsize : i.size = size) (hzs : z.cells.size = size) (hsz : 0 < size) (hz1 : ∀ v ∈ z.cells.toList, v.oneCell' = true)
    (g n cap : Nat) (xs : List Value) (hown : w.ownsRow base e size (.slice (some ⟨g, 0, none⟩) n cap) n xs) (k : Nat) (h0 : 0 < k) (hb : i.bytes ≤ 100000) (hn : n ≤ 100000) (hk : k ≤ 100000) (hbase : base ≤ w.heap.size) :
    ∃ g' cap' w', (Builtin.append_ #[t, tn] ty #[.slice (some ⟨g, 0, none⟩) n cap, .int kq k]).run P w = .ok (.slice (some ⟨g', 0, none⟩) (n + k) cap') w' ∧
      w'.ownsRow base e size (.slice (some ⟨g', 0, none⟩) (n + k) cap') (n + k) (xs ++ (Builtin.zeroCells z.cells k).toList) ∧ w.grownBy w' (some g) ∧ (g' = g ∨ g' = w.heap.size) := by
  subst hsize
  have hzl : (Builtin.zeroCells z.cells k).toList.length = k * i.size := by rw [Array.length_toList, size_zeroCells, hzs]
  have hlen : (xs ++ (Builtin.zeroCells z.cells k).toList).length = (n + k) * i.size := by rw [List.length_append, hown.1, hzl, Nat.add_mul]
  rcases hown.2 with ⟨e1, _⟩ | ⟨g1, cap1, cur, e1, hbg, hg, hnc, hcm, hcs, htake⟩
  · cases e1
  · injection e1 with e1 e2 e3
    injection e1 with e1
    injection e1 with e4 e5
    subst e4; subst e3
    have hw : IntKind.i64.wrap (k : Int) = k := by rw [IntKind.wrap_i64]; omega
    have hk0 : k ≠ 0 := by omega
    have hks : ¬ (k * i.size = 0) := Nat.mul_ne_zero hk0 (by omega)
    have hneg : ¬ ((k : Int) < 0) := by omega
    have hkb : k * i.bytes ≤ 10000000000 := by
      have := Nat.mul_le_mul hk hb
      omega
    have h48 : ¬ (281474976710656 < (k : Int) * (i.bytes : Int)) := by
      rw [← Int.natCast_mul]; omega
    by_cases hroom : n + k ≤ cap
    · have hfit : n * i.size + 0 + (Builtin.zeroCells z.cells k).toList.length ≤ cur.size := by rw [hzl, hcs, Nat.add_zero, ← Nat.add_mul]; exact Nat.mul_le_mul_right _ hroom
      have h1 : ∀ v ∈ (Builtin.zeroCells z.cells k).toList, v.oneCell' = true := by
        intro v hv
        unfold Builtin.zeroCells at hv
        simp only [Array.toList_map, List.mem_map] at hv
        obtain ⟨m, _, rfl⟩ := hv
        have hm : m % z.cells.size < z.cells.size := Nat.mod_lt _ (by omega)
        rw [getElem!_pos z.cells _ hm]
        exact hz1 _ (Array.getElem_mem_toList _)
      have hst := run_storeCells_at P g (n * i.size) e _ 0 cur w hg hfit h1
      obtain ⟨L, hL⟩ : ∃ L, L = (cur.toList.take (n * i.size) ++ (Builtin.zeroCells z.cells k).toList ++ cur.toList.drop (n * i.size + (Builtin.zeroCells z.cells k).toList.length)).toArray := ⟨_, rfl⟩
      simp only [Nat.add_zero] at hst
      rw [← hL] at hst
      refine ⟨g, cap, w.setRow g L, ?_, ⟨hlen, .inr ⟨g, cap, L, rfl, hbg, setRow_heap w g cur L e _ hg, hroom, hcm, ?_, ?_⟩⟩, ⟨rfl, rfl, rfl, by simp, fun k _ hk => setRow_other w g k _ (fun e => hk (by simp [e]))⟩, .inl rfl⟩
      · simp [Builtin.append_, run_underlying ht, run_underlying htn, sizeOf, typeInfo, zeroValue, hi, hz, asInt, asIntOf, hw, hneg, hks, h48, hroom, Addr.add_lit]
        rw [hst]
        rfl
      · rw [hL]
        simp only [List.size_toArray, List.length_append, List.length_take, List.length_drop, Array.length_toList]
        simp only [Array.length_toList] at hfit
        omega
      · rw [hL, htake, ← hlen]
        exact List.take_left
    · have hold : (Builtin.firstCells i.size n (.slice (some ⟨g, 0, none⟩) n cap)).run P w.drew = .ok xs.toArray w.drew := by
        have := run_firstCells_some (P := P) w.drew i.size n ⟨g, 0, none⟩ n cap xs hown.1 (fun j u hj => by
          have := hown.cells (g := g) rfl j u hj
          exact this)
        exact this
      have hg1 := grownCap_ge w (n + k) cap e
      have hg2 := grownCap_le_maxLen w (n + k) cap e (by unfold maxLen; omega)
      have hnx : Builtin.nextslicecap (n + k) cap ≤ 2 * (n + k) := by
        unfold Builtin.nextslicecap
        split
        · omega
        · split
          · omega
          · simp only [Builtin.growBy]
            repeat' split
            all_goals omega
      have hr := Lib.run_append_grow_zeros (P := P) w t tn ty e i z kq kn ht htn hi hz (some ⟨g, 0, none⟩) n cap xs hold k h0 (by omega) (by omega) (by omega) (by omega) (by
        have := Nat.mul_le_mul hnx hb
        have h3 : 2 * (n + k) * 100000 ≤ 2 * 200000 * 100000 := Nat.mul_le_mul_right _ (by omega)
        omega)
      refine ⟨w.heap.size, _, _, hr, ⟨hlen, .inr ⟨w.heap.size, _, _, rfl, hbase, heap_alloc_new w.drew _, hg1, hg2, ?_, ?_⟩⟩, grown_undrew (World.grownBy_alloc w.drew _ _), .inr rfl⟩
      · rw [Array.size_append, Array.size_append, size_zeroCells, size_zeroCells, hzs, List.size_toArray, hown.1, ← Nat.add_mul, ← Nat.add_mul]
        congr 1
        omega
      · rw [Array.toList_append, Array.toList_append, List.take_append_of_le_length (by rw [List.length_append, hzl, hown.1, ← Nat.add_mul]; exact Nat.le_refl _)]
        show ((xs ++ (Builtin.zeroCells z.cells k).toList).take ((n + k) * i.size)) = _
        rw [← hlen, List.take_length]

def zeroN : TN := ⟨0, 0, 0, 0, 0, []⟩
theorem zeros_nodes (k : Nat) : (Builtin.zeroCells (Value.agg #[.int .i64 0, .int .i64 0, .int .i64 0, .int .i64 0, .int .i64 0, .slice none 0 0]).cells k).toList = ncs (List.replicate k zeroN) (List.replicate k (.slice none 0 0)) := by
  refine ncs_ext (by simp) (by rw [Array.length_toList, size_zeroCells]; simp [Value.cells]) ?_
  intro j x q hx hq d hd
  have hjk : j < k := by
    rcases Nat.lt_or_ge j k with hh | hh
    · exact hh
    · rw [List.getElem?_eq_none (by simpa using hh)] at hx; cases hx
  rw [List.getElem?_replicate, if_pos hjk] at hx hq
  injection hx with hx; injection hq with hq
  subst hx; subst hq
  have hlt : j * 6 + d < k * 6 := by omega
  unfold Builtin.zeroCells
  simp only [Value.cells, Array.toList_map, List.getElem?_map, Array.toList_range]
  rw [List.getElem?_range (by simpa using hlt)]
  have hm : (j * 6 + d) % 6 = d := by omega
  have hd' : d = 0 ∨ d = 1 ∨ d = 2 ∨ d = 3 ∨ d = 4 ∨ d = 5 := by omega
  rcases hd' with rfl | rfl | rfl | rfl | rfl | rfl <;> simp [hm, TN.cells, zeroN]
theorem ncs_app {xs ys : List TN} {qs rs : List Value} (hq : qs.length = xs.length) (hr : rs.length = ys.length) : ncs (xs ++ ys) (qs ++ rs) = ncs xs qs ++ ncs ys rs := by
  unfold ncs
  rw [List.zipWith_append hq.symm, List.flatten_append]
theorem TrW.mono {w : World} {base base' g cap : Nat} {xs : List TN} {qs : List Value} (h : TrW w base g cap xs qs) (hb : base' ≤ base) : TrW w base' g cap xs qs :=
  ⟨own_mono h.row hb, h.ql, fun j x q hx hq => ⟨fun hk => ⟨own_mono ((h.own j x q hx hq).1 hk).1 hb, ((h.own j x q hx hq).1 hk).2⟩, (h.own j x q hx hq).2⟩, h.apart⟩
/-- More nodes, all of them blank. -/
theorem TrW.more {w w' : World} {base g cap g' cap' k : Nat} {xs : List TN} {qs : List Value} (h : TrW w base g cap xs qs) (hw : w.grownBy w' (some g)) (hg' : g' = g ∨ g' = w.heap.size)
    (hrow : w'.ownsRow base 46 6 (.slice (some ⟨g', 0, none⟩) (xs.length + k) cap') (xs.length + k) (ncs xs qs ++ ncs (List.replicate k zeroN) (List.replicate k (.slice none 0 0)))) :
    TrW w' base g' cap' (xs ++ List.replicate k zeroN) (qs ++ List.replicate k (.slice none 0 0)) := by
  have at_old : ∀ {j : Nat} {x : TN}, (xs ++ List.replicate k zeroN)[j]? = some x → x.k = 2 → xs[j]? = some x := by
    intro j x hx hk
    by_cases hj : j < xs.length
    · rwa [List.getElem?_append_left hj] at hx
    · rw [List.getElem?_append_right (by omega), List.getElem?_replicate] at hx
      split at hx
      · injection hx with hx; subst hx; exact absurd hk (by decide)
      · cases hx
  have q_old : ∀ {j : Nat} {q : Value}, j < xs.length → (qs ++ List.replicate k (Value.slice none 0 0))[j]? = some q → qs[j]? = some q := by
    intro j q hj hq
    rwa [List.getElem?_append_left (by rw [h.ql]; exact hj)] at hq
  refine ⟨?_, by simp [h.ql], fun j x q hx hq => ⟨fun hk => ?_, fun hk => ?_⟩, fun i j x y p q b hx hy hp hq k1 k2 b1 b2 => ?_⟩
  · rw [ncs_app h.ql (by simp), List.length_append, List.length_replicate]
    exact hrow
  · have hx' := at_old hx hk
    have hq' := q_old (List.getElem?_eq_some_iff.1 hx').1 hq
    obtain ⟨o1, o2⟩ := (h.own j x q hx' hq').1 hk
    refine ⟨o1.kept hw (.inr o2), ?_⟩
    rcases hg' with e | e
    · rw [e]; exact o2
    · intro e2
      have := (o1.lt g' e2).2
      omega
  · by_cases hj : j < xs.length
    · rw [List.getElem?_append_left hj] at hx
      exact (h.own j x q hx (q_old hj hq)).2 hk
    · rw [List.getElem?_append_right (by omega), List.getElem?_replicate] at hx
      rw [List.getElem?_append_right (by rw [h.ql]; omega), List.getElem?_replicate] at hq
      split at hx
      · injection hx with hx
        split at hq
        · injection hq with hq
          subst hx; subst hq
          exact ⟨rfl, none, 0, rfl, Nat.zero_le _⟩
        · cases hq
      · cases hx
  · have hx' := at_old hx k1
    have hy' := at_old hy k2
    exact h.apart i j x y p q b hx' hy' (q_old (List.getElem?_eq_some_iff.1 hx').1 hp) (q_old (List.getElem?_eq_some_iff.1 hy').1 hq) k1 k2 b1 b2

end Go.KK

/- ratchet: the way up from a leaf. -/
namespace Go.Proofs.YtfmkniakfgpgjaaGreatDoor
open Go.RowKit Go.KK Go.Shelf
set_option linter.unusedVariables false
set_option linter.unusedSimpArgs false

/-- One node turned. -/
def upd (f : TN → TN) (xs : List TN) (j : Nat) : List TN := match xs[j]? with | some x => xs.set j (f x) | none => xs
def updAll (f : TN → TN) : List TN → List Int → List TN
  | xs, [] => xs
  | xs, y :: l => updAll f (upd f xs y.toNat) l
theorem upd_at {f : TN → TN} {xs : List TN} {j : Nat} {x : TN} (h : xs[j]? = some x) : upd f xs j = xs.set j (f x) := by unfold upd; rw [h]
theorem upd_len (f : TN → TN) (xs : List TN) (j : Nat) : (upd f xs j).length = xs.length := by
  unfold upd
  split <;> simp
theorem updAll_len (f : TN → TN) : ∀ (l : List Int) (xs : List TN), (updAll f xs l).length = xs.length
  | [], _ => rfl
  | y :: l, xs => by rw [updAll, updAll_len f l, upd_len]
theorem updAll_snoc (f : TN → TN) : ∀ (l : List Int) (xs : List TN) (y : Int), updAll f xs (l ++ [y]) = upd f (updAll f xs l) y.toNat
  | [], _, _ => rfl
  | z :: l, xs, y => by rw [List.cons_append, updAll, updAll, updAll_snoc f l]
theorem upd_get {f : TN → TN} {xs : List TN} {j k : Nat} {x : TN} (h : (upd f xs j)[k]? = some x) : (k = j ∧ ∃ y, xs[j]? = some y ∧ x = f y) ∨ (k ≠ j ∧ xs[k]? = some x) := by
  unfold upd at h
  split at h
  · rename_i y hy
    rcases set_get h with ⟨rfl, rfl⟩ | ⟨hne, h'⟩
    · exact .inl ⟨rfl, y, hy, rfl⟩
    · exact .inr ⟨hne, h'⟩
  · rename_i hn
    by_cases hk : k = j
    · subst hk; rw [hn] at h; cases h
    · exact .inr ⟨hk, h⟩

/-- Parents' lists are in order, and short. -/
def Ord (B : Nat) (xs : List TN) : Prop := ∀ (j : Nat) x, xs[j]? = some x → x.u.Pairwise (· ≤ ·) ∧ x.u.length ≤ B
theorem lessN_take {u : List Int} (h : u.Pairwise (· ≤ ·)) (i : Int) : (∀ y ∈ u.take (lessN u i), y < i) ∧ (∀ y ∈ u.drop (lessN u i), i ≤ y) := by
  induction u with
  | nil => simp [lessN]
  | cons a u ih =>
    have h' := List.pairwise_cons.1 h
    obtain ⟨i1, i2⟩ := ih h'.2
    by_cases ha : a < i
    · have e : lessN (a :: u) i = lessN u i + 1 := by unfold lessN; rw [List.countP_cons_of_pos (by simpa using ha)]
      rw [e, List.take_succ_cons, List.drop_succ_cons]
      refine ⟨fun y hy => ?_, i2⟩
      rcases List.mem_cons.1 hy with rfl | hy
      · exact ha
      · exact i1 y hy
    · have e : lessN (a :: u) i = 0 := by
        unfold lessN
        rw [List.countP_eq_zero]
        intro y hy
        rcases List.mem_cons.1 hy with rfl | hy
        · simpa using ha
        · have := h'.1 y hy; simp; omega
      rw [e]
      refine ⟨by simp, fun y hy => ?_⟩
      rw [List.drop_zero] at hy
      rcases List.mem_cons.1 hy with rfl | hy
      · omega
      · have := h'.1 y hy; omega
theorem insL_sorted {u : List Int} (h : u.Pairwise (· ≤ ·)) (i : Int) : (insL u (lessN u i) i).Pairwise (· ≤ ·) := by
  obtain ⟨h1, h2⟩ := lessN_take h i
  unfold insL
  have hp : (u.take (lessN u i) ++ u.drop (lessN u i)).Pairwise (· ≤ ·) := by rw [List.take_append_drop]; exact h
  rw [List.pairwise_append] at hp ⊢
  refine ⟨hp.1, List.pairwise_cons.2 ⟨h2, hp.2.1⟩, fun a ha b hb => ?_⟩
  rcases List.mem_cons.1 hb with rfl | hb
  · have := h1 a ha; omega
  · exact hp.2.2 a ha b hb
theorem Ord.add {B : Nat} {xs : List TN} {i : Int} (h : Ord B xs) (j : Nat) : Ord (B + 1) (upd (addN i) xs j) := by
  intro k x hx
  rcases upd_get hx with ⟨rfl, y, hy, rfl⟩ | ⟨_, hx'⟩
  · obtain ⟨h1, h2⟩ := h k y hy
    unfold addN
    split
    · exact ⟨insL_sorted h1 i, by show (insL _ _ _).length ≤ _; rw [insL_len _ _ _ (lessN_le _ _)]; omega⟩
    · exact ⟨h1, by omega⟩
  · obtain ⟨h1, h2⟩ := h k x hx'
    exact ⟨h1, by omega⟩

theorem sla_block {w w' : World} {b o n c : Nat} {xs : List Value} (h : SlA w 1 (some ⟨b, o, none⟩) n c xs) (hb : w'.heap[b]? = w.heap[b]?) : SlA w' 1 (some ⟨b, o, none⟩) n c xs :=
  ⟨h.nc, h.cm, h.len, fun j u hj => by
    obtain ⟨b', o', e, hc⟩ := h.cells j u hj
    have e' := e
    injection e' with e'
    injection e' with e1 e2
    subst e1; subst e2
    exact ⟨b, o, rfl, (World.cell?_of_block (a := ⟨b, o + j, none⟩) hb).trans hc⟩⟩
def blankN (_ : TN) : TN := zeroN
theorem keeps_node {w : World} {base g cap : Nat} {xs : List TN} {qs : List Value} (h : TrW w base g cap xs qs) (j : Nat) (y : TN) (q : Value) (hk : y.k ≠ 2) (a1 a2 a3 a4 a5 a6 : Value) :
    Keeps w ((((((w.setCell ⟨g, j * 6, none⟩ a1).setCell ⟨g, j * 6 + 1, none⟩ a2).setCell ⟨g, j * 6 + 2, none⟩ a3).setCell ⟨g, j * 6 + 3, none⟩ a4).setCell ⟨g, j * 6 + 4, none⟩ a5).setCell ⟨g, j * 6 + 5, none⟩ a6) g xs (xs.set j y) qs (qs.set j q) := by
  intro b hb
  refine ⟨⟨by simpa using hb.lt, hb.ne, fun k z r hz hr hk2 => ?_⟩, ?_⟩
  · rcases set_get hz with ⟨rfl, rfl⟩ | ⟨hne, hz'⟩
    · exact absurd hk2 hk
    · rcases set_get hr with ⟨hh, _⟩ | ⟨_, hr'⟩
      · exact absurd hh hne
      · exact hb.far k z r hz' hr' hk2
  · repeat rw [Below.heap_setCell _ _ _ b hb.ne]
end Go.Proofs.YtfmkniakfgpgjaaGreatDoor

/- ratchet: Add. -/
namespace Go.Proofs.YtfmkniakfgpgjaaGreatDoor
open Go.RowKit Go.KK Go.Shelf
set_option linter.unusedVariables false
set_option linter.unusedSimpArgs false

/-- The first place that is free. -/
def freeN (xs : List TN) : Nat := ((List.range (lvN xs.length)).takeWhile fun j : Nat => pres xs (j : Int)).length
theorem freeN_is {xs : List TN} {j : Nat} (h1 : ∀ k, k < j → pres xs (k : Int) = true) (h2 : pres xs (j : Int) = false) (h3 : j ≤ lvN xs.length) : freeN xs = j := by
  unfold freeN
  have e : List.range (lvN xs.length) = List.range j ++ (List.range (lvN xs.length)).drop j := by
    rw [← List.take_append_drop j (List.range (lvN xs.length)), List.take_range, Nat.min_eq_left h3, List.drop_append, List.length_range]
    simp
  rw [e, List.takeWhile_append_of_pos (by intro k hk; exact h1 k (List.mem_range.1 hk)), List.length_append, List.length_range]
  by_cases hj : j < lvN xs.length
  · rw [List.drop_eq_getElem_cons (by simpa using hj), List.takeWhile_cons_of_neg (by rw [List.getElem_range, h2]; decide)]
    rfl
  · rw [List.drop_of_length_le (by simpa using by omega)]; rfl
def growL (xs : List TN) (f : Nat) : List TN := if f = lvN xs.length then xs ++ List.replicate (2 * f) zeroN else xs
/-- A tree with one more leaf. -/
def addL (xs : List TN) (l : TN) : List TN := updAll (addN (freeN xs)) ((growL xs (freeN xs)).set (2 * freeN xs) l) (pathL (2 * (freeN xs : Int)) (lvN (growL xs (freeN xs)).length))

/-- What holds while the first free place is looked for. -/
structure AddR (w wr : World) (g cap bi : Nat) (xs : List TN) (qs : List Value) (lb : Array Value) (j : Nat) : Prop where
  cell : wr.cell? ⟨bi, 0, none⟩ = some (.int .i64 j)
  froz : wr.frozen? ⟨bi, 0, none⟩ = false
  tr : TrW wr w.heap.size g cap xs qs
  far : Far wr g xs qs bi
  box : wr.heap[w.heap.size]? = some (.cells lb 46 (0, 0))
  bfar : Far wr g xs qs w.heap.size
  below : Below w.heap.size w wr
  bne : w.heap.size < bi
theorem AddR.drewN {w wr : World} {g cap bi : Nat} {xs : List TN} {qs : List Value} {lb : Array Value} {j : Nat} (h : AddR w wr g cap bi xs qs lb j) (k : Nat) : AddR w (wr.drewN k) g cap bi xs qs lb j :=
  ⟨h.cell, h.froz, h.tr.drewN k, ⟨h.far.lt, h.far.ne, h.far.far⟩, h.box, ⟨h.bfar.lt, h.bfar.ne, h.bfar.far⟩, below_drewN h.below k, h.bne⟩
theorem far_set {w : World} {base g cap : Nat} {xs : List TN} {qs : List Value} {b : Nat} (h : TrW w base g cap xs qs) (hf : Far w g xs qs b) (u : Value) : TrW (w.setCell ⟨b, 0, none⟩ u) base g cap xs qs := by
  have hg : w.grownBy (w.setCell ⟨b, 0, none⟩ u) (some b) := ⟨rfl, rfl, rfl, by simp, fun k _ hk => Below.heap_setCell w ⟨b, 0, none⟩ u k (fun e => hk (by rw [e]))⟩
  exact h.grown hg (fun e => hf.ne (by injection e)) (fun j x q hx hq hk => .inr (hf.far j x q hx hq hk))
theorem AddR.step {w wr : World} {g cap bi : Nat} {xs : List TN} {qs : List Value} {lb : Array Value} {j : Nat} (h : AddR w wr g cap bi xs qs lb j) (k : Nat) (v : Value) (hv : v = .int .i64 (k : Int)) : AddR w (wr.setCell ⟨bi, 0, none⟩ v) g cap bi xs qs lb k := by
  subst hv
  exact ⟨World.cell?_setCell_same _ _ _ h.cell, by simpa using h.froz, far_set h.tr h.far _, ⟨by simpa using h.far.lt, h.far.ne, h.far.far⟩, by rw [Below.heap_setCell _ _ _ _ (by have := h.bne; show w.heap.size ≠ bi; omega)]; exact h.box, ⟨by simpa using h.bfar.lt, h.bfar.ne, h.bfar.far⟩, h.below.setCell (Nat.le_of_lt h.bne) _, h.bne⟩
theorem AddR.start {w w1 w2 : World} {g cap : Nat} {xs : List TN} {qs : List Value} {lb : Array Value} (htr : TrW w2 w1.heap.size g cap xs qs) (hlt : w.heap.size < w1.heap.size) (hbox : w2.heap[w.heap.size]? = some (.cells lb 46 (0, 0))) (hb : Below w.heap.size w w2) (hz : w1.heap.size ≤ w2.heap.size) :
    AddR w (w2.alloc (.cells #[.int .i64 0] 3)) g cap w2.heap.size xs qs lb 0 := by
  have hgl := htr.lt
  refine ⟨by rw [World.cell?_alloc_at _ _ _ _ rfl]; rfl, by rw [World.frozen?_alloc_at _ _ _ _ rfl], (htr.alloc _).mono (Nat.le_of_lt hlt), Far.new htr (Nat.le_refl _) (by simp), ?_, ⟨by simp; omega, by omega, fun j x q hx hq hk e => ?_⟩, hb.alloc (by omega) _, by omega⟩
  · exact (World.grownBy_alloc w2 _ none).block _ (by omega) (by simp) |>.trans hbox
  · have := (((htr.own j x q hx hq).1 hk).1.lt _ e).1
    omega
/-- What a node's cells are, and that they may be written. -/
theorem _root_.Go.KK.TrW.six {w : World} {base g cap : Nat} {xs : List TN} {qs : List Value} (h : TrW w base g cap xs qs) {j : Nat} (hj : j < xs.length) : ∃ x q, xs[j]? = some x ∧ qs[j]? = some q ∧
    w.cell? ⟨g, j * 6, none⟩ = some (.int .i64 x.k) ∧ w.cell? ⟨g, j * 6 + 1, none⟩ = some (.int .i64 x.i) ∧ w.cell? ⟨g, j * 6 + 2, none⟩ = some (.int .i64 x.e) ∧ w.cell? ⟨g, j * 6 + 3, none⟩ = some (.int .i64 x.s) ∧ w.cell? ⟨g, j * 6 + 4, none⟩ = some (.int .i64 x.h) ∧ w.cell? ⟨g, j * 6 + 5, none⟩ = some q ∧
    w.frozen? ⟨g, j * 6, none⟩ = false ∧ w.frozen? ⟨g, j * 6 + 1, none⟩ = false ∧ w.frozen? ⟨g, j * 6 + 2, none⟩ = false ∧ w.frozen? ⟨g, j * 6 + 3, none⟩ = false ∧ w.frozen? ⟨g, j * 6 + 4, none⟩ = false ∧ w.frozen? ⟨g, j * 6 + 5, none⟩ = false := by
  have hx : xs[j]? = some xs[j] := List.getElem?_eq_getElem hj
  have hq : qs[j]? = some (qs[j]'(by rw [h.ql]; exact hj)) := List.getElem?_eq_getElem _
  refine ⟨_, _, hx, hq, ?_, ?_, ?_, ?_, ?_, ?_, h.row.frozenAt _, h.row.frozenAt _, h.row.frozenAt _, h.row.frozenAt _, h.row.frozenAt _, h.row.frozenAt _⟩
  · rw [h.row.cellAt (j * 6) (by omega), show j * 6 = j * 6 + 0 from rfl, ncs_get hx hq (by omega)]; rfl
  all_goals (rw [h.row.cellAt _ (by omega), ncs_get hx hq (by omega)]; rfl)
theorem ord_app {xs : List TN} {B : Nat} (h : Ord B xs) (k : Nat) : Ord B (xs ++ List.replicate k zeroN) := by
  intro j x hx
  by_cases hj : j < xs.length
  · rw [List.getElem?_append_left hj] at hx; exact h j x hx
  · rw [List.getElem?_append_right (by omega), List.getElem?_replicate] at hx
    split at hx
    · injection hx with hx; subst hx; exact ⟨List.Pairwise.nil, by simp [zeroN]⟩
    · cases hx
theorem fullN_dbl {j : Nat} (h : fullN (j : Int) = true) (h2 : j ≠ 256) : fullN ((2 * j : Nat) : Int) = true := by
  have := of_decide_eq_true h
  exact decide_eq_true (by omega)
theorem far_more {w w' : World} {base g cap g' : Nat} {xs : List TN} {qs : List Value} {b : Nat} (ht : TrW w base g cap xs qs) (h : Far w g xs qs b) (hw : w.grownBy w' (some g)) (hg' : g' = g ∨ g' = w.heap.size) (k : Nat) :
    Far w' g' (xs ++ List.replicate k zeroN) (qs ++ List.replicate k (.slice none 0 0)) b ∧ w'.heap[b]? = w.heap[b]? := by
  refine ⟨⟨Nat.lt_of_lt_of_le h.lt hw.size, ?_, fun j x q hx hq hk => ?_⟩, hw.block b h.lt (fun e => h.ne (by injection e))⟩
  · rcases hg' with e | e
    · rw [e]; exact h.ne
    · have := h.lt; omega
  · by_cases hj : j < xs.length
    · rw [List.getElem?_append_left hj] at hx
      rw [List.getElem?_append_left (by rw [ht.ql]; exact hj)] at hq
      exact h.far j x q hx hq hk
    · rw [List.getElem?_append_right (by omega), List.getElem?_replicate] at hx
      split at hx
      · injection hx with hx; subst hx; exact absurd hk (by decide)
      · cases hx
def cellN (w : World) (b : Nat) : Nat := match w.cell? ⟨b, 0, none⟩ with | some v => (intOf v).toNat | none => 0
theorem cellN_is {w : World} {b j : Nat} (h : w.cell? ⟨b, 0, none⟩ = some (.int .i64 (j : Int))) : cellN w b = j := by unfold cellN; rw [h]; simp [intOf]
theorem ord_set {xs : List TN} {B : Nat} (h : Ord B xs) (j : Nat) (y : TN) (h1 : y.u.Pairwise (· ≤ ·)) (h2 : y.u.length ≤ B) : Ord B (xs.set j y) := by
  intro k x hx
  rcases set_get hx with ⟨rfl, rfl⟩ | ⟨_, hx'⟩
  · exact ⟨h1, h2⟩
  · exact h k x hx'
/-- What Add answers. -/
def AddP (w : World) (xs : List TN) (l : TN) (r : Ending) (w' : World) : Prop :=
  (freeN xs = 256 ∧ lvN xs.length = 256 ∧ r = .returned (.tuple #[.slice none 0 0, .int .i64 0, .int .i64 2]) ∧ Below w.heap.size w w') ∨
  (¬ (freeN xs = 256 ∧ lvN xs.length = 256) ∧ ∃ g cap qs, r = .returned (.tuple #[.slice (some ⟨g, 0, none⟩) (addL xs l).length cap, .int .i64 (freeN xs), .int .i64 0]) ∧ TrW w' w.heap.size g cap (addL xs l) qs ∧ Below w.heap.size w w')
theorem pres_ge {xs : List TN} {j : Nat} (h : lvN xs.length ≤ j) : pres xs (j : Int) = false := pres_out (by omega)
end Go.Proofs.YtfmkniakfgpgjaaGreatDoor

/- ratchet: change, Remove, Update, New. -/
namespace Go.Proofs.YtfmkniakfgpgjaaGreatDoor
open Go.RowKit Go.KK Go.Shelf
set_option linter.unusedVariables false
set_option linter.unusedSimpArgs false

/-- A tree with another leaf at a place, blank above. -/
def chgL (xs : List TN) (i : Int) (l : TN) : List TN := updAll blankN (xs.set (2 * i).toNat l) (pathL (2 * i) (lvN xs.length))
theorem chgL_len (xs : List TN) (i : Int) (l : TN) : (chgL xs i l).length = xs.length := by unfold chgL; rw [updAll_len, List.length_set]
def ChgP (w : World) (xs : List TN) (i : Int) (l : TN) (r : Ending) (w' : World) : Prop :=
  Below w.heap.size w w' ∧ ((chkB xs = false ∧ r = .returned (.tuple #[.slice none 0 0, .int .i64 1])) ∨ (chkB xs = true ∧ pres xs i = false ∧ r = .returned (.tuple #[.slice none 0 0, .int .i64 4])) ∨
  (chkB xs = true ∧ pres xs i = true ∧ ∃ g cap qs, r = .returned (.tuple #[.slice (some ⟨g, 0, none⟩) xs.length cap, .int .i64 0]) ∧ TrW w' w.heap.size g cap (chgL xs i l) qs))
/-- A tree cut, so long as its right half has no leaf. -/
def cutF : Nat → List TN → Option (List TN)
  | 0, _ => none
  | f + 1, ys => if halfB ys then (if ys.length = 1 then none else cutF f (ys.take (ys.length / 2))) else some ys
def remO (xs : List TN) (i : Int) : Option (List TN) := cutF 10 (chgL xs i zeroN)
def RemP (w : World) (xs : List TN) (i : Int) (r : Ending) (w' : World) : Prop :=
  Below w.heap.size w w' ∧ ((chkB xs = false ∧ r = .returned (.tuple #[.slice none 0 0, .int .i64 1])) ∨ (chkB xs = true ∧ pres xs i = false ∧ r = .returned (.tuple #[.slice none 0 0, .int .i64 4])) ∨
  (chkB xs = true ∧ pres xs i = true ∧ remO xs i = none ∧ r = .returned (.tuple #[.slice none 0 0, .int .i64 1])) ∨
  (chkB xs = true ∧ pres xs i = true ∧ ∃ ys, remO xs i = some ys ∧ ∃ g cap qs, r = .returned (.tuple #[.slice (some ⟨g, 0, none⟩) ys.length cap, .int .i64 0]) ∧ TrW w' w.heap.size g cap ys qs))
def sliceN : Value → Nat
  | .slice _ n _ => n
  | _ => 0
theorem fullN_half {m : Nat} (h : fullN (m : Int) = true) (h1 : m ≠ 1) : fullN ((m / 2 : Nat) : Int) = true := by
  have := of_decide_eq_true h
  exact decide_eq_true (by omega)
theorem fullN_even {m : Nat} (h : fullN (m : Int) = true) (h1 : m ≠ 1) : m = 2 * (m / 2) := by
  have := of_decide_eq_true h
  omega
theorem half_nil : halfB [] = true := rfl
def UpdP (w : World) (xs : List TN) (i : Int) (l : TN) (r : Ending) (w' : World) : Prop :=
  ((l.k == 1 && (l.u.length : Int) == 0) = false ∧ r = .returned (.tuple #[.slice none 0 0, .int .i64 1]) ∧ Below w.heap.size w w') ∨ ((l.k == 1 && (l.u.length : Int) == 0) = true ∧ ChgP w xs i l r w')
def NewP (w : World) (l : TN) (r : Ending) (w' : World) : Prop :=
  Below w.heap.size w w' ∧ (((l.k == 1 && (l.u.length : Int) == 0) = false ∧ r = .returned (.tuple #[.slice none 0 0, .int .i64 1])) ∨ ((l.k == 1 && (l.u.length : Int) == 0) = true ∧ ∃ g cap qs, r = .returned (.tuple #[.slice (some ⟨g, 0, none⟩) 1 cap, .int .i64 0]) ∧ TrW w' w.heap.size g cap [l] qs))
theorem trw_one {w : World} {base : Nat} (l : TN) (hk : l.k = 1) (hu : l.u = []) (B : Option Addr) (d : Nat) (hd : d ≤ maxLen) (hb : base ≤ w.heap.size) :
    TrW (w.alloc (.cells #[.int .i64 l.k, .int .i64 l.i, .int .i64 l.e, .int .i64 l.s, .int .i64 l.h, .slice B 0 d] 46)) base w.heap.size 1 [l] [.slice B 0 d] := by
  refine ⟨⟨by simp [ncs, TN.cells], .inr ⟨w.heap.size, 1, _, rfl, hb, heap_alloc_new w _, Nat.le_refl _, by decide, rfl, by simp [ncs, TN.cells]⟩⟩, rfl, fun j x q hx hq => ?_, fun i j x y p q b hx hy hp hq k1 k2 _ _ => ?_⟩
  · rcases j with _ | j
    · injection hx with hx; injection hq with hq
      subst hx; subst hq
      exact ⟨fun hh => by rw [hk] at hh; exact absurd hh (by decide), fun _ => ⟨hu, B, d, rfl, hd⟩⟩
    · simp at hx
  · rcases i with _ | i
    · injection hx with hx
      subst hx
      rw [hk] at k1; exact absurd k1 (by decide)
    · simp at hx
end Go.Proofs.YtfmkniakfgpgjaaGreatDoor

/- the reference of layer 3: In, SameInts. -/
namespace Go.Proofs.YtfmkniakfgpgjaaGreatDoor
open Go.RowKit Go.KK Go.Shelf
set_option linter.unusedVariables false
set_option linter.unusedSimpArgs false

/-- Whether a number is in a list. -/
def inTB (l : List Int) (x : Int) : Bool := l.contains x
theorem int_any (A : Option Addr) (n c : Nat) (l : List Int) (x : Int) (w : World) (h : SlA w 1 A n c (l.map (.int .i64))) (hn : n ≤ 2147483648) :
    Calls Tryz.prog 105 #[.slice A n c, .int .i64 x] w fun e w' => e = .returned (.bool (inTB l x)) ∧ w' = w := by
  have HL := hid h.lenI; have HS := hid h
  clear h
  go_enter Tryz.func105, Tryz.ntmps105
  go_wp2
  go_loop [9, 4] (fun i _ => ∃ j : Nat, i = .int .i64 j ∧ j ≤ n ∧ Hid (inTB l x = inTB (l.drop j) x)) (fun i _ => n - (intOf i).toNat)
  case atStart => exact ⟨0, rfl, by omega, hid rfl⟩
  case round =>
    obtain ⟨j, hi, hj, HJ⟩ := hrel
    subst hi
    by_cases hlt : j < n
    · obtain ⟨b, o, z, rfl, hz, hc⟩ := HS.out.elemI hlt
      have HD := hid (tdrop_get hz); clear hz
      by_cases hzx : z = x
      · have HF := hid (show inTB l x = true by rw [HJ.out, HD.out, hzx]; unfold inTB; simp)
        have hzx' : (z == x) = true := beq_iff_eq.2 hzx
        clear hzx
        go_wp2
        go_ret
        exact ⟨by rw [HF.out]; rfl, rfl⟩
      · have HF := hid (show inTB l x = inTB (l.drop (j + 1)) x by
          rw [HJ.out, HD.out]; unfold inTB; rw [List.contains_cons, beq_eq_false_iff_ne.2 (fun e => hzx e.symm), Bool.false_or])
        have hzx' : (z == x) = false := beq_eq_false_iff_ne.2 hzx
        clear hzx
        go_wp2
        go_round
        case rel => exact ⟨j + 1, by go_num, by omega, HF⟩
        case measure => simp [intOf]; omega
    · have HF := hid (show inTB l x = false by rw [HJ.out, List.drop_of_length_le (by have := HL.out; omega)]; rfl)
      go_wp2
      go_ret
      exact ⟨by rw [HF.out]; rfl, rfl⟩
/-- Two nodes are the same. -/
def sameN (a b : TN) : Bool := a.k == b.k && a.i == b.i && a.e == b.e && a.s == b.s && a.h == b.h && a.u == b.u
theorem samenode_any (a b : TN) (A : Option Addr) (c : Nat) (B : Option Addr) (d : Nat) (w : World) (h : SlA w 1 A a.u.length c (a.u.map (.int .i64))) (h' : SlA w 1 B b.u.length d (b.u.map (.int .i64))) (hn : a.u.length ≤ 2147483648) (hm : b.u.length ≤ 2147483648) :
    Calls Tryz.prog 28 #[.agg #[.int .i64 a.k, .int .i64 a.i, .int .i64 a.e, .int .i64 a.s, .int .i64 a.h, .slice A a.u.length c], .agg #[.int .i64 b.k, .int .i64 b.i, .int .i64 b.e, .int .i64 b.s, .int .i64 b.h, .slice B b.u.length d]] w fun r w' => r = .returned (.bool (sameN a b)) ∧ Below w.heap.size w w' := by
  have HS := hid h; have HS' := hid h'
  clear h h'
  rcases h0 : a.k == b.k with _ | _
  · have HN := hid (show sameN a b = false by unfold sameN; rw [h0]; simp)
    go_enter Tryz.func28, Tryz.ntmps28
    go_wp2
    go_ret
    exact ⟨by rw [HN.out]; rfl, ((Below.refl _ _).alloc (Nat.le_refl _) _).alloc (by simp) _⟩
  · skip
    rcases h1 : a.i == b.i with _ | _
    · have HN := hid (show sameN a b = false by unfold sameN; rw [h0, h1]; simp)
      go_enter Tryz.func28, Tryz.ntmps28
      go_wp2
      go_ret
      exact ⟨by rw [HN.out]; rfl, ((Below.refl _ _).alloc (Nat.le_refl _) _).alloc (by simp) _⟩
    · skip
      rcases h2 : a.e == b.e with _ | _
      · have HN := hid (show sameN a b = false by unfold sameN; rw [h0, h1, h2]; simp)
        go_enter Tryz.func28, Tryz.ntmps28
        go_wp2
        go_ret
        exact ⟨by rw [HN.out]; rfl, ((Below.refl _ _).alloc (Nat.le_refl _) _).alloc (by simp) _⟩
      · skip
        rcases h3 : a.s == b.s with _ | _
        · have HN := hid (show sameN a b = false by unfold sameN; rw [h0, h1, h2, h3]; simp)
          go_enter Tryz.func28, Tryz.ntmps28
          go_wp2
          go_ret
          exact ⟨by rw [HN.out]; rfl, ((Below.refl _ _).alloc (Nat.le_refl _) _).alloc (by simp) _⟩
        · skip
          rcases h4 : a.h == b.h with _ | _
          · have HN := hid (show sameN a b = false by unfold sameN; rw [h0, h1, h2, h3, h4]; simp)
            go_enter Tryz.func28, Tryz.ntmps28
            go_wp2
            go_ret
            exact ⟨by rw [HN.out]; rfl, ((Below.refl _ _).alloc (Nat.le_refl _) _).alloc (by simp) _⟩
          · skip
            have HN := hid (show sameN a b = (a.u == b.u) by unfold sameN; rw [h0, h1, h2, h3, h4]; simp)
            generalize hE : (a.u == b.u) = E at HN
            have HE := hid hE; clear hE
            go_enter Tryz.func28, Tryz.ntmps28
            go_wp2_with (go_at_call 19; refine (same_ints A _ c a.u B _ d b.u _ (HS.out.ext (((Below.refl _ _).alloc (Nat.le_refl _) _).alloc (by simp) _)) (HS'.out.ext (((Below.refl _ _).alloc (Nat.le_refl _) _).alloc (by simp) _)) hn hm).mono ?_; rintro e1 w1 ⟨rfl, q, rfl⟩; rw [HE.out])
            go_ret
            exact ⟨by rw [HN.out]; rfl, below_drewN (((Below.refl _ _).alloc (Nat.le_refl _) _).alloc (by simp) _) _⟩
end Go.Proofs.YtfmkniakfgpgjaaGreatDoor

/- whether two trees are the same: both ways. -/
namespace Go.Proofs.YtfmkniakfgpgjaaGreatDoor
open Go.RowKit Go.KK Go.Shelf
set_option linter.unusedVariables false
set_option linter.unusedSimpArgs false

/-- Two trees are the same. -/
def sameT : List TN → List TN → Bool
  | [], [] => true
  | x :: xs, y :: ys => sameN x y && sameT xs ys
  | _, _ => false
theorem sameT_len : ∀ (xs ys : List TN), xs.length ≠ ys.length → sameT xs ys = false
  | [], [], h => absurd rfl h
  | [], _ :: _, _ => rfl
  | _ :: _, [], _ => rfl
  | x :: xs, y :: ys, h => by rw [sameT, sameT_len xs ys (fun e => h (by simp [e])), Bool.and_false]
theorem sameT_drop {xs ys : List TN} {j : Nat} {x y : TN} (h1 : xs[j]? = some x) (h2 : ys[j]? = some y) : sameT (xs.drop j) (ys.drop j) = (sameN x y && sameT (xs.drop (j + 1)) (ys.drop (j + 1))) := by
  rw [tdrop_get h1, tdrop_get h2, sameT]
theorem sameT_end {xs ys : List TN} {j : Nat} (h1 : xs.length ≤ j) (h2 : ys.length ≤ j) : sameT (xs.drop j) (ys.drop j) = true := by
  rw [List.drop_of_length_le h1, List.drop_of_length_le h2]; rfl
theorem below_new2 {B : Nat} {a wr w2 : World} {o o2 : Obj} (h : Below B a wr) (hB : B ≤ wr.heap.size) (hb : Below ((wr.alloc o).alloc o2).heap.size ((wr.alloc o).alloc o2) w2) : Below B a w2 :=
  ((h.alloc hB o).alloc (by simp; omega) o2).trans (hb.mono (by simp; omega))
set_option maxHeartbeats 1000000 in
theorem rsame_any (A : Option Addr) (n c : Nat) (xs : List TN) (B : Option Addr) (m d : Nat) (ys : List TN) (w : World) (h : Tr w A n c xs) (h' : Tr w B m d ys) (hn : n ≤ 600) (hm : m ≤ 600) (hu : Shorts xs) (hu' : Shorts ys) :
    Calls Tryz.prog 21 #[.slice A n c, .slice B m d] w fun e w' => e = .returned (.bool (sameT xs ys)) ∧ Below w.heap.size w w' := by
  have HL := hid h.len; have HL' := hid h'.len; have H := hid h; have H' := hid h'; have HU := hid hu; have HU' := hid hu'
  clear h h' hu hu'
  by_cases hnm : n = m
  · subst hnm
    go_enter Tryz.func21, Tryz.ntmps21
    go_wp2
    go_loopw [13, 4] (fun i _ wr => ∃ j : Nat, i = .int .i64 j ∧ j ≤ n ∧ Hid (sameT xs ys = sameT (xs.drop j) (ys.drop j)) ∧ Below w.heap.size w wr) (fun i _ _ => n - (intOf i).toNat)
    case atStart => exact ⟨0, rfl, by omega, hid rfl, Below.refl _ _⟩
    case round =>
      obtain ⟨j, hi, hj, HJ, hbr⟩ := hrel
      subst hi
      have HB := hid hbr; clear hbr
      by_cases hlt : j < n
      · obtain ⟨b, o, x, A2, c2, rfl, hx, c0, c1, c2', c3, c4, c5, hsx⟩ := (H.out.ext HB.out).at hlt
        obtain ⟨b', o', y, B2, d2, rfl, hy, d0, d1, d2', d3, d4, d5, hsy⟩ := (H'.out.ext HB.out).at hlt
        have hj0 : (0 : Int) ≤ (j : Int) := by omega
        have hj1 : (j : Int) < (n : Int) := by omega
        have hux := HU.out _ _ hx
        have huy := HU'.out _ _ hy
        have HD := hid (sameT_drop hx hy)
        clear hx hy
        have HSX := hid hsx; have HSY := hid hsy
        clear hsx hsy
        have hlb : b < wr.heap.size := block_lt_of_cell c0
        have hlb2 : b' < wr.heap.size := block_lt_of_cell d0
        have hbz := HB.out.size
        rcases hs : sameN x y with _ | _
        · have HF := hid (show sameT xs ys = false by rw [HJ.out, HD.out, hs, Bool.false_and])
          go_wp2
          go_region_held3 (fun w' => w'.cell? ⟨b, o + j * 6, none⟩ = some (.int .i64 x.k) ∧ w'.cell? ⟨b, o + j * 6 + 1, none⟩ = some (.int .i64 x.i) ∧ w'.cell? ⟨b, o + j * 6 + 2, none⟩ = some (.int .i64 x.e) ∧ w'.cell? ⟨b, o + j * 6 + 3, none⟩ = some (.int .i64 x.s) ∧ w'.cell? ⟨b, o + j * 6 + 4, none⟩ = some (.int .i64 x.h) ∧ w'.cell? ⟨b, o + j * 6 + 5, none⟩ = some (.slice A2 x.u.length c2) ∧ w'.cell? ⟨b', o' + j * 6, none⟩ = some (.int .i64 y.k) ∧ w'.cell? ⟨b', o' + j * 6 + 1, none⟩ = some (.int .i64 y.i) ∧ w'.cell? ⟨b', o' + j * 6 + 2, none⟩ = some (.int .i64 y.e) ∧ w'.cell? ⟨b', o' + j * 6 + 3, none⟩ = some (.int .i64 y.s) ∧ w'.cell? ⟨b', o' + j * 6 + 4, none⟩ = some (.int .i64 y.h) ∧ w'.cell? ⟨b', o' + j * 6 + 5, none⟩ = some (.slice B2 y.u.length d2)) (first | exact ⟨c0, c1, c2', c3, c4, c5, d0, d1, d2', d3, d4, d5⟩ | exact ⟨r0, r1, r2, r3, r4, r5, r6, r7, r8, r9, r10, r11⟩ | go_keep) (first
            | (go_at_call 28; refine (samenode_any x y A2 c2 B2 d2 _ HSX.out.drew HSY.out.drew hux huy).mono ?_; rintro e1 w1 ⟨rfl, hb1⟩; rw [hs]; have HB1 := hid hb1; have r0 := (hb1.cell (p := ⟨b, o + j * 6, none⟩) hlb).trans c0; have r1 := (hb1.cell (p := ⟨b, o + j * 6 + 1, none⟩) hlb).trans c1; have r2 := (hb1.cell (p := ⟨b, o + j * 6 + 2, none⟩) hlb).trans c2'; have r3 := (hb1.cell (p := ⟨b, o + j * 6 + 3, none⟩) hlb).trans c3; have r4 := (hb1.cell (p := ⟨b, o + j * 6 + 4, none⟩) hlb).trans c4; have r5 := (hb1.cell (p := ⟨b, o + j * 6 + 5, none⟩) hlb).trans c5; have r6 := (hb1.cell (p := ⟨b', o' + j * 6, none⟩) hlb2).trans d0; have r7 := (hb1.cell (p := ⟨b', o' + j * 6 + 1, none⟩) hlb2).trans d1; have r8 := (hb1.cell (p := ⟨b', o' + j * 6 + 2, none⟩) hlb2).trans d2'; have r9 := (hb1.cell (p := ⟨b', o' + j * 6 + 3, none⟩) hlb2).trans d3; have r10 := (hb1.cell (p := ⟨b', o' + j * 6 + 4, none⟩) hlb2).trans d4; have r11 := (hb1.cell (p := ⟨b', o' + j * 6 + 5, none⟩) hlb2).trans d5; clear hb1))
          go_wp2
          go_ret
          exact ⟨by rw [HF.out]; rfl, (below_drew HB.out).trans (HB1.out.mono hbz)⟩
        · have HF := hid (show sameT xs ys = sameT (xs.drop (j + 1)) (ys.drop (j + 1)) by rw [HJ.out, HD.out, hs, Bool.true_and])
          go_wp2
          go_region_held3 (fun w' => w'.cell? ⟨b, o + j * 6, none⟩ = some (.int .i64 x.k) ∧ w'.cell? ⟨b, o + j * 6 + 1, none⟩ = some (.int .i64 x.i) ∧ w'.cell? ⟨b, o + j * 6 + 2, none⟩ = some (.int .i64 x.e) ∧ w'.cell? ⟨b, o + j * 6 + 3, none⟩ = some (.int .i64 x.s) ∧ w'.cell? ⟨b, o + j * 6 + 4, none⟩ = some (.int .i64 x.h) ∧ w'.cell? ⟨b, o + j * 6 + 5, none⟩ = some (.slice A2 x.u.length c2) ∧ w'.cell? ⟨b', o' + j * 6, none⟩ = some (.int .i64 y.k) ∧ w'.cell? ⟨b', o' + j * 6 + 1, none⟩ = some (.int .i64 y.i) ∧ w'.cell? ⟨b', o' + j * 6 + 2, none⟩ = some (.int .i64 y.e) ∧ w'.cell? ⟨b', o' + j * 6 + 3, none⟩ = some (.int .i64 y.s) ∧ w'.cell? ⟨b', o' + j * 6 + 4, none⟩ = some (.int .i64 y.h) ∧ w'.cell? ⟨b', o' + j * 6 + 5, none⟩ = some (.slice B2 y.u.length d2)) (first | exact ⟨c0, c1, c2', c3, c4, c5, d0, d1, d2', d3, d4, d5⟩ | exact ⟨r0, r1, r2, r3, r4, r5, r6, r7, r8, r9, r10, r11⟩ | go_keep) (first
            | (go_at_call 28; refine (samenode_any x y A2 c2 B2 d2 _ HSX.out.drew HSY.out.drew hux huy).mono ?_; rintro e1 w1 ⟨rfl, hb1⟩; rw [hs]; have HB1 := hid hb1; have r0 := (hb1.cell (p := ⟨b, o + j * 6, none⟩) hlb).trans c0; have r1 := (hb1.cell (p := ⟨b, o + j * 6 + 1, none⟩) hlb).trans c1; have r2 := (hb1.cell (p := ⟨b, o + j * 6 + 2, none⟩) hlb).trans c2'; have r3 := (hb1.cell (p := ⟨b, o + j * 6 + 3, none⟩) hlb).trans c3; have r4 := (hb1.cell (p := ⟨b, o + j * 6 + 4, none⟩) hlb).trans c4; have r5 := (hb1.cell (p := ⟨b, o + j * 6 + 5, none⟩) hlb).trans c5; have r6 := (hb1.cell (p := ⟨b', o' + j * 6, none⟩) hlb2).trans d0; have r7 := (hb1.cell (p := ⟨b', o' + j * 6 + 1, none⟩) hlb2).trans d1; have r8 := (hb1.cell (p := ⟨b', o' + j * 6 + 2, none⟩) hlb2).trans d2'; have r9 := (hb1.cell (p := ⟨b', o' + j * 6 + 3, none⟩) hlb2).trans d3; have r10 := (hb1.cell (p := ⟨b', o' + j * 6 + 4, none⟩) hlb2).trans d4; have r11 := (hb1.cell (p := ⟨b', o' + j * 6 + 5, none⟩) hlb2).trans d5; clear hb1))
          go_wp2
          go_roundw
          case rel => exact ⟨j + 1, by go_num, by omega, HF, (below_drew HB.out).trans (HB1.out.mono hbz)⟩
          case measure => simp [intOf]; omega
      · have HF := hid (show sameT xs ys = true by rw [HJ.out, sameT_end (by have := HL.out; omega) (by have := HL'.out; omega)])
        go_wp2
        go_ret
        exact ⟨by rw [HF.out]; rfl, HB.out⟩
  · have HF := hid (sameT_len xs ys (by rw [HL.out, HL'.out]; exact hnm))
    have hnm' : ((n : Int) != (m : Int)) = true := bne_iff_ne.2 (by omega)
    clear hnm
    go_enter Tryz.func21, Tryz.ntmps21
    go_wp2
    go_ret
    exact ⟨by rw [HF.out]; rfl, Below.refl _ _⟩
end Go.Proofs.YtfmkniakfgpgjaaGreatDoor

