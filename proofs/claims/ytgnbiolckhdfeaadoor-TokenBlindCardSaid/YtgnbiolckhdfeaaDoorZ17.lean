import Derived.Test.YtgnbiolckhdfeaaDoorZ16
import Derived.Test.YtgnbiolckhdfeaaDoorZ01
import Derived.ChangeArms
import Derived.Test.YtgnbiolckhdfeaaDoorZ05
import Derived.Test.YtgnbiolckhdfeaaDoorZ03
import Derived.Test.YtgnbiolckhdfeaaDoorZ02
import Derived.Deep.RegionLaw
import Derived.BigQuiet
import Derived.Test.YtgnbiolckhdfeaaDoorZ11
import Derived.Test.YtgnbiolckhdfeaaDoorZ12
import Derived.Test.YtgnbiolckhdfeaaDoorZ09
import Derived.Test.YtgnbiolckhdfeaaDoorZ14
import Derived.Deep.RegionHeldLaw
import Derived.Deep.DeepCutAuto
/- Arguments opened: a row of term's nodes. Of no program. -/
namespace Go.KK
open Go.ChangeShapes Go.WideShapes Go.ChangeAt Go.RowKit Go.Deep
set_option linter.unusedVariables false
set_option linter.unusedSimpArgs false

/-- What is known of a node that came in. -/
structure NdW (x : ND) : Prop where
  o : -9223372036854775808 ≤ x.o ∧ x.o ≤ 9223372036854775807
  n : -9223372036854775808 ≤ x.n ∧ x.n ≤ 9223372036854775807
  l : ∀ i ∈ x.l, -9223372036854775808 ≤ i ∧ i ≤ 9223372036854775807
  s : x.s.size ≤ maxLen
section
variable {H : Type} {enc : TypeId × Value → H} {P : Program} {w : World} {base : Nat} {spare : Nat → Bool} {held : Bool}
theorem trod_ints {fuel : Nat} {t e : TypeId} {k : IntKind} {v : Value} {y : DataW H × List MemPlace} (ht : P.underlying t = some (.slice e)) (he : P.underlying e = some (.int k)) (hc : P.cellsOf e = 1)
    (h : DataW.trod enc P w base spare held fuel t [v] = some y) : ∃ (A : Option Addr) (n c : Nat) (l : List Int), v = .slice A n c ∧ SlA w 1 A n c (l.map (Value.int k)) ∧ ∀ x ∈ l, (Lit.int k x).wf = true := by
  rcases open_ints ht he hc h with ⟨hcs, _⟩ | ⟨x, l, c', zs, hcs, _, hl, hm, hz, _, hcell, hwz⟩
  · injection hcs with hcs
    subst hcs
    exact ⟨_, _, _, [], rfl, SlA.nil _ _, by simp⟩
  · injection hcs with hcs
    subst hcs
    have hzl : l ≤ zs.length := by rw [hz]; split <;> omega
    refine ⟨_, _, _, zs.take l, rfl, ⟨hl, hm, by simp; omega, fun j u hj => ?_⟩, fun y hy => hwz y (List.mem_of_mem_take hy)⟩
    rw [List.getElem?_map, List.getElem?_take] at hj
    split at hj
    · rename_i hjn
      have hc := hcell j (by omega)
      have hjl : j < zs.length := by omega
      rw [List.getElem?_eq_getElem hjl] at hj
      simp only [Option.map_some, Option.some.injEq] at hj
      obtain ⟨b, off, spot⟩ := x
      have h0 := hcell 0 (by omega)
      have hspot : spot = none := by simpa [Addr.add] using World.cell?_spot h0
      subst hspot
      refine ⟨b, off, rfl, ?_⟩
      rw [add_lit] at hc
      rw [hc, ← hj, List.getD, List.getElem?_eq_getElem hjl]
      rfl
    · cases hj
/-- A node's cells that read. -/
theorem nd_of_trod {fuel : Nat} {t ti ts tl : TypeId} {fs : Array Field} {cs : List Value} {y : DataW H × List MemPlace} (hs : P.underlying t = some (.struct fs)) (hone : oneCellFields P fs = true) (hsz : fs.size = 4) (hC : P.cellsOf t = 4)
    (h4 : fs.toList.map (fun f => f.type) = [ti, ti, ts, tl]) (hti : P.underlying ti = some (.int .i64)) (hts : P.underlying ts = some .string) (htl : P.underlying tl = some (.slice ti)) (hci : P.cellsOf ti = 1)
    (h : DataW.trod enc P w base spare held fuel t cs = some y) : ∃ (x : ND) (q : Value), cs = x.cells q ∧ In1 w q x.l ∧ NdW x := by
  obtain ⟨xs, n, _, _, hlen, hxl, hg⟩ := DataW.trod_struct hs h
  rw [hC] at hlen
  match cs, hlen with
  | [a0, a1, a2, a3], _ =>
    have fld : ∀ k (hk : k < 4), ∃ z, DataW.trod enc P w base spare held n ([ti, ti, ts, tl][k]'(by simp; omega)) [([a0, a1, a2, a3])[k]'(by simp; omega)] = some z := by
      intro k hk
      have hf : fs[k]? = some (fs[k]'(by omega)) := Array.getElem?_eq_getElem _
      obtain ⟨ho, hc⟩ := hone_of hone k _ hf
      have := hg k _ hf
      rw [ho, hc, List.drop_eq_getElem_cons (by simpa using hk)] at this
      have e : (fs[k]'(by omega)).type = [ti, ti, ts, tl][k]'(by simp; omega) := by
        have e1 : (fs.toList.map (fun f => f.type))[k]? = some (fs[k]'(by omega)).type := by
          rw [List.getElem?_map, Array.getElem?_toList, hf]; rfl
        rw [h4, List.getElem?_eq_getElem (by simp; omega)] at e1
        exact (Option.some.inj e1).symm
      rw [e] at this
      exact ⟨_, this.trans (List.getElem?_eq_getElem (by omega))⟩
    obtain ⟨z0, t0⟩ := fld 0 (by omega)
    obtain ⟨z1, t1⟩ := fld 1 (by omega)
    obtain ⟨z2, t2⟩ := fld 2 (by omega)
    obtain ⟨z3, t3⟩ := fld 3 (by omega)
    simp only [List.getElem_cons_zero, List.getElem_cons_succ] at t0 t1 t2 t3
    obtain ⟨o, e0, _, w0⟩ := DataW.trod_int hti t0
    obtain ⟨m, e1, _, w1⟩ := DataW.trod_int hti t1
    obtain ⟨s, e2, _, w2⟩ := DataW.trod_string hts t2
    obtain ⟨A, k, c, u, e5, hsl, hw⟩ := trod_ints htl hti hci t3
    injection e0 with e0; injection e1 with e1; injection e2 with e2
    subst e0; subst e1; subst e2; subst e5
    have hm := hsl.lenI
    subst hm
    exact ⟨⟨o, m, s, u⟩, _, rfl, ⟨A, c, rfl, hsl⟩, bounds_i64 w0, bounds_i64 w1, fun i hi => bounds_i64 (hw i hi), w2⟩
theorem choose_list {α : Type} {Q : Nat → α → Prop} : ∀ (n : Nat), (∀ j, j < n → ∃ x, Q j x) → ∃ l : List α, l.length = n ∧ ∀ j x, l[j]? = some x → Q j x
  | 0, _ => ⟨[], rfl, fun j x h => by simp at h⟩
  | n + 1, h => by
    obtain ⟨l, hl, hq⟩ := choose_list n (fun j hj => h j (by omega))
    obtain ⟨x, hx⟩ := h n (by omega)
    refine ⟨l ++ [x], by simp [hl], fun j y hy => ?_⟩
    by_cases hj : j < n
    · rw [List.getElem?_append_left (by omega)] at hy
      exact hq j y hy
    · by_cases hjn : j = n
      · subst hjn
        rw [List.getElem?_append_right (by omega), hl, Nat.sub_self] at hy
        injection hy with hy
        rw [← hy]; exact hx
      · rw [List.getElem?_eq_none (by simp; omega)] at hy; cases hy
/-- A row of nodes that came in. -/
theorem opens_nodes {r : Reach} {b0 : Nat} {tt t ti ts tl : TypeId} {fs : Array Field} {v : Value} {d : DataW H} {p : List MemPlace} (htt : P.underlying tt = some (.slice t)) (hs : P.underlying t = some (.struct fs)) (hone : oneCellFields P fs = true) (hsz : fs.size = 4) (hC : P.cellsOf t = 4)
    (h4 : fs.toList.map (fun f => f.type) = [ti, ti, ts, tl]) (hti : P.underlying ti = some (.int .i64)) (hts : P.underlying ts = some .string) (htl : P.underlying tl = some (.slice ti)) (hci : P.cellsOf ti = 1)
    (hv : Value.okWide P w r b0 tt v) (h : DataW.Trod enc P w base spare held tt v d p) : ∃ A n c xs, v = .slice A n c ∧ NdA w A n c xs ∧ ∀ x ∈ xs, NdW x := by
  obtain ⟨A, n, c, rfl⟩ := okWide_slice htt hv
  obtain ⟨fuel, hf⟩ := h
  rcases open_slice htt hf with ⟨hcs, _⟩ | ⟨a, len, cap, m, n', D, Pl, hcs, _, hl, hm, hmm, _, hi⟩
  · simp [Value.cells] at hcs
    obtain ⟨rfl, rfl, rfl⟩ := hcs
    exact ⟨_, _, _, [], rfl, NdA.nil _, fun x h => by simp at h⟩
  · simp [Value.cells] at hcs
    obtain ⟨rfl, rfl, rfl⟩ := hcs
    have hnm : n ≤ m := by rw [hmm]; split <;> omega
    have each : ∀ j, j < n → ∃ xq : ND × Value, (∀ k, k < 4 → w.cell? (a.add (j * 4 + k)) = (xq.1.cells xq.2)[k]?) ∧ In1 w xq.2 xq.1.l ∧ NdW xq.1 := by
      intro j hj
      obtain ⟨cs', hc, ht⟩ := hi j (by omega)
      obtain ⟨x, q, e, hin, hw⟩ := nd_of_trod hs hone hsz hC h4 hti hts htl hci ht
      rw [hC] at hc
      obtain ⟨_, _, hat⟩ := World.cells?_some hc
      refine ⟨⟨x, q⟩, fun k hk => ?_, hin, hw⟩
      rw [← Go.Deep.add_add, hat k hk, e]
    obtain ⟨l, hll, hq⟩ := choose_list n each
    have hx : ∀ {j : Nat} {x : ND}, (l.map (·.1))[j]? = some x → ∃ q, l[j]? = some (x, q) := by
      intro j x h
      rw [List.getElem?_map] at h
      rcases hh : l[j]? with _ | ⟨y, q⟩
      · rw [hh] at h; cases h
      · rw [hh] at h; injection h with h; subst h; exact ⟨q, rfl⟩
    refine ⟨_, _, _, l.map (·.1), rfl, ⟨l.map (·.2), by simp, ⟨hl, hm, by rw [nds_len (by simp)]; simp [hll], fun i u hu => ?_⟩, fun j x q hxj hqj => ?_⟩, fun x hxm => ?_⟩
    · have hil : i < n * 4 := by
        rcases Nat.lt_or_ge i (n * 4) with hh | hh
        · exact hh
        · rw [List.getElem?_eq_none (by rw [nds_len (by simp)]; simp [hll]; omega)] at hu; cases hu
      have hjn : i / 4 < n := by omega
      have hlj : l[i / 4]? = some (l[i / 4]'(by omega)) := List.getElem?_eq_getElem _
      obtain ⟨b, off, spot⟩ := a
      have c0 := (hq 0 _ (List.getElem?_eq_getElem (by omega))).1 0 (by omega)
      have hspot : spot = none := by
        simp only [Nat.zero_mul, Nat.add_zero, ND.cells, List.getElem?_cons_zero] at c0
        simpa [Addr.add] using World.cell?_spot c0
      subst hspot
      refine ⟨b, off, rfl, ?_⟩
      have hg := nds_get (xs := l.map (·.1)) (qs := l.map (·.2)) (j := i / 4) (k := i % 4) (by rw [List.getElem?_map, hlj]; rfl) (by rw [List.getElem?_map, hlj]; rfl) (Nat.mod_lt _ (by omega))
      rw [show i / 4 * 4 + i % 4 = i by omega] at hg
      have hc := (hq _ _ hlj).1 (i % 4) (Nat.mod_lt _ (by omega))
      rw [show i / 4 * 4 + i % 4 = i by omega, add_lit] at hc
      rw [hc, ← hg, hu]
    · obtain ⟨q', hl'⟩ := hx hxj
      rw [List.getElem?_map, hl'] at hqj
      injection hqj with hqj
      subst hqj
      exact (hq j _ hl').2.1
    · obtain ⟨j, hj, rfl⟩ := List.mem_iff_getElem.1 hxm
      obtain ⟨q', hl'⟩ := hx (List.getElem?_eq_getElem hj)
      exact (hq j _ hl').2.2
end
end Go.KK

/- the document's layer 3: In, SameInts, Rising. -/
namespace Go.Proofs.YtgnbiolckhdfeaaDoor
open Go.RowKit Go.KK Go.Shelf Go.Maps
set_option linter.unusedVariables false
set_option linter.unusedSimpArgs false

theorem take_get {α : Type} {l : List α} {k : Nat} {x : α} (h : l[k]? = some x) : l.take (k + 1) = l.take k ++ [x] := by
  obtain ⟨hk, rfl⟩ := List.getElem?_eq_some_iff.1 h
  exact List.take_succ_eq_append_getElem hk
theorem run_cut_to6 {P : Program} {A : Option Addr} {n c sz : Nat} {t e : TypeId} (ht : P.underlying t = some (.slice e)) (hs : ∀ W : World, (sizeOf e).run P W = .ok sz W) {p : Nat} (hp : p ≤ c) :
    ∀ W : World, (Instr.slice t (.slice A n c) none (some (.int .i64 (p : Int))) none).run P W = .ok (.slice A p c) W := by
  intro W
  have he : P.elem t = e := by simp [Program.elem, ht]
  rw [run_slice_h W t A n c (by rw [he]; exact ht) .i64 p (by omega) (by omega), he, hs W]
  have hz : ∀ a : Addr, a.add 0 = a := fun a => by simp [Addr.add]
  simp [Result.andThen, sliced, hz]
/-- Whether a number is in a list. -/
def inB (l : List Int) (x : Int) : Bool := l.contains x
theorem in_any (A : Option Addr) (n c : Nat) (l : List Int) (x : Int) (w : World) (h : SlA w 1 A n c (l.map (.int .i64))) (hn : n ≤ 2147483648) :
    Calls Tryd.prog 47 #[.slice A n c, .int .i64 x] w fun e w' => e = .returned (.bool (inB l x)) ∧ w' = w := by
  have HL := hid h.lenI; have HS := hid h
  clear h
  go_enter Tryd.func47, Tryd.ntmps47
  go_wp2
  go_loop [9, 4] (fun i _ => ∃ j : Nat, i = .int .i64 j ∧ j ≤ n ∧ Hid (inB l x = inB (l.drop j) x)) (fun i _ => n - (intOf i).toNat)
  case atStart => exact ⟨0, rfl, by omega, hid rfl⟩
  case round =>
    obtain ⟨j, hi, hj, HJ⟩ := hrel
    subst hi
    by_cases hlt : j < n
    · obtain ⟨b, o, z, rfl, hz, hc⟩ := HS.out.elemI hlt
      have HD := hid (drop_get hz); clear hz
      by_cases hzx : z = x
      · have HF := hid (show inB l x = true by rw [HJ.out, HD.out, hzx]; unfold inB; simp)
        have hzx' : (z == x) = true := beq_iff_eq.2 hzx
        clear hzx
        go_wp2
        go_ret
        exact ⟨by rw [HF.out]; rfl, rfl⟩
      · have HF := hid (show inB l x = inB (l.drop (j + 1)) x by
          rw [HJ.out, HD.out]; unfold inB; rw [List.contains_cons, beq_eq_false_iff_ne.2 (fun e => hzx e.symm), Bool.false_or])
        have hzx' : (z == x) = false := beq_eq_false_iff_ne.2 hzx
        clear hzx
        go_wp2
        go_round
        case rel => exact ⟨j + 1, by go_num, by omega, HF⟩
        case measure => simp [intOf]; omega
    · have HF := hid (show inB l x = false by rw [HJ.out, List.drop_of_length_le (by have := HL.out; omega)]; rfl)
      go_wp2
      go_ret
      exact ⟨by rw [HF.out]; rfl, rfl⟩
theorem take_eq_step {l m : List Int} {j : Nat} {x : Int} (h : l.take j = m.take j) (h1 : l[j]? = some x) (h2 : m[j]? = some x) : l.take (j + 1) = m.take (j + 1) := by
  rw [take_get h1, take_get h2, h]
theorem ne_of_at {l m : List Int} {j : Nat} {x y : Int} (h1 : l[j]? = some x) (h2 : m[j]? = some y) (h : x ≠ y) : (l == m) = false := by
  refine beq_eq_false_iff_ne.2 fun e => h ?_
  rw [e, h2] at h1
  injection h1 with h1
  exact h1.symm
theorem same_ints (A : Option Addr) (n c : Nat) (l : List Int) (B : Option Addr) (m d : Nat) (l' : List Int) (w : World) (h : SlA w 1 A n c (l.map (.int .i64))) (h' : SlA w 1 B m d (l'.map (.int .i64))) (hn : n ≤ 2147483648) (hm : m ≤ 2147483648) :
    Calls Tryd.prog 33 #[.slice A n c, .slice B m d] w fun e w' => e = .returned (.bool (l == l')) ∧ ∃ q, w' = w.drewN q := by
  have HL := hid h.lenI; have HS := hid h; have HL' := hid h'.lenI; have HS' := hid h'
  clear h h'
  by_cases hnm : n = m
  · subst hnm
    go_enter Tryd.func33, Tryd.ntmps33
    go_wp2
    go_loopw [13, 4] (fun i _ wr => ∃ j q : Nat, i = .int .i64 j ∧ j ≤ n ∧ Hid (l.take j = l'.take j) ∧ wr = w.drewN q) (fun i _ _ => n - (intOf i).toNat)
    case atStart => exact ⟨0, 0, rfl, by omega, hid rfl, rfl⟩
    case round =>
      obtain ⟨j, q, hi, hj, HJ, hw⟩ := hrel
      subst hi; subst hw
      by_cases hlt : j < n
      · obtain ⟨b, o, z, rfl, hz, hc⟩ := HS.out.elemI hlt
        obtain ⟨b', o', z', rfl, hz', hc'⟩ := HS'.out.elemI hlt
        have hj0 : (0 : Int) ≤ (j : Int) := by omega
        have hj1 : (j : Int) < (n : Int) := by omega
        have HZ := hid hz; have HZ' := hid hz'
        clear hz hz'
        by_cases hzx : z = z'
        · have HF := hid (take_eq_step HJ.out HZ.out (hzx ▸ HZ'.out))
          have hzx' : (z != z') = false := by rw [hzx]; simp
          clear hzx
          go_wp2
          go_quiet (fail)
          go_wp2
          go_roundw
          case rel => exact ⟨j + 1, _, by go_num, by omega, HF, rfl⟩
          case measure => simp [intOf]; omega
        · have HF := hid (ne_of_at HZ.out HZ'.out hzx)
          have hzx' : (z != z') = true := bne_iff_ne.2 hzx
          clear hzx
          go_wp2
          go_quiet (fail)
          go_wp2
          go_ret
          exact ⟨by rw [HF.out]; rfl, _, World.drewN_drewN _ _ _⟩
      · have HF := hid (show (l == l') = true from beq_iff_eq.2 (by
          have := HJ.out
          rwa [List.take_of_length_le (by have := HL.out; omega), List.take_of_length_le (by have := HL'.out; omega)] at this))
        go_wp2
        go_ret
        exact ⟨by rw [HF.out]; rfl, q, rfl⟩
  · have HF := hid (show (l == l') = false from beq_eq_false_iff_ne.2 fun e => hnm (by rw [← HL.out, ← HL'.out, e]))
    have hnm' : ((n : Int) != (m : Int)) = true := bne_iff_ne.2 (by omega)
    clear hnm
    go_enter Tryd.func33, Tryd.ntmps33
    go_wp2
    go_ret
    exact ⟨by rw [HF.out]; rfl, 0, rfl⟩
/-- Where a number goes in a list: behind all that are not greater, from the end. -/
def posF (acc : List Int) (n : Int) : Nat → Nat
  | 0 => 0
  | k + 1 => if n < acc.getD k 0 then posF acc n k else k + 1
theorem posF_le (acc : List Int) (n : Int) : ∀ k, posF acc n k ≤ k
  | 0 => Nat.le_refl _
  | k + 1 => by
    rw [posF]
    split
    · have := posF_le acc n k; omega
    · exact Nat.le_refl _
def insR (acc : List Int) (n : Int) : List Int :=
  if 0 < posF acc n acc.length ∧ acc.getD (posF acc n acc.length - 1) 0 = n then acc else acc.take (posF acc n acc.length) ++ n :: acc.drop (posF acc n acc.length)
/-- Numbers in order, each once. -/
def risL (l : List Int) : List Int := l.foldl insR []
theorem insR_le (acc : List Int) (n : Int) : (insR acc n).length ≤ acc.length + 1 := by
  unfold insR
  split
  · omega
  · simp; omega
theorem risL_le : ∀ (l acc : List Int), (l.foldl insR acc).length ≤ acc.length + l.length
  | [], acc => by simp
  | x :: l, acc => by
    have := risL_le l (insR acc x)
    have := insR_le acc x
    simp; omega
theorem risL_take {l : List Int} {j : Nat} {x : Int} (h : l[j]? = some x) : risL (l.take (j + 1)) = insR (risL (l.take j)) x := by
  unfold risL
  rw [take_get h, List.foldl_append]; rfl
theorem risL_take_le (l : List Int) (j : Nat) : (risL (l.take j)).length ≤ j := by
  have := risL_le (l.take j) []
  unfold risL
  have h2 : (l.take j).length ≤ j := List.length_take_le _ _
  simp at this
  omega

theorem sla_take {w : World} {A : Option Addr} {n c : Nat} {l : List Int} (h : SlA w 1 A n c (l.map (.int .i64))) {p : Nat} (hp : p ≤ n) : SlA w 1 A p c ((l.take p).map (.int .i64)) := by
  have h1 := h.nc
  have h3 := h.lenI
  refine ⟨by omega, h.cm, by simp; omega, fun j u hj => ?_⟩
  rw [List.map_take, List.getElem?_take] at hj
  split at hj
  · exact h.cells j u hj
  · cases hj
theorem run_cut_from1 {P : Program} {A A' : Option Addr} {n c : Nat} {t e : TypeId} (ht : P.underlying t = some (.slice e)) (hs : ∀ W : World, (sizeOf e).run P W = .ok 1 W) {p : Nat} (hp : p ≤ n) (hA : sliced A p n c 1 = .slice A' (n - p) (c - p)) :
    ∀ W : World, (Instr.slice t (.slice A n c) (some (.int .i64 (p : Int))) none none).run P W = .ok (.slice A' (n - p) (c - p)) W := by
  intro W
  have he : P.elem t = e := by simp [Program.elem, ht]
  rw [run_slice_l W t A n c (by rw [he]; exact ht) .i64 p (by omega) (by omega), he, hs W]
  simp [Result.andThen, hA]
theorem own_fin {W : World} {base b2 K : Nat} {v : Value} {acc : List Int} {x : Int} (h : W.ownsRow b2 3 1 v (0 + K + 1 + (acc.length - K)) ((([] ++ (acc.take K).map (Value.int .i64)) ++ [Value.int .i64 x]) ++ (acc.map (Value.int .i64)).drop K)) (hb : base ≤ b2) (hK : K ≤ acc.length) :
    W.ownsRow base 3 1 v (acc.take K ++ x :: acc.drop K).length ((acc.take K ++ x :: acc.drop K).map (.int .i64)) := by
  have e1 : (acc.take K ++ x :: acc.drop K).length = 0 + K + 1 + (acc.length - K) := by simp; omega
  have e2 : (acc.take K ++ x :: acc.drop K).map (Value.int .i64) = (([] ++ (acc.take K).map (Value.int .i64)) ++ [Value.int .i64 x]) ++ (acc.map (Value.int .i64)).drop K := by simp
  rw [e1, e2]
  exact own_mono h hb
set_option maxHeartbeats 4000000 in
theorem rising_any (A : Option Addr) (n c : Nat) (l : List Int) (w : World) (h : SlA w 1 A n c (l.map (.int .i64))) (hn : n ≤ 100000) :
    Calls Tryd.prog 48 #[.slice A n c] w fun e w' => ∃ v, e = .returned v ∧ w'.ownsRow w.heap.size 3 1 v (risL l).length ((risL l).map (.int .i64)) ∧ Below w.heap.size w w' := by
  have HL := hid h.lenI; have HS := hid h
  clear h
  obtain ⟨i0, hi, hz0, hz1, hz2⟩ := info_parts Tryd.infoInt
  go_enter Tryd.func48, Tryd.ntmps48
  go_wp2
  go_loopw [9, 3] (fun i v wr => ∃ j : Nat, i = .int .i64 j ∧ j ≤ n ∧ wr.ownsRow w.heap.size 3 1 v (risL (l.take j)).length ((risL (l.take j)).map (.int .i64)) ∧ Below w.heap.size w wr) (fun i _ _ => n - (intOf i).toNat)
  case atStart => exact ⟨0, rfl, by omega, World.ownsRow_nil _ _ _ _, Below.refl _ _⟩
  case round =>
    obtain ⟨j, hi1, hj, hown, hbr⟩ := hrel
    subst hi1
    have HB := hid hbr; clear hbr
    by_cases hlt : j < n
    · obtain ⟨b, o, x, rfl, hx, hc⟩ := (HS.out.ext HB.out).elemI hlt
      have HR := hid (risL_take hx)
      have hle := risL_take_le l j
      clear hx
      have HO := hid hown
      obtain ⟨A2, c2, rfl, hs2⟩ := SlA.owned hown
      have HS2 := hid hs2
      clear hown hs2
      generalize hacc : risL (l.take j) = acc at *
      have HA := hid hacc; clear hacc
      have hzr := HB.out.size
      go_wp2
      go_loop [6] (fun i => ∃ k : Nat, i = .int .i64 k ∧ k ≤ acc.length ∧ Hid (posF acc x acc.length = posF acc x k)) (fun i => (intOf i).toNat)
      case atStart => exact ⟨acc.length, rfl, Nat.le_refl _, hid rfl⟩
      case round =>
        obtain ⟨k, hi2, hk, HK⟩ := hrel
        subst hi2
        by_cases hk0 : 0 < k
        · obtain ⟨k', rfl⟩ : ∃ k', k = k' + 1 := ⟨k - 1, by omega⟩
          obtain ⟨b2, o2, y, rfl, hy, hcy⟩ := HS2.out.elemI (show k' < acc.length by omega)
          have hidx : ((k' + 1 : Nat) : Int) - 1 = (k' : Int) := by omega
          have HY := hid (show acc.getD k' 0 = y by rw [List.getD, hy]; rfl)
          clear hy
          by_cases hyx : x < y
          · have HK2 := hid (show posF acc x acc.length = posF acc x k' by rw [HK.out, posF, HY.out, if_pos hyx])
            go_wp2
            go_round
            case rel => exact ⟨k', by go_num, by omega, HK2⟩
            case measure => simp [intOf]
          · have HP := hid (show posF acc x acc.length = k' + 1 by rw [HK.out, posF, HY.out, if_neg hyx])
            by_cases hye : y = x
            · have HI := hid (show risL (l.take (j + 1)) = acc by rw [HR.out]; unfold insR; rw [HP.out, Nat.add_sub_cancel, HY.out, if_pos ⟨by omega, hye⟩])
              have hye' : (y == x) = true := beq_iff_eq.2 hye
              clear hye
              go_wp2
              go_roundw
              case rel => exact ⟨j + 1, by go_num, by omega, by rw [HI.out]; exact HO.out, HB.out⟩
              case measure => simp [intOf]; omega
            · have HI := hid (show risL (l.take (j + 1)) = acc.take (k' + 1) ++ x :: acc.drop (k' + 1) by rw [HR.out]; unfold insR; rw [HP.out, Nat.add_sub_cancel, HY.out, if_neg (fun h => hye h.2)])
              have hye' : (y == x) = false := beq_eq_false_iff_ne.2 hye
              clear hye
              have HTk := hid (sla_take HS2.out (show k' + 1 ≤ acc.length by omega))
              obtain ⟨A4, hA4, hdr⟩ := HS2.out.cut_from (show k' + 1 ≤ acc.length by omega)
              have HDr := hid hdr; clear hdr
              have hsH := run_cut_to6 (P := Tryd.prog) (A := (some ⟨b2, o2, none⟩)) (n := acc.length) (c := c2) Tryd.underlying29 (fun W => Tryd.sizeOf3 W) (p := k' + 1) (by have := HS2.out.nc; omega)
              have hsL := run_cut_from1 (P := Tryd.prog) (A := (some ⟨b2, o2, none⟩)) (n := acc.length) (c := c2) Tryd.underlying29 (fun W => Tryd.sizeOf3 W) (p := k' + 1) (by omega) hA4
              clear hA4
              rw [show ((k' + 1 : Nat) : Int) = (k' : Int) + 1 by omega] at hsH hsL
              go_wp2
              go_region_law (first
                | (refine step_append_sl _ rfl (.const (.slice none 0 0)) (.tmp 41) 29 rfl wr.heap.size 3 i0 (.int .i64 0) 1 8 Tryd.underlying29 hi hz0 hz1 hz2 rfl (by decide) _ 0 [] (by rfl) (World.ownsRow_nil _ _ _ _) (some ⟨b2, o2, none⟩) (k' + 1) c2 ((acc.take (k' + 1)).map (.int .i64)) (by rfl) ?s1 (ints_one _ _) (by unfold maxLen; omega) (by omega) (by simp) ?_; (case s1 => first | exact HTk.out.drew | exact HTk.out.drew.alloc _); intro v1 w1 own1 gr1 _; have hb1 : Below wr.heap.size wr w1 := (by first | exact below_append (below_drew (Below.refl _ _)) gr1 (World.ownsRow_nil _ wr.heap.size 3 1) (Nat.le_refl _) (by simp) | exact below_append ((below_drew (Below.refl _ _)).alloc (Nat.le_refl _) _) gr1 (World.ownsRow_nil _ wr.heap.size 3 1) (Nat.le_refl _) (by simp)))
                | (refine step_append_sl _ rfl (.tmp 42) (.tmp 44) 29 rfl wr.heap.size 3 i0 (.int .i64 0) 1 8 Tryd.underlying29 hi hz0 hz1 hz2 rfl (by decide) v1 (0 + (k' + 1)) ([] ++ (acc.take (k' + 1)).map (.int .i64)) (by rfl) ?s2 _ 1 1 [.int .i64 x] (by rfl) ?s3 (one_int _ _) (by unfold maxLen; omega) (by omega) ?s4 ?_; (case s2 => first | exact own1 | exact own1.alloc _); (case s3 => first | exact SlA.lit1 _ | exact (SlA.lit1 (w := wr.drew) (T := 3) (.int .i64 x)).ext (below_grown gr1)); (case s4 => first | exact hb1.size | exact (hb1.alloc hb1.size _).size); intro v2 w2 own2 gr2 _; have hb2 : Below wr.heap.size wr w2 := (by first | exact below_append hb1 gr2 own1 (Nat.le_refl _) hb1.size | exact below_append (hb1.alloc hb1.size _) gr2 (own1.alloc _) (Nat.le_refl _) (hb1.alloc hb1.size _).size))
                | (refine step_append_sl _ rfl (.tmp 45) (.tmp 48) 29 rfl wr.heap.size 3 i0 (.int .i64 0) 1 8 Tryd.underlying29 hi hz0 hz1 hz2 rfl (by decide) v2 (0 + (k' + 1) + 1) (([] ++ (acc.take (k' + 1)).map (.int .i64)) ++ [.int .i64 x]) (by rfl) own2 A4 (acc.length - (k' + 1)) (c2 - (k' + 1)) ((acc.map (.int .i64)).drop (k' + 1)) (by rfl) ?s5 ?s6 (by unfold maxLen; omega) (by omega) hb2.size ?_; (case s5 => exact HDr.out.ext hb2); (case s6 => intro u hu; exact ints_one _ _ u (List.mem_of_mem_drop hu)); intro v3 w3 own3 gr3 _; have hb3 : Below wr.heap.size wr w3 := below_append hb2 gr3 own2 (Nat.le_refl _) hb2.size))
              all_goals
                have HO3 := hid own3; have HB3 := hid hb3
                clear own1 own2 own3 gr1 gr2 gr3 hb1 hb2 hb3
                go_wp2
                go_roundw
                case rel =>
                  refine ⟨j + 1, by go_num, by omega, ?_, HB.out.trans (HB3.out.mono hzr)⟩
                  rw [HI.out]
                  exact own_fin HO3.out hzr (by omega)
                case measure => simp [intOf]; omega
        · have hk00 : k = 0 := by omega
          subst hk00
          have HI := hid (show risL (l.take (j + 1)) = acc.take 0 ++ x :: acc.drop 0 by rw [HR.out]; unfold insR; rw [HK.out, posF, if_neg (fun h => absurd h.1 (by omega))])
          have HTk := hid (sla_take HS2.out (show 0 ≤ acc.length by omega))
          obtain ⟨A4, hA4, hdr⟩ := HS2.out.cut_from (show 0 ≤ acc.length by omega)
          have HDr := hid hdr; clear hdr
          have hsH := run_cut_to6 (P := Tryd.prog) (A := A2) (n := acc.length) (c := c2) Tryd.underlying29 (fun W => Tryd.sizeOf3 W) (p := 0) (by have := HS2.out.nc; omega)
          have hsL := run_cut_from1 (P := Tryd.prog) (A := A2) (n := acc.length) (c := c2) Tryd.underlying29 (fun W => Tryd.sizeOf3 W) (p := 0) (by omega) hA4
          clear hA4
          rw [show ((0 : Nat) : Int) = 0 from rfl] at hsH hsL
          go_wp2
          go_region_law (first
            | (refine step_append_sl _ rfl (.const (.slice none 0 0)) (.tmp 41) 29 rfl wr.heap.size 3 i0 (.int .i64 0) 1 8 Tryd.underlying29 hi hz0 hz1 hz2 rfl (by decide) _ 0 [] (by rfl) (World.ownsRow_nil _ _ _ _) A2 (0) c2 ((acc.take (0)).map (.int .i64)) (by rfl) ?s1 (ints_one _ _) (by unfold maxLen; omega) (by omega) (by simp) ?_; (case s1 => first | exact HTk.out.drew | exact HTk.out.drew.alloc _); intro v1 w1 own1 gr1 _; have hb1 : Below wr.heap.size wr w1 := (by first | exact below_append (below_drew (Below.refl _ _)) gr1 (World.ownsRow_nil _ wr.heap.size 3 1) (Nat.le_refl _) (by simp) | exact below_append ((below_drew (Below.refl _ _)).alloc (Nat.le_refl _) _) gr1 (World.ownsRow_nil _ wr.heap.size 3 1) (Nat.le_refl _) (by simp)))
            | (refine step_append_sl _ rfl (.tmp 42) (.tmp 44) 29 rfl wr.heap.size 3 i0 (.int .i64 0) 1 8 Tryd.underlying29 hi hz0 hz1 hz2 rfl (by decide) v1 (0 + (0)) ([] ++ (acc.take (0)).map (.int .i64)) (by rfl) ?s2 _ 1 1 [.int .i64 x] (by rfl) ?s3 (one_int _ _) (by unfold maxLen; omega) (by omega) ?s4 ?_; (case s2 => first | exact own1 | exact own1.alloc _); (case s3 => first | exact SlA.lit1 _ | exact (SlA.lit1 (w := wr.drew) (T := 3) (.int .i64 x)).ext (below_grown gr1)); (case s4 => first | exact hb1.size | exact (hb1.alloc hb1.size _).size); intro v2 w2 own2 gr2 _; have hb2 : Below wr.heap.size wr w2 := (by first | exact below_append hb1 gr2 own1 (Nat.le_refl _) hb1.size | exact below_append (hb1.alloc hb1.size _) gr2 (own1.alloc _) (Nat.le_refl _) (hb1.alloc hb1.size _).size))
            | (refine step_append_sl _ rfl (.tmp 45) (.tmp 48) 29 rfl wr.heap.size 3 i0 (.int .i64 0) 1 8 Tryd.underlying29 hi hz0 hz1 hz2 rfl (by decide) v2 (0 + (0) + 1) (([] ++ (acc.take (0)).map (.int .i64)) ++ [.int .i64 x]) (by rfl) own2 A4 (acc.length - (0)) (c2 - (0)) ((acc.map (.int .i64)).drop (0)) (by rfl) ?s5 ?s6 (by unfold maxLen; omega) (by omega) hb2.size ?_; (case s5 => exact HDr.out.ext hb2); (case s6 => intro u hu; exact ints_one _ _ u (List.mem_of_mem_drop hu)); intro v3 w3 own3 gr3 _; have hb3 : Below wr.heap.size wr w3 := below_append hb2 gr3 own2 (Nat.le_refl _) hb2.size))
          all_goals
            have HO3 := hid own3; have HB3 := hid hb3
            clear own1 own2 own3 gr1 gr2 gr3 hb1 hb2 hb3
            go_wp2
            go_roundw
            case rel =>
              refine ⟨j + 1, by go_num, by omega, ?_, HB.out.trans (HB3.out.mono hzr)⟩
              rw [HI.out]
              exact own_fin HO3.out hzr (by omega)
            case measure => simp [intOf]; omega
    · have HJ := hid (show l.take j = l from List.take_of_length_le (by have := HL.out; omega))
      go_wp2
      go_ret
      refine ⟨_, rfl, ?_, HB.out⟩
      have := hown
      rw [HJ.out] at this
      exact this
end Go.Proofs.YtgnbiolckhdfeaaDoor

/- deduce's law: two, few, SameTexts. -/
namespace Go.KK
open Go.RowKit
set_option linter.unusedVariables false
set_option linter.unusedSimpArgs false
theorem arr_eq {p q : List UInt8} : (⟨p.toArray⟩ : ByteArray) = ⟨q.toArray⟩ ↔ p = q := by
  constructor
  · intro e
    injection e with e
    have := congrArg Array.toList e
    simpa using this
  · rintro rfl; rfl
theorem takeL_step {α : Type} {l m : List α} {j : Nat} {x : α} (h : l.take j = m.take j) (h1 : l[j]? = some x) (h2 : m[j]? = some x) : l.take (j + 1) = m.take (j + 1) := by rw [take_one h1, take_one h2, h]
theorem atL_ne {α : Type} {l m : List α} {j : Nat} {x y : α} (h1 : l[j]? = some x) (h2 : m[j]? = some y) (h : x ≠ y) : l ≠ m := fun e => h (by rw [e, h2] at h1; injection h1 with h1; exact h1.symm)
end Go.KK
namespace Go.Proofs.YtgnbiolckhdfeaaDoor
open Go.RowKit Go.KK Go.Shelf Go.Maps

theorem strRow_at {w : World} {A : Option Addr} {n c : Nat} {ps : List (List UInt8)} (h : SlA w 1 A n c (ps.map strV)) {j : Nat} (hj : j < n) : ∃ b o p, A = some ⟨b, o, none⟩ ∧ ps[j]? = some p ∧ w.cell? ⟨b, o + j, none⟩ = some (.string ⟨p.toArray⟩) := by
  have hl := h.len
  rw [List.length_map, Nat.mul_one] at hl
  have hx : ps[j]? = some ps[j] := List.getElem?_eq_getElem (by omega)
  obtain ⟨b, o, e, hc⟩ := h.cells j (strV ps[j]) (by rw [List.getElem?_map, hx]; rfl)
  exact ⟨b, o, _, e, hx, hc⟩
theorem strRow_len {w : World} {A : Option Addr} {n c : Nat} {ps : List (List UInt8)} (h : SlA w 1 A n c (ps.map strV)) : ps.length = n := by
  have hl := h.len
  rw [List.length_map, Nat.mul_one] at hl
  exact hl
set_option maxHeartbeats 1000000 in
theorem eq_texts (A : Option Addr) (n c : Nat) (l : List (List UInt8)) (B : Option Addr) (m d : Nat) (l' : List (List UInt8)) (w : World) (h : SlA w 1 A n c (l.map strV)) (h' : SlA w 1 B m d (l'.map strV)) (hn : n ≤ 2147483648) :
    Calls Tryd.prog 54 #[.slice A n c, .slice B m d] w fun e w' => e = .returned (.bool (decide (l = l'))) ∧ ∃ q, w' = w.drewN q := by
  have HL := hid (strRow_len h); have HS := hid h; have HL' := hid (strRow_len h'); have HS' := hid h'
  clear h h'
  by_cases hnm : n = m
  · subst hnm
    go_enter Tryd.func54, Tryd.ntmps54
    go_wp2
    go_loopw [13, 5] (fun i _ wr => ∃ j q : Nat, i = .int .i64 j ∧ j ≤ n ∧ Hid (l.take j = l'.take j) ∧ wr = w.drewN q) (fun i _ _ => n - (intOf i).toNat)
    case atStart => exact ⟨0, 0, rfl, by omega, hid rfl, rfl⟩
    case round =>
      obtain ⟨j, q, hi, hj, HJ, hw⟩ := hrel
      subst hi; subst hw
      by_cases hlt : j < n
      · obtain ⟨b, o, z, rfl, hz, hc⟩ := strRow_at HS.out hlt
        obtain ⟨b', o', z', rfl, hz', hc'⟩ := strRow_at HS'.out hlt
        have hj0 : (0 : Int) ≤ (j : Int) := by omega
        have hj1 : (j : Int) < (n : Int) := by omega
        have HZ := hid hz; have HZ' := hid hz'
        clear hz hz'
        by_cases hzx : z = z'
        · have HF := hid (takeL_step HJ.out HZ.out (hzx ▸ HZ'.out))
          subst hzx
          clear HZ HZ'
          generalize (⟨z.toArray⟩ : ByteArray) = S at *
          have h2 : (S == S) = true := by rw [Go.MapKept.bytes_beq]
          have h1 : (S != S) = false := by unfold bne; rw [h2]; rfl
          go_wp2
          go_quiet (fail)
          go_wp2
          go_roundw
          case rel => exact ⟨j + 1, _, by go_num, by omega, HF, rfl⟩
          case measure => simp [intOf]; omega
        · have HF := hid (show decide (l = l') = false from decide_eq_false (atL_ne HZ.out HZ'.out hzx))
          have hS : (⟨z.toArray⟩ : ByteArray) ≠ ⟨z'.toArray⟩ := fun e => hzx (arr_eq.1 e)
          clear HZ HZ' hzx
          generalize (⟨z.toArray⟩ : ByteArray) = S at *
          generalize (⟨z'.toArray⟩ : ByteArray) = S' at *
          have h1 : (S == S') = false := by
            rw [Bool.eq_false_iff]
            intro e
            rw [Go.MapKept.bytes_beq] at e
            exact hS e
          have h2 : (S != S') = true := by unfold bne; rw [h1]; rfl
          have h3 : (S.toList == S'.toList) = false := by rw [← beq_toListBytes]; exact h1
          clear hS
          go_wp2
          go_quiet (fail)
          go_wp2
          go_ret
          exact ⟨by rw [HF.out]; rfl, _, World.drewN_drewN _ _ _⟩
      · have HF := hid (show decide (l = l') = true from decide_eq_true (by
          have := HJ.out
          rwa [List.take_of_length_le (by have := HL.out; omega), List.take_of_length_le (by have := HL'.out; omega)] at this))
        go_wp2
        go_ret
        exact ⟨by rw [HF.out]; rfl, q, rfl⟩
  · have HF := hid (show decide (l = l') = false from decide_eq_false fun e => hnm (by rw [← HL.out, ← HL'.out, e]))
    have hnm' : ((n : Int) != (m : Int)) = true := bne_iff_ne.2 (by omega)
    clear hnm
    go_enter Tryd.func54, Tryd.ntmps54
    go_wp2
    go_ret
    exact ⟨by rw [HF.out]; rfl, 0, rfl⟩
end Go.Proofs.YtgnbiolckhdfeaaDoor


/- deduce: Alike. -/
namespace Go.Proofs.YtgnbiolckhdfeaaDoor
open Go.RowKit Go.KK Go.Shelf Go.Maps
set_option linter.unusedVariables false
set_option linter.unusedSimpArgs false

/-- What Alike answers. -/
noncomputable def alkB (xs : List ND) (x y : List Int) : Bool := x.all (hasB xs) && y.all (hasB xs) && decide ((patsF xs (derB xs x) [] x).1 = (patsF xs (derB xs y) [] y).1)
def alkE (xs : List ND) (x y : List Int) : Int := if x.all (hasB xs) && y.all (hasB xs) then 0 else 1
set_option maxHeartbeats 2000000 in
set_option maxRecDepth 100000 in
theorem alike_any (W : World) (st : Nat) (xs : List ND) (A : Option Addr) (n c : Nat) (x : List Int) (A' : Option Addr) (n' c' : Nat) (y : List Int) (hA : ArV W 91 st xs) (hok : Okay xs) (hul : ∀ m, (uses xs m).length ≤ 100000000) (hx : SlA W 1 A n c (x.map (.int .i64))) (hy : SlA W 1 A' n' c' (y.map (.int .i64))) (hn : n ≤ 1000000) (hn' : n' ≤ 1000000) (hT : Tb W.heap.size W) (hs : ∀ x ∈ xs, x.s.size ≤ 1000000)
    (hpx : x.all (hasB xs) = true → ∀ p ∈ (patsF xs (derB xs x) [] x).1, p.length ≤ 10000000) (hpy : y.all (hasB xs) = true → ∀ p ∈ (patsF xs (derB xs y) [] y).1, p.length ≤ 10000000) :
    Calls Tryd.prog 26 #[.pointer (some ⟨st, 0, none⟩), .slice A n c, .slice A' n' c'] W fun e w' => e = .returned (.tuple #[.bool (alkB xs x y), .int .i64 (alkE xs x y)]) ∧ Below W.heap.size W w' := by
  have HP1 := hid (pattern_any W st xs A n c x hA hok hul hx hn hT hs hpx)
  have HP2 := hid (fun (U : World) (hb : Below W.heap.size W U) => pattern_any U st xs A' n' c' y (hA.ext hb) hok hul (hy.ext hb) hn' (Tb.up (hT.on hb) hb.size) hs hpy)
  have HXL := hid hx.lenI; have HYL := hid hy.lenI
  clear hA hok hul hx hy hT hs hpx hpy
  go_enter Tryd.func26, Tryd.ntmps26
  go_wp2_with fail
  refine HP1.out.mono ?_
  rintro e w1 (⟨hall, rfl, hb⟩ | ⟨hall, A1, c1, rfl, hr1, hb⟩)
  · have HF := hid (show alkB xs x y = false ∧ alkE xs x y = 1 by unfold alkB alkE; rw [hall]; exact ⟨rfl, rfl⟩)
    have HB := hid hb
    clear hall hb
    go_wp2_with fail
    refine (HP2.out _ HB.out).mono ?_
    rintro e w2 (⟨hall, rfl, hb⟩ | ⟨hall, A2, c2, rfl, hr2, hb⟩)
    all_goals
      have HB2 := hid (HB.out.trans (hb.mono HB.out.size))
      clear hall hb
      go_wp2_with fail
      first | go_ret2 | go_ret
      exact ⟨by rw [HF.out.1, HF.out.2] <;> rfl, HB2.out⟩
  · have HF1 := hid hall
    have HB := hid hb
    have HR1 := hid (SlA.of_own hr1).2
    clear hall hb hr1
    go_wp2_with fail
    refine (HP2.out _ HB.out).mono ?_
    rintro e w2 (⟨hall, rfl, hb⟩ | ⟨hall, A2, c2, rfl, hr2, hb⟩)
    · have HF := hid (show alkB xs x y = false ∧ alkE xs x y = 1 by unfold alkB alkE; rw [hall, HF1.out]; exact ⟨rfl, rfl⟩)
      have HB2 := hid (HB.out.trans (hb.mono HB.out.size))
      clear hall hb
      go_wp2_with fail
      first | go_ret2 | go_ret
      exact ⟨by rw [HF.out.1, HF.out.2] <;> rfl, HB2.out⟩
    · have HF := hid (show alkB xs x y = decide ((patsF xs (derB xs x) [] x).1 = (patsF xs (derB xs y) [] y).1) ∧ alkE xs x y = 0 by unfold alkB alkE; rw [hall, HF1.out]; exact ⟨rfl, rfl⟩)
      have HB2 := hid (HB.out.trans (hb.mono HB.out.size))
      have HR2 := hid (SlA.of_own hr2).2
      have HEQ := hid (eq_texts A1 x.length c1 _ A2 y.length c2 _ w2 (HR1.out.ext hb) HR2.out (by have := HXL.out; omega))
      clear hall hb hr2 HR1 HR2
      go_wp2_with fail
      refine HEQ.out.mono ?_
      rintro e w3 ⟨rfl, q, rfl⟩
      generalize decide ((patsF xs (derB xs x) [] x).1 = (patsF xs (derB xs y) [] y).1) = bb at *
      go_wp2_with fail
      first | go_ret2 | go_ret
      exact ⟨by rw [HF.out.1, HF.out.2] <;> rfl, below_drewN HB2.out q⟩
end Go.Proofs.YtgnbiolckhdfeaaDoor

/- token's law: TokenBlind, what is carried and what deduce answers. -/
namespace Go.Proofs.YtgnbiolckhdfeaaDoor
open Go.RowKit Go.KK Go.Shelf Go.Maps
set_option linter.unusedVariables false
set_option linter.unusedSimpArgs false

theorem tb_m : ∀ j : Fin 6, (tbR j.val).m.k = 0 ∧ (tbR j.val).m.q = 50 ∧ (tbR j.val).m.g = (List.range j.val).map (fun (i : Nat) => ((1 + (i : Int), (1 : Int)) : Int × Int)) ∧ (tbR j.val).m.p = [] := by decide +kernel
theorem tb_l : ∀ j : Fin 6, (tbR j.val).s.length = 3 * j.val ∧ (tbR j.val).n.length = j.val ∧ (tbR j.val).t.length = j.val := by decide +kernel
theorem tb_mto (j : Nat) (hj : j ≤ 5) : MtO (tbR j).m ∧ (tbR j).m.g.length = j ∧ (tbR j).m.p.length = 0 := by
  obtain ⟨h1, h2, h3, h4⟩ := tb_m ⟨j, by omega⟩
  simp only at h1 h2 h3 h4
  refine ⟨⟨by rw [h1]; exact i64_lit (by decide) (by decide), by rw [h2]; exact i64_lit (by decide) (by decide), ?_, ?_, ?_, ?_, ?_, ?_⟩, ?_, ?_⟩
  · rw [h3]; unfold CtS; rw [List.pairwise_map]
    refine List.pairwise_lt_range.imp ?_
    intro a b hab
    omega
  · intro c hc
    rw [h3] at hc
    obtain ⟨i, hi, rfl⟩ := List.mem_map.1 hc
    simp
  · rw [h3]; simp; omega
  · rw [h4]; exact .nil
  · rw [h4]; simp
  · intro i hi; rw [h4] at hi; simp at hi
  · rw [h3]; simp
  · rw [h4]; rfl
theorem tb_err (j : Nat) (hj : j < 5) : (tbA (tbR j) j).2.2 = 0 ∧ (tbI (tbR j) j).2.2.2 = 0 ∧ (tbF (tbR j) j).2.2 = 0 := by
  have h := List.all_eq_true.1 tb_e j (List.mem_range.2 hj)
  simp only [Bool.and_eq_true, beq_iff_eq] at h
  exact ⟨h.1.1, h.1.2, h.2⟩
theorem tb_num (n : Nat) (h : 2 ≤ n) (h5 : n ≤ 5) : tbB n = true ∧ tbD n = true := by
  obtain ⟨d2, d3, d4, d5⟩ := tb_d
  obtain rfl | rfl | rfl | rfl : n = 2 ∨ n = 3 ∨ n = 4 ∨ n = 5 := by omega
  · exact ⟨tb_b2, d2⟩
  · exact ⟨tb_b3, d3⟩
  · exact ⟨tb_b4, d4⟩
  · exact ⟨tb_b5, d5⟩
section
variable {X : List ND} {l m : List Int}
theorem pa_of (ok : Okay X) (h1 : (derC X l 300).o.isEmpty = true) (h2 : l.all (hasB X) = true) : (patsF X (derB X l) [] l).1 = paC X l := by
  have hk := List.all_eq_true.1 h2
  unfold paC
  rw [pats_congr ok (fun t ht => derC_der ok hk (List.isEmpty_iff.1 h1) ht) l [] hk]
end
theorem tb_alk {n i : Nat} (h : 2 ≤ n) (h5 : n ≤ 5) (hi : i < n) (ok : Okay (tbR n).X) : alkB (tbR n).X (tbO n 0) (tbO n i) = true ∧ alkE (tbR n).X (tbO n 0) (tbO n i) = 0 ∧ (∀ p ∈ (patsF (tbR n).X (derB (tbR n).X (tbO n i)) [] (tbO n i)).1, p.length ≤ 10000000) ∧ (spF (tbR n).X (tbR n).m ((tbR n).n.getD i 0) ((tbR n).t.getD i 0)).2 = 0 := by
  have hb := (tb_num n h h5).1
  unfold tbB at hb
  have at' : ∀ k, k < n → ((derC (tbR n).X (tbO n k) 300).o.isEmpty = true ∧ (tbO n k).all (hasB (tbR n).X) = true ∧ paC (tbR n).X (tbO n k) = paC (tbR n).X (tbO n 0) ∧ (∀ p ∈ paC (tbR n).X (tbO n k), p.length ≤ 10000) ∧ (spF (tbR n).X (tbR n).m ((tbR n).n.getD k 0) ((tbR n).t.getD k 0)).2 = 0) := fun k hk => by
    have := List.all_eq_true.1 hb k (List.mem_range.2 hk)
    simp only [Bool.and_eq_true, beq_iff_eq, List.all_eq_true, decide_eq_true_eq] at this
    obtain ⟨⟨⟨⟨a1, a2⟩, a3⟩, a4⟩, a5⟩ := this
    exact ⟨a1, List.all_eq_true.2 a2, a3, a4, a5⟩
  obtain ⟨a1, a2, a3, a4, a5⟩ := at' i hi
  obtain ⟨b1, b2, b3, b4, b5⟩ := at' 0 (by omega)
  have e1 := pa_of ok a1 a2
  have e2 := pa_of ok b1 b2
  refine ⟨?_, ?_, ?_, a5⟩
  · unfold alkB
    rw [a2, b2, e1, e2, a3, decide_eq_true rfl]; rfl
  · unfold alkE
    rw [a2, b2]; rfl
  · rw [e1]
    exact fun p hp => Nat.le_trans (a4 p hp) (by decide)
theorem tb_drv {n i : Nat} (h : 2 ≤ n) (h5 : n ≤ 5) (hi : i < n) (ok : Okay (tbR n).X) : drvB (tbR n).X (0 :: (tbR n).s) ((tbR n).n.getD i 0) = false ∧ drvE (tbR n).X (0 :: (tbR n).s) ((tbR n).n.getD i 0) = 0 := by
  have hb := (tb_num n h h5).2
  unfold tbD at hb
  rw [Bool.and_eq_true, Bool.and_eq_true, List.all_eq_true] at hb
  obtain ⟨⟨h1, h2⟩, h3⟩ := hb
  have h4 := List.all_eq_true.1 h3 i (List.mem_range.2 hi)
  rw [Bool.and_eq_true, Bool.not_eq_true'] at h4
  unfold drvB drvE
  rw [show (0 :: (tbR n).s).all (hasB (tbR n).X) = true from List.all_eq_true.2 h1, h4.1, derC_der ok h1 (List.isEmpty_iff.1 h2) h4.1, h4.2]
  exact ⟨rfl, rfl⟩
end Go.Proofs.YtgnbiolckhdfeaaDoor

/- appends in a region that draws its order, whichever order: words of memory, of no program. -/
namespace Go.KK
open Go.RowKit
set_option linter.unusedVariables false
set_option linter.unusedSimpArgs false

/-- What stands in a block. -/
def HasO (o : Obj) (b : Nat) (W : World) : Prop := W.heap[b]? = some o
section
variable {o o' : Obj} {b g B : Nat} {W V a : World}
theorem HasO.new (o : Obj) (W : World) : HasO o W.heap.size (W.alloc o) := heap_alloc_new W o
theorem HasO.new' (h : b = W.heap.size) : HasO o b (W.alloc o) := by subst h; exact heap_alloc_new W o
theorem HasO.lt (h : HasO o b W) : b < W.heap.size := (Array.getElem?_eq_some_iff.1 h).1
theorem HasO.bel (h : HasO o b W) (hb : Below W.heap.size W V) : HasO o b V := (hb.block b h.lt).trans h
theorem HasO.alloc (h : HasO o b W) : HasO o b (W.alloc o') := h.bel ((Below.refl _ _).alloc (Nat.le_refl _) o')
theorem HasO.drew (h : HasO o b W) : HasO o b W.drew := h
theorem HasO.grown (h : HasO o b W) (hg : W.grownBy V (some g)) (hn : b ≠ g) : HasO o b V := (hg.block b h.lt fun e => hn (Option.some.inj e)).trans h
theorem below_al (h : Below a.heap.size a W) : Below a.heap.size a (W.alloc o) := h.alloc h.size o
theorem bel_step {n : Nat} (h : Below a.heap.size a W) (b5 : Below n W V) (hn : n = W.heap.size) : Below a.heap.size a V := h.trans (b5.mono (by rw [hn]; exact h.size))
theorem below_sz (h : Below a.heap.size a W) : a.heap.size ≤ W.heap.size := h.size
theorem size_al : (W.alloc o).heap.size = W.heap.size + 1 := by simp
theorem size_dr : W.drew.heap.size = W.heap.size := rfl
/-- A literal row, read and owned. -/
theorem HasO.own1 {T : TypeId} {v : Value} (h : HasO (.cells #[v] T (0, 0)) b W) (hB : B ≤ b) : W.ownsRow B T 1 (.slice (some ⟨b, 0, none⟩) 1 1) 1 [v] :=
  ⟨by simp, .inr ⟨b, 1, _, rfl, hB, h, Nat.le_refl _, by decide, rfl, by simp⟩⟩
theorem HasO.sla {T : TypeId} {n : Nat} {vs : Array Value} (h : HasO (.cells vs T (0, 0)) b W) (hn : vs.size = n) (hm : vs.size ≤ maxLen) : SlA W 1 (some ⟨b, 0, none⟩) n n vs.toList := by
  subst hn
  refine ⟨Nat.le_refl _, hm, by simp, fun j u hj => ⟨b, 0, rfl, ?_⟩⟩
  rw [cell_of_row W b (0 + j) _ _ (0, 0) h, Nat.zero_add]
  simpa using hj
/-- A row that is not empty, in its block. -/
theorem own_block1 {T : TypeId} {n : Nat} {v : Value} {xs : List Value} (h : W.ownsRow B T 1 v n xs) (hn : 0 < n) : ∃ g c, v = .slice (some ⟨g, 0, none⟩) n c ∧ B ≤ g ∧ g < W.heap.size := by
  rcases h.2 with ⟨_, rfl⟩ | ⟨g, cap, cur, rfl, h1, h2, _⟩
  · omega
  · exact ⟨g, cap, rfl, h1, (Array.getElem?_eq_some_iff.1 h2).1⟩
end
section
variable {P : Program} (w : World)
theorem step_append_new {ops : Array Oper} {o : Oper} {a : Act} {K : Act → World → Prop} {Q : Exit → Act → World → Prop} {E : Prop} (hgd : o.guard = none) (s x : Operand) (t : TypeId)
    (ho : o.op = .call { callee := .builtin .append, args := #[s, x], argTypes := #[t, t] })
    (e : TypeId) (i : TypeInfo) (z : Value) (size bytes : Nat) (ht : P.underlying t = some (.slice e)) (hi : P.info? e = some i) (hz : i.zero = some z)
    (hsize : i.size = size) (hby : i.bytes = bytes) (hzs : z.cells.size = size) (hsz : 0 < size)
    (hs : a.eval s = .slice none 0 0)
    (A : Option Addr) (m c : Nat) (news : List Value) (hx : a.eval x = .slice A m c) (hr : SlA w size A m c news) (h1 : ∀ u ∈ news, u.oneCell' = true)
    (h63 : m ≤ maxLen) (hbytes : m * bytes ≤ 140737488355328)
    (h : ∀ v' w', w'.ownsRow w.heap.size e size v' m news → RowKit.Below w.heap.size w w' → K (a.put o.dst v') w') :
    if Region.wanted o (yielded ops a.tmps) = true then Oper.wp P o a w K Q else E := by
  refine step_append_sl w hgd s x t ho w.heap.size e i z size bytes ht hi hz hsize hby hzs hsz _ 0 [] hs (World.ownsRow_nil _ _ _ _) A m c news hx hr h1 (by simpa using h63) (by simpa using hbytes) (Nat.le_refl _) ?_
  intro v' w' hown hg _
  refine h v' w' (by simpa using hown) ?_
  exact (RowKit.Below.refl _ _).grown hg (Nat.le_refl _) (by simp [Value.ownBlock])
end
section
variable {P : Program} (w : World)
theorem step_append_newd {ops : Array Oper} {o : Oper} {a : Act} {K : Act → World → Prop} {Q : Exit → Act → World → Prop} {E : Prop} (hgd : o.guard = none) (d : Option Nat) (hd : o.dst = d) (s x : Operand) (t : TypeId)
    (ho : o.op = .call { callee := .builtin .append, args := #[s, x], argTypes := #[t, t] })
    (e : TypeId) (i : TypeInfo) (z : Value) (size bytes : Nat) (ht : P.underlying t = some (.slice e)) (hi : P.info? e = some i) (hz : i.zero = some z)
    (hsize : i.size = size) (hby : i.bytes = bytes) (hzs : z.cells.size = size) (hsz : 0 < size)
    (hs : a.eval s = .slice none 0 0)
    (A : Option Addr) (m c : Nat) (news : List Value) (hx : a.eval x = .slice A m c) (hr : SlA w size A m c news) (h1 : ∀ u ∈ news, u.oneCell' = true)
    (h63 : m ≤ maxLen) (hbytes : m * bytes ≤ 140737488355328)
    (h : ∀ v' w', w'.ownsRow w.heap.size e size v' m news → RowKit.Below w.heap.size w w' → K (a.put d v') w') :
    if Region.wanted o (yielded ops a.tmps) = true then Oper.wp P o a w K Q else E := by
  subst hd
  exact step_append_new w hgd s x t ho e i z size bytes ht hi hz hsize hby hzs hsz hs A m c news hx hr h1 h63 hbytes h
theorem step_append_sld {ops : Array Oper} {o : Oper} {a : Act} {K : Act → World → Prop} {Q : Exit → Act → World → Prop} {E : Prop} (hgd : o.guard = none) (d : Option Nat) (hd : o.dst = d) (s x : Operand) (t : TypeId)
    (ho : o.op = .call { callee := .builtin .append, args := #[s, x], argTypes := #[t, t] })
    (base : Nat) (e : TypeId) (i : TypeInfo) (z : Value) (size bytes : Nat) (ht : P.underlying t = some (.slice e)) (hi : P.info? e = some i) (hz : i.zero = some z)
    (hsize : i.size = size) (hby : i.bytes = bytes) (hzs : z.cells.size = size) (hsz : 0 < size)
    (v : Value) (n : Nat) (xs : List Value) (hs : a.eval s = v) (hown : w.ownsRow base e size v n xs)
    (A : Option Addr) (m c : Nat) (news : List Value) (hx : a.eval x = .slice A m c) (hr : SlA w size A m c news) (h1 : ∀ u ∈ news, u.oneCell' = true)
    (h63 : n + m ≤ maxLen) (hbytes : (n + m) * bytes ≤ 140737488355328) (hbase : base ≤ w.heap.size)
    (h : ∀ v' w', w'.ownsRow base e size v' (n + m) (xs ++ news) → w.grownBy w' v.ownBlock → (v'.ownBlock = v.ownBlock ∨ v'.ownBlock = some w.heap.size) → K (a.put d v') w') :
    if Region.wanted o (yielded ops a.tmps) = true then Oper.wp P o a w K Q else E := by
  subst hd
  exact step_append_sl w hgd s x t ho base e i z size bytes ht hi hz hsize hby hzs hsz v n xs hs hown A m c news hx hr h1 h63 hbytes hbase h
end
end Go.KK

