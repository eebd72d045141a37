import Derived.Test.YtekfjcaihocmmaaGreatDoorY03
import Derived.Test.YtekfjcaihocmmaaGreatDoorY01
import Derived.Lib.ConvBytes
import Derived.Laws.AppendOwn
import Derived.Test.YtekfjcaihocmmaaGreatDoorY04
import Derived.Deep.WholeRow
import Derived.Tactics2
import Derived.Defers
import Derived.Laws.Pointers
import Derived.Laws.LoneSync
import Derived.RegionTactic
import Derived.RegionCalls
import Derived.ChangeAlike
/- strings.NewReplacer, of the four texts that the program hands it. []byte(s) as a step of a walk: a row of its own; nothing that was there has turned (of no program). (*strings.Replacer).build, of the four texts: a byteStringReplacer. -/
namespace Go.Proofs.YtekfjcaihocmmaaGreatDoor
open Go.RowKit Go.KK Go.Shelf Go.Maps
set_option linter.unusedVariables false
set_option linter.unusedSimpArgs false

/-- What stands in the program: a quote and a stroke, each with a stroke ahead of it. -/
def rs4 : List Value := [.string ⟨#[34]⟩, .string ⟨#[92, 34]⟩, .string ⟨#[92]⟩, .string ⟨#[92, 92]⟩]
theorem infoS : (Tryz.prog.info? 9).map (fun i => (i.zero, i.size, i.bytes)) = some (some (.string ⟨#[]⟩), 1, 16) := by kernel_rfl
theorem rs4_one : ∀ u ∈ rs4, u.oneCell' = true := by
  intro u hu
  simp only [rs4, List.mem_cons, List.mem_nil_iff, or_false] at hu
  rcases hu with rfl | rfl | rfl | rfl <;> rfl
/-- A Replacer that is not built yet, at block b. -/
structure RpN (base : Nat) (W : World) (b : Nat) (v : Value) : Prop where
  o : W.ownsRow base 282 5 (.slice (some ⟨b, 0, none⟩) 1 1) 1 [.int .u32 0, .int .i32 0, .int .u32 0, .nilIface, v]
  s : W.ownsRow base 9 1 v 4 rs4
  d : v.ownBlock ≠ some b
set_option maxHeartbeats 2000000 in
set_option maxRecDepth 100000 in
theorem newrep_any (A : Option Addr) (c : Nat) (w : World) (h : SlA w 1 A 4 c rs4) :
    Calls Tryz.prog 213 #[.slice A 4 c] w fun e w' => ∃ b v, e = .returned (.pointer (some ⟨b, 0, none⟩)) ∧ RpN w.heap.size w' b v ∧ Below w.heap.size w w' := by
  obtain ⟨i0, hi, hz0, hz1, hz2⟩ := info_parts infoS
  have H := hid h
  clear h
  go_enter Tryz.func213, Tryz.ntmps213
  go_wp2_with (first
    | (at_builtin; refine wpList_append_new _ rfl _ _ 266 rfl 9 i0 (.string ⟨#[]⟩) 1 16 Tryz.underlying266 hi hz0 hz1 hz2 rfl (by decide) rfl A 4 c rs4 rfl H.out rs4_one (by unfold maxLen; omega) (by omega) ?_; intro v1 w1 own1 b1; obtain ⟨A1, c1, rfl, -⟩ := SlA.owned own1; have HO := hid own1; have HB := hid b1; clear own1 b1)
    | fail)
  go_ret
  exact ⟨w1.heap.size, .slice A1 4 c1, rfl, ⟨⟨rfl, .inr ⟨w1.heap.size, 1, _, rfl, HB.out.size, heap_alloc_new w1 _, Nat.le_refl _, by decide, rfl, by simp⟩⟩, HO.out.alloc _, fun e => by have := (HO.out.lt _ e).2; omega⟩, HB.out.alloc HB.out.size _⟩
end Go.Proofs.YtekfjcaihocmmaaGreatDoor
namespace Go.KK
open Go.RowKit

/-- A text's bytes as cells. -/
def byC (s : ByteArray) : List Value := s.data.toList.map fun b => .int .u8 b.toNat
theorem byC_len (s : ByteArray) : (byC s).length = s.size := by simp [byC]
theorem byC_one (s : ByteArray) : ∀ u ∈ byC s, u.oneCell' = true := by
  intro u hu
  simp only [byC, List.mem_map] at hu
  obtain ⟨b, -, rfl⟩ := hu
  rfl
theorem grown_bytes (w : World) (e : TypeId) (s : ByteArray) : w.grownBy (Lib.bytesWorld w e s) none :=
  ⟨rfl, rfl, rfl, by rw [Lib.bytesWorld_size]; omega, fun i hi _ => Lib.bytesWorld_at_old w e s i hi⟩
theorem sla_bytes (w : World) (e : TypeId) (s : ByteArray) (hs : s.size ≤ maxLen) : SlA (Lib.bytesWorld w e s) 1 (some ⟨w.heap.size, 0, none⟩) s.size (grownCap w s.size 0 e) (byC s) := by
  refine ⟨grownCap_ge w s.size 0 e, grownCap_le_maxLen w s.size 0 e hs, by rw [byC_len, Nat.mul_one], fun j u hj => ⟨w.heap.size, 0, rfl, ?_⟩⟩
  have hl : j < s.size := by
    have := (List.getElem?_eq_some_iff.1 hj).1
    rwa [byC_len] at this
  rw [Nat.zero_add, Lib.bytesWorld_cell w e s j hl]
  have hd : j < s.data.toList.length := by simpa using hl
  simp only [byC, List.getElem?_map, List.getElem?_eq_getElem hd, Option.map_some] at hj
  injection hj with hj
  rw [← hj, List.getD, List.getElem?_eq_getElem hd]
  rfl
theorem wpList_str_bytes {P : Program} {w : World} {ops : Array Oper} {rest : List Oper} {o : Oper} {a : Act} {Q : Exit → Act → World → Prop} (hgd : o.guard = none) (x : Operand) (src dst e : TypeId)
    (hop : o.op = Op.convert src dst x) (hs : P.underlying src = some .string) (hd : P.underlying dst = some (.slice e)) (he : P.underlying e = some (.int .u8)) (s : ByteArray) (hx : a.eval x = .string s) (hm : s.size ≤ maxLen)
    (h : ∀ c w', w.grownBy w' none → w'.heap.size = w.heap.size + 1 → SlA w' 1 (some ⟨w.heap.size, 0, none⟩) s.size c (byC s) → wpList P ops Q rest (a.put o.dst (.slice (some ⟨w.heap.size, 0, none⟩) s.size c)) w') :
    wpList P ops Q (o :: rest) a w := by
  refine wpList_plain hgd fun K hK => ?_
  unfold Oper.wp execOp
  simp only [hop, hx, Sem.run_bind, Sem.run_pure, Lib.run_convert_string_bytes w src dst e s hs hd he, Result.andThen_ok]
  exact hK _ _ (h _ _ (grown_bytes w e s) (Lib.bytesWorld_size w e s) (sla_bytes w e s hm))
end Go.KK
namespace Go.Proofs.YtekfjcaihocmmaaGreatDoor
open Go.RowKit Go.KK Go.Shelf Go.Maps

/-- The cells of a byteStringReplacer that holds nothing yet. -/
def bsrZ (v : Value) : Array Value := (Array.replicate 256 (.slice none 0 0)).push v
theorem bsrZ_size (v : Value) : (bsrZ v).size = 257 := by simp [bsrZ]
theorem info_bsr : (Tryz.prog.info? 309).map (fun i => (i.zero, i.size)) = some (some (.agg (bsrZ (.slice none 0 0))), 257) := by kernel_rfl
theorem build_bsr (A : Option Addr) (n c : Nat) (w : World) : (Instr.build 309 #[(1, .slice A n c)]).run Tryz.prog w = .ok (.agg (bsrZ (.slice A n c))) w := by kernel_rfl
theorem rep_set (n : Nat) (a v x : Value) : ((Array.replicate n a).push x).toList.set n v = ((Array.replicate n a).push v).toList := by
  simp
theorem rep_all (n : Nat) (A : Option Addr) (m c : Nat) : ((Array.replicate n (Value.slice none 0 0)).push (Value.slice A m c)).all (·.oneCell') = true := by
  rw [← Array.all_toList, Array.toList_push, List.all_eq_true]
  intro x hx
  rw [List.mem_append, Array.toList_replicate, List.mem_replicate, List.mem_singleton] at hx
  rcases hx with ⟨_, rfl⟩ | rfl <;> rfl
theorem rep_at (n : Nat) (a x : Value) (i : Nat) (hi : i < n) : ((Array.replicate n a).push x).toList[i]? = some a := by
  simp [List.getElem?_append, hi]
theorem rep_end (n : Nat) (a x : Value) : ((Array.replicate n a).push x).toList[n]? = some x := by simp
theorem bsrZ_set (v : Value) : (bsrZ (.slice none 0 0)).toList.set 256 v = (bsrZ v).toList := rep_set 256 _ _ _
theorem bsrZ_all (A : Option Addr) (n c : Nat) : (bsrZ (.slice A n c)).all (·.oneCell') = true := rep_all 256 A n c
theorem run_store_bsr (w : World) (A : Option Addr) (n c : Nat) : (storeCells ⟨w.heap.size, 0, none⟩ ((bsrZ (.slice none 0 0)).toList.set 256 (.slice A n c)) 0).run Tryz.prog (w.alloc (.cells (bsrZ (.slice none 0 0)) 309)) = .ok () (w.alloc (.cells (bsrZ (.slice A n c)) 309)) := by
  rw [bsrZ_set]
  exact run_storeCells_new (P := Tryz.prog) w 309 _ _ (by rw [(zero_of_info info_bsr).2, bsrZ_size]) (by rw [bsrZ_size, bsrZ_size]) (bsrZ_all A n c)
theorem bsrZ_at (v : Value) (i : Nat) (hi : i < 256) : (bsrZ v).toList[i]? = some (.slice none 0 0) := rep_at 256 _ _ i hi
theorem bsrZ_end (v : Value) : (bsrZ v).toList[256]? = some v := rep_end 256 _ _
theorem eql_nil (w : World) : (binOp .eql 195 (.slice none 0 0) (.slice none 0 0)).run Tryz.prog w = .ok (.bool true) w := by kernel_rfl
theorem neq_nil (w : World) : (binOp .neq 195 (.slice none 0 0) (.slice none 0 0)).run Tryz.prog w = .ok (.bool false) w := by kernel_rfl
theorem neq_some (a : Addr) (n c : Nat) (w : World) : (binOp .neq 195 (.slice (some a) n c) (.slice none 0 0)).run Tryz.prog w = .ok (.bool true) w := by kernel_rfl
/-- build on its way: L are the cells at block g, v the row of what is to be replaced. -/
structure BdW (w0 W : World) (g : Nat) (L : List Value) (v : Value) (ts : List Value) : Prop where
  o : W.ownsRow w0.heap.size 309 257 (.slice (some ⟨g, 0, none⟩) 1 1) 1 L
  t : W.ownsRow w0.heap.size 9 1 v ts.length ts
  d : v.ownBlock ≠ some g
  b : Below w0.heap.size w0 W
/-- A row of bytes that stands beside. -/
structure ByB (m : Nat) (W : World) (g : Nat) (v : Value) (A : Option Addr) (c : Nat) (s : ByteArray) : Prop where
  s : SlA W 1 A s.size c (byC s)
  a : ∃ h, A = some ⟨h, 0, none⟩ ∧ h < W.heap.size ∧ h ≠ g ∧ v.ownBlock ≠ some h ∧ m ≤ h
section
variable {w0 W W' : World} {g : Nat} {L : List Value} {v v' : Value} {ts ts' : List Value} {A : Option Addr} {c : Nat} {s : ByteArray} {r : Option Nat}
theorem BdW.lt (h : BdW w0 W g L v ts) : w0.heap.size ≤ g ∧ g < W.heap.size := h.o.lt g rfl
theorem BdW.ext (h : BdW w0 W g L v ts) (hg : W.grownBy W' none) : BdW w0 W' g L v ts :=
  ⟨own_block h.o fun b hb => hg.block b (h.o.lt b hb).2 (by simp), own_block h.t fun b hb => hg.block b (h.t.lt b hb).2 (by simp), h.d, h.b.grown hg h.b.size (fun k hk => by cases hk)⟩
theorem BdW.app (h : BdW w0 W g L v ts) (hg : W.grownBy W' v.ownBlock) (ht : W'.ownsRow w0.heap.size 9 1 v' ts'.length ts') (hl : v'.ownBlock = v.ownBlock ∨ v'.ownBlock = some W.heap.size) : BdW w0 W' g L v' ts' :=
  ⟨own_block h.o fun b hb => hg.block b (h.o.lt b hb).2 (fun e => by simp [Value.ownBlock] at hb; subst hb; exact h.d e.symm), ht, fun e => by
    rcases hl with hl | hl
    · exact h.d (hl ▸ e)
    · rw [hl] at e; injection e with e; have := h.lt; omega, h.b.grown hg h.b.size (fun k hk => (h.t.lt k hk).1)⟩
theorem BdW.st (h : BdW w0 W g L v ts) (j : Nat) (u : Value) : BdW w0 (W.setCell ⟨g, j, none⟩ u) g (L.set j u) v ts :=
  ⟨(h.o.stored j u).1, own_block h.t fun b hb => (h.o.stored j u).2.block b (h.t.lt b hb).2 (fun e => h.d (by rw [hb, e])), h.d, h.b.grown (h.o.stored j u).2 h.b.size (fun k hk => by injection hk with hk; subst hk; exact h.lt.1)⟩
theorem BdW.cell (h : BdW w0 W g L v ts) {j : Nat} {u : Value} (hj : L[j]? = some u) : W.cell? ⟨g, j, none⟩ = some u := by
  obtain ⟨b, off, e, hc⟩ := ((SlA.of_own h.o).2).cells j u hj
  injection e with e
  injection e with e1 e2
  subst e1; subst e2
  rwa [Nat.zero_add] at hc
theorem ByB.mv {m : Nat} (h : ByB m W g v A c s) (hg : W.grownBy W' r) (hr : r = some g ∨ r = v.ownBlock ∨ r = none) (hv : v'.ownBlock = v.ownBlock ∨ v'.ownBlock = some W.heap.size) : ByB m W' g v' A c s := by
  obtain ⟨b, rfl, hb, hbg, hbv, hbm⟩ := h.a
  have hh : W'.heap[b]? = W.heap[b]? := hg.block b hb (fun e => by
    rcases hr with rfl | rfl | rfl
    · injection e with e; exact hbg e
    · exact hbv e.symm
    · cases e)
  refine ⟨⟨h.s.nc, h.s.cm, h.s.len, fun j u hj => ?_⟩, b, rfl, Nat.lt_of_lt_of_le hb hg.size, hbg, fun e => ?_, hbm⟩
  · obtain ⟨b', off, e, hc⟩ := h.s.cells j u hj
    injection e with e
    injection e with e1 e2
    subst e1; subst e2
    refine ⟨b, 0, rfl, ?_⟩
    unfold World.cell? at hc ⊢
    rw [hh]; exact hc
  · rcases hv with hv | hv
    · exact hbv (hv ▸ e)
    · rw [hv] at e; injection e with e; omega
theorem ByB.new (h : BdW w0 W g L v ts) {c : Nat} (hs : SlA W' 1 (some ⟨W.heap.size, 0, none⟩) s.size c (byC s)) (hsz : W'.heap.size = W.heap.size + 1) : ByB w0.heap.size W' g v (some ⟨W.heap.size, 0, none⟩) c s :=
  ⟨hs, W.heap.size, rfl, by omega, fun e => by have := h.lt; omega, fun e => by have := (h.t.lt _ e).2; omega, h.b.size⟩
end
/-- So many rounds are done. -/
def BdK (w0 W : World) (g k : Nat) : Prop := ∃ L v, BdW w0 W g L v ([.string ⟨#[92]⟩, .string ⟨#[34]⟩].take k) ∧ L[256]? = some v ∧ (∀ i, i < 256 → (i = 34 → k < 2) → (i = 92 → k < 1) → L[i]? = some (.slice none 0 0)) ∧
  (1 ≤ k → ∃ A c, L[92]? = some (.slice A 2 c) ∧ ByB w0.heap.size W g v A c ⟨#[92, 92]⟩) ∧ (2 ≤ k → ∃ A c, L[34]? = some (.slice A 2 c) ∧ ByB w0.heap.size W g v A c ⟨#[92, 34]⟩)
/-- A byteStringReplacer that puts a stroke ahead of quotes and strokes. -/
structure Bsr (m : Nat) (w : World) (g : Nat) : Prop where
  q : ∃ h c, w.cell? ⟨g, 34, none⟩ = some (.slice (some ⟨h, 0, none⟩) 2 c) ∧ m ≤ h ∧ SlA w 1 (some ⟨h, 0, none⟩) 2 c (byC ⟨#[92, 34]⟩)
  e : ∃ h c, w.cell? ⟨g, 92, none⟩ = some (.slice (some ⟨h, 0, none⟩) 2 c) ∧ m ≤ h ∧ SlA w 1 (some ⟨h, 0, none⟩) 2 c (byC ⟨#[92, 92]⟩)
  o : ∀ i, i < 256 → i ≠ 34 → i ≠ 92 → w.cell? ⟨g, i, none⟩ = some (.slice none 0 0)
  t : ∃ h c, w.cell? ⟨g, 256, none⟩ = some (.slice (some ⟨h, 0, none⟩) 2 c) ∧ m ≤ h ∧ SlA w 1 (some ⟨h, 0, none⟩) 2 c [.string ⟨#[92]⟩, .string ⟨#[34]⟩]
  g : m ≤ g
theorem cell_heap {w w' : World} {b o : Nat} (h : w'.heap[b]? = w.heap[b]?) : w'.cell? ⟨b, o, none⟩ = w.cell? ⟨b, o, none⟩ := by
  unfold World.cell?; rw [h]
theorem sla_heap {w w' : World} {b n c : Nat} {l : List Value} (h : w'.heap[b]? = w.heap[b]?) (hs : SlA w 1 (some ⟨b, 0, none⟩) n c l) : SlA w' 1 (some ⟨b, 0, none⟩) n c l :=
  ⟨hs.nc, hs.cm, hs.len, fun j u hj => by
    obtain ⟨b', off, e, hc⟩ := hs.cells j u hj
    injection e with e
    injection e with e1 e2
    subst e1; subst e2
    exact ⟨b, 0, rfl, (cell_heap h).trans hc⟩⟩
/-- It hangs on blocks from m on. -/
theorem Bsr.mv {m : Nat} {w w' : World} {g : Nat} (h : Bsr m w g) (k : ∀ b, m ≤ b → w'.heap[b]? = w.heap[b]?) : Bsr m w' g := by
  have hg := k g h.g
  obtain ⟨a1, c1, x1, y1, z1⟩ := h.q
  obtain ⟨a2, c2, x2, y2, z2⟩ := h.e
  obtain ⟨a3, c3, x3, y3, z3⟩ := h.t
  exact ⟨⟨a1, c1, (cell_heap hg).trans x1, y1, sla_heap (k _ y1) z1⟩, ⟨a2, c2, (cell_heap hg).trans x2, y2, sla_heap (k _ y2) z2⟩, fun i h1 h2 h3 => (cell_heap hg).trans (h.o i h1 h2 h3), ⟨a3, c3, (cell_heap hg).trans x3, y3, sla_heap (k _ y3) z3⟩, h.g⟩
set_option maxHeartbeats 8000000 in
set_option maxRecDepth 1000000 in
theorem build_any (b : Nat) (A : Option Addr) (c : Nat) (w : World) (hc : w.cell? ⟨b, 4, none⟩ = some (.slice A 4 c)) (hs : SlA w 1 A 4 c rs4) :
    Calls Tryz.prog 282 #[.pointer (some ⟨b, 0, none⟩)] w fun e w' => ∃ g, e = .returned (.iface 310 (.pointer (some ⟨g, 0, none⟩))) ∧ Bsr w.heap.size w' g ∧ Below w.heap.size w w' := by
  obtain ⟨i0, hi, hz0, hz1, hz2⟩ := info_parts infoS
  have H := hid hs
  obtain ⟨b1, off, rfl, c0'⟩ := hs.cells 0 _ rfl
  have cj : ∀ (j : Nat) u, rs4[j]? = some u → w.cell? ⟨b1, off + j, none⟩ = some u := fun j u hj => by
    obtain ⟨b2, o2, e, h⟩ := hs.cells j u hj
    injection e with e
    injection e with e1 e2
    subst e1; subst e2
    exact h
  have CJ := hid cj
  have q0 := cj 0 _ rfl; rw [Nat.add_zero] at q0; have q1 := cj 1 _ rfl; have q2 := cj 2 _ rfl; have q3 := cj 3 _ rfl
  clear hs c0' cj
  have hzv := (zero_of_info info_bsr).1
  have hbd := build_bsr
  have hnl := eql_nil
  have hby : ∀ (x : UInt8) (h : 0 < (⟨#[x]⟩ : ByteArray).size), (⟨#[x]⟩ : ByteArray)[0]'h = x := fun _ _ => rfl
  go_enter Tryz.func282, Tryz.ntmps282
  go_wp2_with fail
  go_loopw [5, 4] (fun v av wr => wr = w ∧ ((v = .int .i64 0 ∧ av = .bool true) ∨ (v = .int .i64 2 ∧ av = .bool false) ∨ (v = .int .i64 4 ∧ av = .bool false))) (fun v _ _ => 4 - (intOf v).toNat)
  case atStart => exact ⟨rfl, .inl ⟨rfl, rfl⟩⟩
  case round =>
    obtain ⟨hw, ⟨hv, ha⟩ | ⟨hv, ha⟩ | ⟨hv, ha⟩⟩ := hrel
    all_goals
      have hw' := hw.symm
      clear hw
      subst hw'; subst hv; subst ha
    · go_wp2_with fail
      go_roundw
      case rel => exact ⟨by first | rfl | trivial, .inr (.inl ⟨by go_num, by first | rfl | trivial⟩)⟩
      case measure => simp [intOf]
    · go_wp2_with fail
      go_roundw
      case rel => exact ⟨by first | rfl | trivial, .inr (.inr ⟨by go_num, by first | rfl | trivial⟩)⟩
      case measure => simp [intOf]
    · go_upto_region 26 with fail
      go_wp2_with (first
        | (at_make; refine wpList_make_own _ rfl _ _ 266 rfl w.heap.size 9 i0 (.string ⟨#[]⟩) 1 Tryz.underlying266 hi hz0 hz1 .i64 .i64 2 2 rfl rfl rfl (by omega) (by decide) (Nat.le_refl _) ?_; intro w1 o1 g1)
        | fail)
      have hst := run_store_bsr w1 (some ⟨w.heap.size, 0, none⟩) 0 2
      simp only [hst, Result.andThen]
      rw [Oper.upon_skip]
      have HG := hid g1
      have HK0 := hid (show BdK w (w1.alloc (.cells (bsrZ (.slice (some ⟨w.heap.size, 0, none⟩) 0 2)) 309)) w1.heap.size 0 from
        ⟨(bsrZ (.slice (some ⟨w.heap.size, 0, none⟩) 0 2)).toList, .slice (some ⟨w.heap.size, 0, none⟩) 0 2, ⟨⟨by rw [Array.length_toList, bsrZ_size], .inr ⟨w1.heap.size, 1, _, rfl, g1.size, heap_alloc_new w1 _, Nat.le_refl _, by decide, by rw [bsrZ_size], List.take_of_length_le (by rw [Array.length_toList, bsrZ_size]; decide)⟩⟩, o1.alloc _, fun e => by
          have h2 := (o1.lt _ rfl).2
          simp only [Value.ownBlock, Option.some.injEq] at e
          have h3 : (⟨w.heap.size, 0, none⟩ : Addr).block = w.heap.size := rfl
          omega, (below_grown g1).alloc g1.size _⟩, bsrZ_end _, fun i h1 _ _ => bsrZ_at _ i h1, fun h => absurd h (by decide), fun h => absurd h (by decide)⟩)
      clear o1 g1 hst
      generalize w1.heap.size = g at *
      go_wp2_with fail
      go_loopw [12] (fun v wr => (v = .int .i64 2 ∧ BdK w wr g 0) ∨ (v = .int .i64 0 ∧ BdK w wr g 1) ∨ (v = .int .i64 (-2) ∧ BdK w wr g 2)) (fun v _ => (intOf v + 2).toNat)
      case atStart => exact .inl ⟨rfl, HK0.out⟩
      case round =>
        clear HK0 HG
        obtain ⟨hv, hbk⟩ | ⟨hv, hbk⟩ | ⟨hv, hbk⟩ := hrel
        all_goals subst hv
        · obtain ⟨L, v, hB, hL, hZ, hE, -⟩ := hbk
          have HB := hid hB; have HLE := hid hL; have HZ := hid hZ; have HE := hid hE
          have hLn : 256 < L.length := (List.getElem?_eq_some_iff.1 hL).1
          have CO := hid (fun (j : Nat) u (hj : rs4[j]? = some u) => (HB.out.b.cell (p := ⟨b1, off + j, none⟩) (block_lt_of_cell (CJ.out j u hj))).trans (CJ.out j u hj))
          have p0 := CO.out 0 _ rfl
          rw [Nat.add_zero] at p0
          have p1 := CO.out 1 _ rfl; have p2 := CO.out 2 _ rfl; have p3 := CO.out 3 _ rfl
          obtain ⟨At, ct, rfl, -⟩ := SlA.owned hB.t
          have k256 := HB.out.cell hL
          have kO := HB.out.cell (hZ 92 (by omega) (by omega) (by omega))
          have hcv : (convert 195 9 (.slice (some ⟨wr.heap.size, 0, none⟩) 1 1)).run Tryz.prog (wr.alloc (.cells #[.int .u8 92] 5)) = .ok (.string ⟨#[92]⟩) (wr.alloc (.cells #[.int .u8 92] 5)) :=
            run_str_sl _ 195 9 5 Tryz.underlying195 Tryz.underlying5 Tryz.underlying9 _ 1 1 [92] (SlA.lit1 _)
          clear hB hL hZ hE
          go_wp2_with (first
            | (at_builtin; refine wpList_append_sl _ rfl _ _ 266 rfl w.heap.size 9 i0 (.string ⟨#[]⟩) 1 16 Tryz.underlying266 hi hz0 hz1 hz2 rfl (by decide) _ 0 _ rfl ((HB.out.t.alloc _).alloc _) _ 1 1 [.string ⟨#[92]⟩] rfl (by have := SlA.lit1 (w := wr.alloc (.cells #[.int .u8 92] 5)) (T := 9) (.string ⟨#[92]⟩); simpa using this) (by intro u hu; rw [List.mem_singleton] at hu; subst hu; rfl) (by decide) (by decide) (by have := HB.out.b.size; simp; omega) ?_
               intro v4 w4 own4 gr4 loc4
               have H4 := hid (BdW.app (ts' := [.string ⟨#[92]⟩, .string ⟨#[34]⟩].take (0 + 1)) ((HB.out.ext (World.grownBy_alloc _ _ _)).ext (World.grownBy_alloc _ _ _)) gr4 own4 loc4)
               have GR4 := hid gr4; have LC4 := hid loc4
               obtain ⟨A4, c4, rfl, -⟩ := SlA.owned own4
               have m256 := H4.out.cell HLE.out
               have z256 := H4.out.o.frozenAt 256
               clear own4 gr4 loc4)
            | (refine wpList_str_bytes rfl _ 9 195 5 rfl Tryz.underlying9 Tryz.underlying195 Tryz.underlying5 ⟨#[92, 92]⟩ rfl (by decide) ?_
               intro c6 w6 gr6 sz6 sl6
               have GR6 := hid gr6
               have H6 := hid ((H4.out.st 256 _).ext gr6)
               have B6 := hid (ByB.new (H4.out.st 256 _) sl6 sz6)
               have m6 := H6.out.cell (j := 92) (by rw [List.getElem?_set_ne (by decide)]; exact HZ.out 92 (by omega) (by omega) (by omega))
               have z6 := H6.out.o.frozenAt 92
               clear gr6 sz6 sl6)
            | fail)
          have HKN := hid (show BdK w _ g (0 + 1) from ⟨_, _, H6.out.st 92 (.slice (some ⟨_, 0, none⟩) 2 c6), by rw [List.getElem?_set_ne (by decide), List.getElem?_set_self (by omega)], fun i h1 h2 h3 => by
            rw [List.getElem?_set_ne (by omega), List.getElem?_set_ne (by omega)]
            exact HZ.out i h1 (by omega) (by omega), fun _ => ⟨_, c6, by rw [List.getElem?_set_self (by simp; omega)], B6.out.mv (H6.out.o.stored 92 _).2 (.inl rfl) (.inl rfl)⟩, fun h => absurd h (by decide)⟩)
          go_roundw
          case rel => exact .inr (.inl ⟨by go_num, by simpa using HKN.out⟩)
          case measure => simp [intOf]
        · obtain ⟨L, v, hB, hL, hZ, hE, -⟩ := hbk
          have HB := hid hB; have HLE := hid hL; have HZ := hid hZ; have HE := hid hE
          have hLn : 256 < L.length := (List.getElem?_eq_some_iff.1 hL).1
          have CO := hid (fun (j : Nat) u (hj : rs4[j]? = some u) => (HB.out.b.cell (p := ⟨b1, off + j, none⟩) (block_lt_of_cell (CJ.out j u hj))).trans (CJ.out j u hj))
          have p0 := CO.out 0 _ rfl
          rw [Nat.add_zero] at p0
          have p1 := CO.out 1 _ rfl; have p2 := CO.out 2 _ rfl; have p3 := CO.out 3 _ rfl
          obtain ⟨At, ct, rfl, -⟩ := SlA.owned hB.t
          have k256 := HB.out.cell hL
          have kO := HB.out.cell (hZ 34 (by omega) (by omega) (by omega))
          have hcv : (convert 195 9 (.slice (some ⟨wr.heap.size, 0, none⟩) 1 1)).run Tryz.prog (wr.alloc (.cells #[.int .u8 34] 5)) = .ok (.string ⟨#[34]⟩) (wr.alloc (.cells #[.int .u8 34] 5)) :=
            run_str_sl _ 195 9 5 Tryz.underlying195 Tryz.underlying5 Tryz.underlying9 _ 1 1 [34] (SlA.lit1 _)
          clear hB hL hZ hE
          go_wp2_with (first
            | (at_builtin; refine wpList_append_sl _ rfl _ _ 266 rfl w.heap.size 9 i0 (.string ⟨#[]⟩) 1 16 Tryz.underlying266 hi hz0 hz1 hz2 rfl (by decide) _ 1 _ rfl ((HB.out.t.alloc _).alloc _) _ 1 1 [.string ⟨#[34]⟩] rfl (by have := SlA.lit1 (w := wr.alloc (.cells #[.int .u8 34] 5)) (T := 9) (.string ⟨#[34]⟩); simpa using this) (by intro u hu; rw [List.mem_singleton] at hu; subst hu; rfl) (by decide) (by decide) (by have := HB.out.b.size; simp; omega) ?_
               intro v4 w4 own4 gr4 loc4
               have H4 := hid (BdW.app (ts' := [.string ⟨#[92]⟩, .string ⟨#[34]⟩].take (1 + 1)) ((HB.out.ext (World.grownBy_alloc _ _ _)).ext (World.grownBy_alloc _ _ _)) gr4 own4 loc4)
               have GR4 := hid gr4; have LC4 := hid loc4
               obtain ⟨A4, c4, rfl, -⟩ := SlA.owned own4
               have m256 := H4.out.cell HLE.out
               have z256 := H4.out.o.frozenAt 256
               clear own4 gr4 loc4)
            | (refine wpList_str_bytes rfl _ 9 195 5 rfl Tryz.underlying9 Tryz.underlying195 Tryz.underlying5 ⟨#[92, 34]⟩ rfl (by decide) ?_
               intro c6 w6 gr6 sz6 sl6
               have GR6 := hid gr6
               have H6 := hid ((H4.out.st 256 _).ext gr6)
               have B6 := hid (ByB.new (H4.out.st 256 _) sl6 sz6)
               have m6 := H6.out.cell (j := 34) (by rw [List.getElem?_set_ne (by decide)]; exact HZ.out 34 (by omega) (by omega) (by omega))
               have z6 := H6.out.o.frozenAt 34
               clear gr6 sz6 sl6)
            | fail)
          have HKN := hid (show BdK w _ g (1 + 1) from by
            obtain ⟨A9, c9, hL9, hB9⟩ := HE.out (by omega)
            exact ⟨_, _, H6.out.st 34 (.slice (some ⟨_, 0, none⟩) 2 c6), by rw [List.getElem?_set_ne (by decide), List.getElem?_set_self (by omega)], fun i h1 h2 h3 => by
            rw [List.getElem?_set_ne (by omega), List.getElem?_set_ne (by omega)]
            exact HZ.out i h1 (by omega) (by omega), fun _ => ⟨A9, c9, by rw [List.getElem?_set_ne (by decide), List.getElem?_set_ne (by decide)]; exact hL9, (((((hB9.mv (World.grownBy_alloc _ _ none) (.inr (.inr rfl)) (.inl rfl)).mv (World.grownBy_alloc _ _ none) (.inr (.inr rfl)) (.inl rfl)).mv GR4.out (.inr (.inl rfl)) LC4.out).mv (H4.out.o.stored 256 _).2 (.inl rfl) (.inl rfl)).mv GR6.out (.inr (.inr rfl)) (.inl rfl)).mv (H6.out.o.stored 34 _).2 (.inl rfl) (.inl rfl)⟩, fun _ => ⟨_, c6, by rw [List.getElem?_set_self (by simp; omega)], B6.out.mv (H6.out.o.stored 34 _).2 (.inl rfl) (.inl rfl)⟩⟩)
          go_roundw
          case rel => exact .inr (.inr ⟨by go_num, by simpa using HKN.out⟩)
          case measure => simp [intOf]
        · obtain ⟨L, v, hB, hL, hZ, hE, hQ⟩ := hbk
          have HB := hid hB
          obtain ⟨A1, c1, hA1, hB1⟩ := hE (by omega)
          obtain ⟨A2, c2, hA2, hB2⟩ := hQ (by omega)
          have HBS := hid (show Bsr w.heap.size wr g from by
            obtain ⟨x1, rfl, -, -, -, y1⟩ := hB1.a
            obtain ⟨x2, rfl, -, -, -, y2⟩ := hB2.a
            obtain ⟨At, ct, rfl, hst⟩ := SlA.owned hB.t
            obtain ⟨x3, off3, rfl, -⟩ := hst.cells 0 _ rfl
            have hb3 := hB.t.lt x3 rfl
            obtain rfl : off3 = 0 := by
              rcases hB.t.2 with ⟨e, _⟩ | ⟨_, _, _, e, _⟩
              · injection e with e; cases e
              · injection e with e; injection e with e; injection e
            exact ⟨⟨x2, c2, hB.cell hA2, y2, hB2.s⟩, ⟨x1, c1, hB.cell hA1, y1, hB1.s⟩, fun i h1 h2 h3 => hB.cell (hZ i h1 (by omega) (by omega)), ⟨x3, ct, hB.cell hL, hb3.1, hst⟩, hB.lt.1⟩)
          clear hB hL hZ hE hQ hA1 hA2 hB1 hB2
          go_wp2_with fail
          go_ret
          exact ⟨g, rfl, HBS.out, HB.out.b⟩
end Go.Proofs.YtekfjcaihocmmaaGreatDoor

/- sync.Once of a Replacer that is not built yet, in one goroutine (after the kit's texts Lazy*). (*sync.Once).Do of a Replacer that is not built yet. -/
namespace Go.Proofs.YtekfjcaihocmmaaGreatDoor
open Go.RowKit Go.KK Go.Shelf Go.Maps
set_option linter.unusedVariables false
set_option linter.unusedSimpArgs false

theorem disable (w : World) : (callFunc 297 #[]).run Tryz.prog w = .ok (.value (.tuple #[])) w := run_call_mark0 Tryz.func297 (by kernel_rfl) (by kernel_rfl) (by kernel_rfl) .disable (by kernel_rfl) w
theorem enable (w : World) : (callFunc 299 #[]).run Tryz.prog w = .ok (.value (.tuple #[])) w := run_call_mark0 Tryz.func299 (by kernel_rfl) (by kernel_rfl) (by kernel_rfl) .enable (by kernel_rfl) w
theorem acquire (a : Addr) (w : World) : (callFunc 300 #[.pointer (some a)]).run Tryz.prog w = .ok (.value (.tuple #[])) w := run_call_marked Tryz.func300 (by kernel_rfl) (by kernel_rfl) (by kernel_rfl) .acquire (by kernel_rfl) a w
theorem releaseMerge (a : Addr) (w : World) : (callFunc 302 #[.pointer (some a)]).run Tryz.prog w = .ok (.value (.tuple #[])) w := run_call_marked Tryz.func302 (by kernel_rfl) (by kernel_rfl) (by kernel_rfl) .releaseMerge (by kernel_rfl) a w
/-- '(*sync/atomic.Bool).Store(true)', entered as a deferred call. -/
theorem store_deferred (a : Addr) (x : Value) (u : FrameMode) (w : World) (hc : w.cell? a = some x) (hz : w.frozen? a = false) :
    CallsD Tryz.prog 288 #[.pointer (some a), .bool true] u w fun e u' w' => u' = u ∧ (e = .returned (.tuple #[]) ∧ w' = w.drew.setCell a (.int .u32 1)) := by
  have hc' : w.drew.cell? a = some x := by go_simp
  have hz' : w.drew.frozen? a = false := by go_simp
  have hst := run_call_store (P := Tryz.prog) Tryz.func293 (by kernel_rfl) (by kernel_rfl) (by kernel_rfl) (by kernel_rfl) (k := .u32) (y := 1) hc' hz'
  go_enter_d Tryz.func288, Tryz.ntmps288
  go_wp2
  go_region_calls
  all_goals (go_end0; exact ⟨rfl, rfl⟩)
set_option maxRecDepth 100000 in
/-- '(*sync.Mutex).Unlock', entered as a deferred call, the lock held and nobody waiting. -/
theorem unlock_deferred (a : Addr) (u : FrameMode) (w : World) (hc : w.cell? a = some (.int .i32 1)) (hz : w.frozen? a = false) :
    CallsD Tryz.prog 287 #[.pointer (some a)] u w fun e u' w' => u' = u ∧ (e = .returned (.tuple #[]) ∧ w' = w.setCell a (.int .i32 0)) := by
  have hd := disable
  have he := enable
  have hr := releaseMerge
  have hadd := run_call_add (P := Tryz.prog) Tryz.func303 (by kernel_rfl) (by kernel_rfl) (by kernel_rfl) .i32 (by kernel_rfl) (y := -1) (s := 0) hc hz (by simp [go_sem]; rfl)
  have hcv := run_convert_to_unsafe (P := Tryz.prog) (src := 327) (dst := 291) Tryz.underlying327 Tryz.underlying291 (by kernel_rfl) hc
  go_enter_d Tryz.func287, Tryz.ntmps287
  go_wp2
  go_end0
  go_wp2
  go_end0
  exact ⟨rfl, rfl⟩
set_option maxRecDepth 100000 in
/-- '(*sync.Mutex).Lock', the lock free. -/
theorem lock_free (a : Addr) (w : World) (hc : w.cell? a = some (.int .i32 0)) (hz : w.frozen? a = false) :
    Calls Tryz.prog 286 #[.pointer (some a)] w fun e w' => e = .returned (.tuple #[]) ∧ w' = w.setCell a (.int .i32 1) := by
  have hd := disable
  have he := enable
  have ha := acquire
  have hcas := run_call_cas_hit (P := Tryz.prog) Tryz.func298 (by kernel_rfl) (by kernel_rfl) (by kernel_rfl) .i32 (by kernel_rfl) (y := 1) hc hz
  have hc' : (w.setCell a (.int .i32 1)).cell? a = some (.int .i32 1) := World.cell?_setCell_same w a _ hc
  have hcv := run_convert_to_unsafe (P := Tryz.prog) (src := 327) (dst := 291) Tryz.underlying327 Tryz.underlying291 (by kernel_rfl) hc'
  go_enter Tryz.func286, Tryz.ntmps286
  go_wp2
  first | go_end0 | (simp only [Exit.inBlock, Exit.then]; refine bodyPost_ret (results_none rfl _ _ _) rfl ?_) | refine bodyPost_ret (results_none rfl _ _ _) rfl ?_
  go_wp2
  go_end0
  exact ⟨rfl, rfl⟩
/-- A Replacer in memory: its five cells. -/
abbrev RpO (base : Nat) (W : World) (b : Nat) (x0 x1 x2 x3 x4 : Value) : Prop := W.ownsRow base 282 5 (.slice (some ⟨b, 0, none⟩) 1 1) 1 [x0, x1, x2, x3, x4]
theorem own_at {W : World} {base T b : Nat} {l : List Value} (h : W.ownsRow base T 5 (.slice (some ⟨b, 0, none⟩) 1 1) 1 l) {j : Nat} {u : Value} (hj : l[j]? = some u) : W.cell? ⟨b, j, none⟩ = some u := by
  obtain ⟨b', off, e, hc⟩ := ((SlA.of_own h).2).cells j u hj
  injection e with e
  injection e with e1 e2
  subst e1; subst e2
  rwa [Nat.zero_add] at hc
set_option maxHeartbeats 4000000 in
set_option maxRecDepth 100000 in
theorem buildonce_any (base b : Nat) (x0 x1 x2 v : Value) (w : World) (h : RpO base w b x0 x1 x2 .nilIface v) (hs : w.ownsRow base 9 1 v 4 rs4) (hbase : base ≤ w.heap.size) :
    Calls Tryz.prog 266 #[.pointer (some ⟨b, 0, none⟩)] w fun e w' => e = .returned (.tuple #[]) ∧ ∃ g, RpO base w' b x0 x1 x2 (.iface 310 (.pointer (some ⟨g, 0, none⟩))) (.slice none 0 0) ∧ Bsr w.heap.size w' g ∧ Below base w w' := by
  have HR := hid h
  have hlt := h.lt b rfl
  obtain ⟨A, c, rfl, hsl⟩ := SlA.owned hs
  have hb := build_any b A c w (own_at h (j := 4) rfl) hsl
  clear h hs hsl
  go_enter Tryz.func266, Tryz.ntmps266
  go_wp2_with (go_at_call 282; refine hb.mono ?_; rintro e w1 ⟨g, rfl, h1, b1⟩; have HB := hid h1; have B1 := hid b1; have H1 := hid (show RpO base w1 b x0 x1 x2 .nilIface (.slice A 4 c) from own_block HR.out fun k hk => b1.block k (HR.out.lt k hk).2); have c3 := own_at H1.out (j := 3) rfl; have c4 := own_at (H1.out.stored 3 (.iface 310 (.pointer (some ⟨g, 0, none⟩)))).1 (j := 4) rfl; have z3 := H1.out.frozenAt 3; have z4 := (H1.out.stored 3 (.iface 310 (.pointer (some ⟨g, 0, none⟩)))).1.frozenAt 4; clear h1 b1 hb)
  go_end0
  have s3 := H1.out.stored 3 (.iface 310 (.pointer (some ⟨g, 0, none⟩)))
  have s4 := s3.1.stored 4 (.slice none 0 0)
  refine ⟨rfl, g, s4.1, HB.out.mv fun k hk => ?_, ?_⟩
  · exact (Below.heap_setCell _ ⟨b, 4, none⟩ _ k (by intro e; simp at e; omega)).trans (Below.heap_setCell _ ⟨b, 3, none⟩ _ k (by intro e; simp at e; omega))
  · have B1' : Below base w w1 := B1.out.mono hbase
    have B2 := B1'.grown s3.2 (Nat.le_trans hbase B1'.size) (fun k hk => by injection hk with hk; omega)
    exact B2.grown s4.2 (Nat.le_trans hbase B2.size) (fun k hk => by injection hk with hk; omega)
end Go.Proofs.YtekfjcaihocmmaaGreatDoor
namespace Go.Proofs.YtekfjcaihocmmaaGreatDoor
open Go.RowKit Go.KK Go.Shelf Go.Maps

set_option maxHeartbeats 4000000 in
set_option maxRecDepth 100000 in
theorem slow_any (base b : Nat) (v : Value) (w : World) (h : RpO base w b (.int .u32 0) (.int .i32 0) (.int .u32 0) .nilIface v) (hs : w.ownsRow base 9 1 v 4 rs4) (hd : v.ownBlock ≠ some b) (hbase : base ≤ w.heap.size) :
    Calls Tryz.prog 281 #[.pointer (some ⟨b, 0, none⟩), .func (.func 266) #[.pointer (some ⟨b, 0, none⟩)] #[]] w fun e w' => e = .returned (.tuple #[]) ∧ ∃ g, RpO base w' b (.int .u32 1) (.int .i32 0) (.int .u32 0) (.iface 310 (.pointer (some ⟨g, 0, none⟩))) (.slice none 0 0) ∧ Bsr w.heap.size w' g ∧ Below base w w' := by
  have HR := hid h
  have hlt := h.lt b rfl
  have c1 := own_at h (j := 1) rfl
  have z1 := h.frozenAt 1
  have S1 := hid (h.stored 1 (.int .i32 1))
  have c0 := own_at S1.out.1 (j := 0) rfl
  have hl := run_call_load (P := Tryz.prog) Tryz.func285 (by kernel_rfl) (by kernel_rfl) (by kernel_rfl) .u32 (by kernel_rfl) (w := w.setCell ⟨b, 1, none⟩ (.int .i32 1)) (a := ⟨b, 0, none⟩) (x := 0) c0
  have hnot : ∀ (x : Bool) (w : World), (Op.unary .not (.bool x)).run Tryz.prog w = .ok (.bool (!x)) w := fun _ _ => rfl
  have hbo := buildonce_any base b _ _ _ v (w.setCell ⟨b, 1, none⟩ (.int .i32 1)) S1.out.1 (own_block hs fun k hk => S1.out.2.block k (hs.lt k hk).2 (fun e => hd (by rw [hk, e]))) (by simpa using hbase)
  have hlf := lock_free ⟨b, 1, none⟩ w c1 z1
  clear h hs c0 c1
  go_enter_defers Tryz.func281, Tryz.ntmps281
  go_wp2_with (first
    | (go_at_call 286; refine hlf.mono ?_; rintro e w' ⟨rfl, rfl⟩)
    | (go_at_call 280; go_in)
    | (go_at_call 266; refine hbo.mono ?_; rintro e w2 ⟨rfl, g, h2, hb2, bl2⟩; have H2 := hid h2; have HB2 := hid hb2; have BL2 := hid bl2; clear h2 hb2 bl2))
  have H3 := hid ((show RpO base w2.drew b _ _ _ _ _ from own_block H2.out fun _ _ => rfl).stored 0 (.int .u32 1))
  have H4 := hid (H3.out.1.stored 1 (.int .i32 0))
  refine leaves_cons (f := 288) (args := #[.pointer (some ⟨b, 0, none⟩), .bool true]) (by simp) (by simp [go_sem]) ?_
  refine (store_deferred ⟨b, 0, none⟩ (.int .u32 0) .returning w2 (own_at H2.out (j := 0) rfl) (H2.out.frozenAt 0)).mono ?_
  rintro e u' w'' ⟨rfl, rfl, rfl⟩
  refine leaves_cons (f := 287) (args := #[.pointer (some ⟨b, 1, none⟩)]) (by simp [settle]) (by simp [go_sem]) ?_
  refine (unlock_deferred ⟨b, 1, none⟩ _ _ (own_at H3.out.1 (j := 1) rfl) (H3.out.1.frozenAt 1)).mono ?_
  rintro e u' w'' ⟨rfl, rfl, rfl⟩
  have hfin : ∃ g, RpO base ((w2.drew.setCell ⟨b, 0, none⟩ (.int .u32 1)).setCell ⟨b, 1, none⟩ (.int .i32 0)) b (.int .u32 1) (.int .i32 0) (.int .u32 0) (.iface 310 (.pointer (some ⟨g, 0, none⟩))) (.slice none 0 0) ∧ Bsr w.heap.size ((w2.drew.setCell ⟨b, 0, none⟩ (.int .u32 1)).setCell ⟨b, 1, none⟩ (.int .i32 0)) g ∧ Below base w ((w2.drew.setCell ⟨b, 0, none⟩ (.int .u32 1)).setCell ⟨b, 1, none⟩ (.int .i32 0)) := by
    have hs0 : (w.setCell ⟨b, 1, none⟩ (.int .i32 1)).heap.size = w.heap.size := by simp
    have hsb := BL2.out.size
    rw [hs0] at hsb
    have hB := HB2.out
    rw [hs0] at hB
    refine ⟨g, H4.out.1, hB.mv fun k hk => ?_, ?_⟩
    · exact (Below.heap_setCell _ ⟨b, 1, none⟩ _ k (by intro e; simp at e; omega)).trans (Below.heap_setCell w2.drew ⟨b, 0, none⟩ _ k (by intro e; simp at e; omega))
    · have B1 : Below base w (w.setCell ⟨b, 1, none⟩ (.int .i32 1)) := (Below.refl base w).grown S1.out.2 hbase (fun k hk => by injection hk with hk; omega)
      have B2 : Below base w w2.drew := (B1.trans BL2.out).drew
      have B3 := B2.grown H3.out.2 (Nat.le_trans hbase hsb) (fun k hk => by injection hk with hk; omega)
      exact B3.grown H4.out.2 (by have : (w2.drew.setCell ⟨b, 0, none⟩ (.int .u32 1)).heap.size = w2.heap.size := by simp
                                  omega) (fun k hk => by injection hk with hk; omega)
  simp [Leaves, settle, results, Tryz.results281]
  exact hfin
set_option maxHeartbeats 4000000 in
set_option maxRecDepth 100000 in
theorem do_first (base b : Nat) (v : Value) (w : World) (h : RpO base w b (.int .u32 0) (.int .i32 0) (.int .u32 0) .nilIface v) (hs : w.ownsRow base 9 1 v 4 rs4) (hd : v.ownBlock ≠ some b) (hbase : base ≤ w.heap.size) :
    Calls Tryz.prog 265 #[.pointer (some ⟨b, 0, none⟩), .func (.func 266) #[.pointer (some ⟨b, 0, none⟩)] #[]] w fun e w' => e = .returned (.tuple #[]) ∧ ∃ g, RpO base w' b (.int .u32 1) (.int .i32 0) (.int .u32 0) (.iface 310 (.pointer (some ⟨g, 0, none⟩))) (.slice none 0 0) ∧ Bsr w.heap.size w' g ∧ Below base w w' := by
  have hl := run_call_load (P := Tryz.prog) Tryz.func285 (by kernel_rfl) (by kernel_rfl) (by kernel_rfl) .u32 (by kernel_rfl) (own_at h (j := 0) rfl)
  have hnot : ∀ (x : Bool) (w : World), (Op.unary .not (.bool x)).run Tryz.prog w = .ok (.bool (!x)) w := fun _ _ => rfl
  have HS := hid (slow_any base b v w h hs hd hbase)
  clear h hs
  go_enter Tryz.func265, Tryz.ntmps265
  go_wp2_with (first | (go_at_call 281; refine HS.out.mono ?_; rintro e w' ⟨rfl, g, h2, hb2, bl2⟩; have H2 := hid h2; have HB2 := hid hb2; have BL2 := hid bl2; clear h2 hb2 bl2) | (go_at_call 280; go_in))
  go_end0
  exact ⟨rfl, g, H2.out, HB2.out, BL2.out⟩
end Go.Proofs.YtekfjcaihocmmaaGreatDoor

