import Derived.Test.YtfmkniakfgpgjaaGreatDoorY09
import Derived.Deep.QuietTactic
import Derived.BigQuiet
import Derived.Laws.StructEq
import Derived.WalkKit
import Derived.Laws.Cover3
/- nodes: which node is bad; begin; what a longer walk carries. -/
namespace Go.Proofs.YtfmkniakfgpgjaaGreatDoor
open Go.RowKit Go.KK Go.Shelf Go.Maps
set_option linter.unusedVariables false
set_option linter.unusedSimpArgs false

section
variable {W : World} {sa b : Nat} {X : List ND}
set_option maxHeartbeats 2000000 in
theorem lbad_any (h : ArV W 122 sa X) (hb : W.cell? ⟨b, 0, none⟩ = some (.pointer (some ⟨sa, 0, none⟩))) {n : TN} {A : Option Addr} {c : Nat} (hs : SlA W 1 A n.u.length c (n.u.map (.int .i64))) (hn : n.u.length ≤ 1000) :
    Calls Tryz.prog 37 #[tnV n (.slice A n.u.length c), .pointer (some ⟨b, 0, none⟩)] W fun e w' => e = .returned (.bool (badN X n)) ∧ Below W.heap.size W w' := by
  have B1 := hid ((Below.refl W.heap.size W).alloc (Nat.le_refl _) (.cells #[.int .i64 n.k, .int .i64 n.i, .int .i64 n.e, .int .i64 n.s, .int .i64 n.h, .slice A n.u.length c] 46))
  have HPA := hid (parts_n n (.slice A n.u.length c) (W.alloc (.cells #[.int .i64 n.k, .int .i64 n.i, .int .i64 n.e, .int .i64 n.s, .int .i64 n.h, .slice A n.u.length c] 46)))
  have HOUT := hid (fun (U : World) (hU : Below W.heap.size W U) (A2 : Option Addr) (m c2 : Nat) (hm : m ≤ 4) (h2 : SlA U 1 A2 m c2 ((prtF n).map (.int .i64))) =>
    cf_out (fun x => !hasB X x) (q1 := .pointer (some ⟨b, 0, none⟩)) A2 m c2 (prtF n) U h2 (by omega) fun U' hb' x _ => out_any (h.ext (hU.trans (hb'.mono hU.size))) (((hU.trans (hb'.mono hU.size)).cell (p := ⟨b, 0, none⟩) (block_lt_of_cell hb)).trans hb) x)
  have HBIG := hid (fun (U : World) (hU : Below W.heap.size W U) =>
    cf_big (fun x => decide (x < 0) || decide (1000000000 ≤ x)) A n.u.length c n.u U (hs.ext hU) (by omega) fun U' _ x _ => big_any U' x)
  have HCE := hid (fun (U : World) (hU : Below (W.alloc (.cells #[.int .i64 n.k, .int .i64 n.i, .int .i64 n.e, .int .i64 n.s, .int .i64 n.h, .slice A n.u.length c] 46)).heap.size (W.alloc (.cells #[.int .i64 n.k, .int .i64 n.i, .int .i64 n.e, .int .i64 n.s, .int .i64 n.h, .slice A n.u.length c] 46)) U) =>
    (show U.cell? ⟨W.heap.size, 5, none⟩ = some (.slice A n.u.length c) by rw [cell_of_row U W.heap.size 5 _ _ (0, 0) ((hU.block W.heap.size (by simp)).trans (heap_alloc_new W _))]; rfl))
  clear h hb hs
  unfold tnV at *
  unfold badN
  obtain ⟨nk, ni, ne, ns, nh, nu⟩ := n
  dsimp only at *
  by_cases h0 : nk < 0
  · have HF := hid (show decide (nk < 0) = true from decide_eq_true h0)
    rw [HF.out]
    go_enter Tryz.func37, Tryz.ntmps37
    go_wp2_with fail
    go_ret
    exact ⟨rfl, B1.out⟩
  have HF0 := hid (show decide (nk < 0) = false from decide_eq_false h0)
  by_cases h2 : 2 < nk
  · have HF := hid (show decide (2 < nk) = true from decide_eq_true h2)
    rw [HF0.out, HF.out]
    go_enter Tryz.func37, Tryz.ntmps37
    go_wp2_with fail
    go_ret
    exact ⟨rfl, B1.out⟩
  have HF2 := hid (show decide (2 < nk) = false from decide_eq_false h2)
  rcases h3 : (prtF ⟨nk, ni, ne, ns, nh, nu⟩).any (fun x => !hasB X x) with _ | _
  · rw [HF0.out, HF2.out]
    rw [h3] at HOUT
    clear h3
    rcases h4 : nu.any (fun i => decide (i < 0) || decide (1000000000 ≤ i)) with _ | _
    all_goals
      rw [h4] at HBIG
      clear h4
      go_enter Tryz.func37, Tryz.ntmps37
      go_wp2_with fail
      refine HPA.out.mono ?_
      rintro e w2 ⟨A2, m, c2, rfl, hm, hs2, hb2⟩
      have B2 := hid (B1.out.trans (hb2.mono B1.out.size))
      have HO := hid (HOUT.out w2 B2.out A2 m c2 hm hs2)
      have HB2 := hid hb2
      clear hs2 hb2
      go_wp2_with fail
      refine HO.out.mono ?_
      rintro e w3 ⟨rfl, hb3⟩
      have B3 := hid (B2.out.trans (hb3.mono B2.out.size))
      have hce := HCE.out w3 (HB2.out.trans (hb3.mono HB2.out.size))
      have HG := hid (HBIG.out w3 B3.out)
      clear hb3
      go_wp2_with fail
      refine HG.out.mono ?_
      rintro e w4 ⟨rfl, hb4⟩
      have B4 := hid (B3.out.trans (hb4.mono B3.out.size))
      clear hb4
      go_wp2_with fail
      go_ret
      exact ⟨rfl, B4.out⟩
  · rw [HF0.out, HF2.out]
    rw [h3] at HOUT
    clear h3
    go_enter Tryz.func37, Tryz.ntmps37
    go_wp2_with fail
    refine HPA.out.mono ?_
    rintro e w2 ⟨A2, m, c2, rfl, hm, hs2, hb2⟩
    have B2 := hid (B1.out.trans (hb2.mono B1.out.size))
    have HO := hid (HOUT.out w2 B2.out A2 m c2 hm hs2)
    clear hs2 hb2
    go_wp2_with fail
    refine HO.out.mono ?_
    rintro e w3 ⟨rfl, hb3⟩
    have B3 := hid (B2.out.trans (hb3.mono B2.out.size))
    clear hb3
    go_wp2_with fail
    go_ret
    exact ⟨rfl, B3.out⟩
end
section
variable {w0 W V V' : World} {Z Z' Z2 : Nat → Prop} {sa bk b3 : Nat} {S S' S2 : KS} {ex cx : Int} {v v' : Value} {l l' : List Int} {P : World → Prop} {bs : List (Nat × Obj)} {X : List ND}
set_option maxHeartbeats 2000000 in
theorem k_begin (h : LA w0 W Z sa X) (hT : Tb w0.heap.size w0) {ep : List Int} (h11 : ep.length = 11) (h5 : I64 (ep.getD 5 0)) (hx : I64 cx) :
    Calls Tryz.prog 44 #[.pointer (some ⟨sa, 0, none⟩), epV ep, .int .i64 cx] W fun e w' => ∃ Z' bk, e = .returned (.pointer (some ⟨bk, 0, none⟩)) ∧ LK w0 w' Z' sa bk (beF X ep cx) (beI X ep cx) cx ∧ W.heap.size ≤ bk ∧ Mv Z W Z' w' := by
  have HA := hid h; have HT := hid hT; have H11 := hid h11; have H5 := hid h5; have HX := hid hx
  obtain ⟨e0, e1, e2, e3, e4, e5, e6, e7, e8, e9, e10, rfl⟩ := len11 h11
  clear h hT h11 h5 hx
  have B2 := hid (((Below.refl W.heap.size W).alloc (Nat.le_refl _) (.cells #[.int .i64 e0, .int .i64 e1, .int .i64 e2, .int .i64 e3, .int .i64 e4, .int .i64 e5, .int .i64 e6, .int .i64 e7, .int .i64 e8, .int .i64 e9, .int .i64 e10] 29)).alloc (by simp) (.cells #[.pointer (some ⟨sa, 0, none⟩), .int .i64 0, .int .i64 0, .int .i64 cx] 89))
  have HXP := hid (l_xp (HA.out.ext B2.out) HT.out H11.out H5.out HX.out lbNodes)
  have HBK := hid (show ((W.alloc (.cells #[.int .i64 e0, .int .i64 e1, .int .i64 e2, .int .i64 e3, .int .i64 e4, .int .i64 e5, .int .i64 e6, .int .i64 e7, .int .i64 e8, .int .i64 e9, .int .i64 e10] 29)).alloc (.cells #[.pointer (some ⟨sa, 0, none⟩), .int .i64 0, .int .i64 0, .int .i64 cx] 89)).heap[W.heap.size + 1]? = some (.cells #[.pointer (some ⟨sa, 0, none⟩), .int .i64 0, .int .i64 0, .int .i64 cx] 89 (0, 0)) from by
    have := heap_alloc_new (W.alloc (.cells #[.int .i64 e0, .int .i64 e1, .int .i64 e2, .int .i64 e3, .int .i64 e4, .int .i64 e5, .int .i64 e6, .int .i64 e7, .int .i64 e8, .int .i64 e9, .int .i64 e10] 29)) (.cells #[.pointer (some ⟨sa, 0, none⟩), .int .i64 0, .int .i64 0, .int .i64 cx] 89)
    rw [size_al] at this
    exact this)
  have NBK := hid (show ¬ Z (W.heap.size + 1) from fun hz => by have := HA.out.ar.zlt _ hz; omega)
  have HLO := hid HA.out.bl.size
  have HBE := hid (show beF X [e0, e1, e2, e3, e4, e5, e6, e7, e8, e9, e10] cx = ⟨(xpF X [e0, e1, e2, e3, e4, e5, e6, e7, e8, e9, e10] lbNodes cx).1, (xpF X [e0, e1, e2, e3, e4, e5, e6, e7, e8, e9, e10] lbNodes cx).2.2⟩ from rfl)
  rw [HBE.out]
  unfold beI
  unfold epV at HXP ⊢
  unfold lbNodes at HXP ⊢
  generalize xpF X [e0, e1, e2, e3, e4, e5, e6, e7, e8, e9, e10] _ cx = r at *
  clear HBE HA
  go_enter Tryz.func44, Tryz.ntmps44
  go_wp2_with fail
  refine HXP.out.mono ?_
  rintro e w3 ⟨Z3, rfl, l3, m3⟩
  have hlt := (Array.getElem?_eq_some_iff.1 HBK.out).1
  have k3 := (m3.t.block _ hlt NBK.out).trans HBK.out
  have n3 : ¬ Z3 (W.heap.size + 1) := fun hz => (m3.n _ hz).elim NBK.out fun h' => by omega
  have HL3 := hid l3; have HM3 := hid m3; have K3 := hid k3; have N3 := hid n3
  have c1 : w3.cell? ⟨W.heap.size + 1, 1, none⟩ = some (.int .i64 0) := by rw [cell_of_row _ _ 1 _ _ (0, 0) k3]; rfl
  have c2 : w3.cell? ⟨W.heap.size + 1, 2, none⟩ = some (.int .i64 0) := by rw [cell_of_row _ _ 2 _ _ (0, 0) k3]; rfl
  have f1 := frozen_of_row w3 (W.heap.size + 1) 1 _ _ k3
  have f2 := frozen_of_row w3 (W.heap.size + 1) 2 _ _ k3
  clear l3 m3 k3 n3 hlt
  go_wp2_with fail
  go_ret
  refine ⟨Z3, W.heap.size + 1, rfl, ⟨(HL3.out.put1 _ N3.out (by have := HLO.out; omega)).put1 _ N3.out (by have := HLO.out; omega), ?_, N3.out, by have := HLO.out; omega⟩, by omega, ?_⟩
  · rw [heap_setCell_same _ (W.heap.size + 1) 1 _ _ _ (heap_setCell_same _ (W.heap.size + 1) 2 _ _ _ K3.out)]; rfl
  · exact (((Mv.below (Z := Z) B2.out).trans HM3.out).setN _ (by simp)).setN _ (by simp)
/-- A longer walk: boxes of its own, a row of terms, what it reads. -/
structure GM (w0 W V : World) (Z Z' : Nat → Prop) (sa bk : Nat) (bs : List (Nat × Obj)) (v : Value) (l : List Int) (S' : KS) (ex cx : Int) (P : World → Prop) : Prop where
  lk : LK w0 V Z' sa bk S' ex cx
  bx : ∀ p ∈ bs, V.heap[p.1]? = some p.2 ∧ ¬ Zk Z' bk p.1 ∧ W.heap.size ≤ p.1
  un : V.ownsRow W.heap.size 3 1 v l.length (l.map (.int .i64))
  nu : ∀ b, v.ownBlock = some b → ¬ Zk Z' bk b ∧ ∀ p ∈ bs, b ≠ p.1
  fu : ∃ R : Nat → Prop, (∀ b, R b → ¬ Zk Z' bk b ∧ b < W.heap.size) ∧ ∀ V', (∀ b, R b → V'.heap[b]? = V.heap[b]?) → P V'
  m : Mv (Zk Z bk) W (Zk Z' bk) V
  m0 : w0.heap.size ≤ W.heap.size
theorem GM.mv (h : GM w0 W V Z Z' sa bk bs v l S' ex cx P) (k : LK w0 V' Z2 sa bk S2 ex cx) (m : Mv (Zk Z' bk) V (Zk Z2 bk) V') : GM w0 W V' Z Z2 sa bk bs v l S2 ex cx P := by
  have nz : ∀ b, b < V.heap.size → ¬ Zk Z' bk b → ¬ Zk Z2 bk b := fun b hb hz h2 => (m.n b h2).elim hz fun h' => by omega
  obtain ⟨R, r1, r2⟩ := h.fu
  have sz := h.m.t.size
  exact ⟨k, fun p hp => by
      obtain ⟨a1, a2, a3⟩ := h.bx p hp
      have hlt := (Array.getElem?_eq_some_iff.1 a1).1
      exact ⟨(m.t.block p.1 hlt a2).trans a1, nz p.1 hlt a2, a3⟩, own_block h.un fun b hb => m.t.block b (h.un.lt b hb).2 (h.nu b hb).1, fun b hb => ⟨nz b (h.un.lt b hb).2 (h.nu b hb).1, (h.nu b hb).2⟩,
    ⟨R, fun b hr => ⟨nz b (Nat.lt_of_lt_of_le (r1 b hr).2 sz) (r1 b hr).1, (r1 b hr).2⟩, fun V2 hv => r2 V2 fun b hr => (hv b hr).trans (m.t.block b (Nat.lt_of_lt_of_le (r1 b hr).2 sz) (r1 b hr).1)⟩, h.m.trans m, h.m0⟩
theorem GM.ext (h : GM w0 W V Z Z' sa bk bs v l S' ex cx P) (hb : Below V.heap.size V V') : GM w0 W V' Z Z' sa bk bs v l S' ex cx P := h.mv (h.lk.ext hb) (Mv.below hb)
theorem GM.app (h : GM w0 W V Z Z' sa bk bs v l S' ex cx P) (hn : V'.ownsRow W.heap.size 3 1 v' l'.length (l'.map (.int .i64))) (hg : V.grownBy V' v.ownBlock) (hl : v'.ownBlock = v.ownBlock ∨ v'.ownBlock = some V.heap.size) : GM w0 W V' Z Z' sa bk bs v' l' S' ex cx P := by
  have ht : Turn (fun b => v.ownBlock = some b) V V' := Turn.grown hg fun b hb => .inl hb
  have sz := h.m.t.size
  obtain ⟨R, r1, r2⟩ := h.fu
  have new : ∀ b, v'.ownBlock = some b → v.ownBlock = some b ∨ b = V.heap.size := fun b hb => by
    rcases hl with hl | hl
    · exact .inl (hl ▸ hb)
    · rw [hl] at hb; injection hb with hb; exact .inr hb.symm
  refine ⟨⟨h.lk.la.turn ht (fun b hz e => (h.nu b e).1 (.inl hz)) (fun b e => Nat.le_trans (h.m0) (h.un.lt b e).1), (ht.block bk h.lk.lt fun e => (h.nu bk e).1 (.inr rfl)).trans h.lk.k, h.lk.nz, h.lk.lo⟩, fun p hp => ?_, hn, fun b hb => ?_, ⟨R, r1, fun V2 hv => r2 V2 fun b hr => (hv b hr).trans (ht.block b (Nat.lt_of_lt_of_le (r1 b hr).2 sz) fun e => by have := (h.un.lt b e).1; have := (r1 b hr).2; omega)⟩, ⟨h.m.t.trans ht fun b e => .inr (h.un.lt b e).1, h.m.n⟩, h.m0⟩
  · obtain ⟨a1, a2, a3⟩ := h.bx p hp
    exact ⟨(ht.block p.1 (Array.getElem?_eq_some_iff.1 a1).1 fun e => (h.nu _ e).2 p hp rfl).trans a1, a2, a3⟩
  · rcases new b hb with e | e
    · exact h.nu b e
    · subst e
      exact ⟨h.lk.new, fun p hp e => by have := (Array.getElem?_eq_some_iff.1 (h.bx p hp).1).1; omega⟩
/-- A box more. -/
theorem GM.push (h : GM w0 W V Z Z' sa bk bs v l S' ex cx P) (o : Obj) : GM w0 W (V.alloc o) Z Z' sa bk ((V.heap.size, o) :: bs) v l S' ex cx P := by
  have h2 := h.ext ((Below.refl V.heap.size V).alloc (Nat.le_refl _) o)
  refine ⟨h2.lk, fun p hp => ?_, h2.un, fun b hb => ⟨(h2.nu b hb).1, fun p hp => ?_⟩, h2.fu, h2.m, h2.m0⟩
  · rcases List.mem_cons.1 hp with rfl | hp
    · exact ⟨heap_alloc_new V o, h.lk.new, h.m.t.size⟩
    · exact h2.bx p hp
  · rcases List.mem_cons.1 hp with rfl | hp
    · have := (h.un.lt b hb).2; show b ≠ V.heap.size; omega
    · exact (h2.nu b hb).2 p hp
theorem GM.sub (h : GM w0 W V Z Z' sa bk bs v l S' ex cx P) {bs' : List (Nat × Obj)} (hs : ∀ p ∈ bs', p ∈ bs) : GM w0 W V Z Z' sa bk bs' v l S' ex cx P :=
  ⟨h.lk, fun p hp => h.bx p (hs p hp), h.un, fun b hb => ⟨(h.nu b hb).1, fun p hp => (h.nu b hb).2 p (hs p hp)⟩, h.fu, h.m, h.m0⟩
theorem GM.cell (h : GM w0 W V Z Z' sa bk bs v l S' ex cx P) {b : Nat} {cs : Array Value} {T : TypeId} (hp : (b, .cells cs T (0, 0)) ∈ bs) (o : Nat) : V.cell? ⟨b, o, none⟩ = cs[o]? := cell_of_row V b o _ _ (0, 0) (h.bx _ hp).1
end
end Go.Proofs.YtfmkniakfgpgjaaGreatDoor

/- nodes: Lock. -/
namespace Go.Proofs.YtfmkniakfgpgjaaGreatDoor
open Go.RowKit Go.KK Go.Shelf Go.Maps
set_option linter.unusedVariables false
set_option linter.unusedSimpArgs false

/-- A tree that reads, whose lists' heads are these. -/
structure TrQ (V : World) (A : Option Addr) (n c : Nat) (t : List TN) (qs : List Value) : Prop where
  ql : qs.length = t.length
  s : SlA V 6 A n c (ncs t qs)
  i : ∀ (j : Nat) x q, t[j]? = some x → qs[j]? = some q → In1 V q x.u
theorem TrQ.tr {V : World} {A : Option Addr} {n c : Nat} {t : List TN} {qs : List Value} (h : TrQ V A n c t qs) : Tr V A n c t := ⟨qs, h.ql, h.s, h.i⟩
theorem TrQ.at {V : World} {A : Option Addr} {n c : Nat} {t : List TN} {qs : List Value} (h : TrQ V A n c t qs) {j : Nat} (hj : j < n) : ∃ b off x A' c', A = some ⟨b, off, none⟩ ∧ t[j]? = some x ∧ V.cell? ⟨b, off + j * 6, none⟩ = some (.int .i64 x.k) ∧ V.cell? ⟨b, off + j * 6 + 1, none⟩ = some (.int .i64 x.i) ∧ V.cell? ⟨b, off + j * 6 + 2, none⟩ = some (.int .i64 x.e) ∧
    V.cell? ⟨b, off + j * 6 + 3, none⟩ = some (.int .i64 x.s) ∧ V.cell? ⟨b, off + j * 6 + 4, none⟩ = some (.int .i64 x.h) ∧ V.cell? ⟨b, off + j * 6 + 5, none⟩ = some (.slice A' x.u.length c') ∧ ∀ V', TrQ V' A n c t qs → SlA V' 1 A' x.u.length c' (x.u.map (.int .i64)) := by
  obtain ⟨b, off, x, A', c', e, hx, d0, d1, d2, d3, d4, d5, -⟩ := h.tr.at hj
  have hn := h.tr.len
  have hq : qs[j]? = some (qs[j]'(by rw [h.ql, hn]; exact hj)) := List.getElem?_eq_getElem _
  obtain ⟨b', o', e', hc⟩ := h.s.cells (j * 6 + 5) _ ((ncs_get hx hq (k := 5) (by omega)).trans rfl)
  subst e
  injection e' with e'
  injection e' with e1 e2
  subst e1; subst e2
  have hq5 : qs[j]'(by rw [h.ql, hn]; exact hj) = .slice A' x.u.length c' := by
    rw [← Nat.add_assoc] at hc
    exact Option.some.inj (hc.symm.trans d5)
  refine ⟨b, off, x, A', c', rfl, hx, d0, d1, d2, d3, d4, d5, fun V' h' => ?_⟩
  obtain ⟨A2, c2, e2, hs⟩ := h'.i j x _ hx hq
  rw [hq5] at e2
  injection e2 with e1 e2 e3
  subst e1; subst e3
  exact hs
theorem Mv.unk {W V : World} {Z Z' : Nat → Prop} {bk : Nat} (m : Mv (Zk Z bk) W (Zk Z' bk) V) (hb : W.heap.size ≤ bk) : Mv Z W Z' V :=
  ⟨⟨m.t.os, m.t.tape, m.t.output, m.t.size, fun k hk hz => m.t.block k hk fun h => h.elim hz fun e => by omega⟩, fun b hz => (m.n b (.inl hz)).elim (fun h => h.elim .inl fun e => .inr (by omega)) .inr⟩
theorem lkS_succ {ex cx : Int} {S : KS} {t : List TN} {j : Nat} {x : TN} (h : t[j]? = some x) : lkS ex cx S t (j + 1) = ((loF ex cx (lkS ex cx S t j).1 j x).1, (lkS ex cx S t j).2 ++ [(loF ex cx (lkS ex cx S t j).1 j x).2]) := by
  rw [lkS, List.getD_eq_getElem?_getD, h]; rfl
section
variable {w0 W : World} {Z : Nat → Prop} {sa bk : Nat} {S : KS} {ex cx : Int} {X : List ND}
theorem l_lk (h : LA w0 W Z sa X) (hT : Tb w0.heap.size w0) {a b c d : Int} (ha : I64 a) (hb : I64 b) (hc : I64 c) (hd : I64 d) :
    Calls Tryz.prog 49 #[.pointer (some ⟨sa, 0, none⟩), .int .i64 a, .int .i64 b, .int .i64 c, .int .i64 d] W (LrS w0 W Z sa (mk X (ndN 9 [a, b, c, d]))) := by
  have HM := hid (l_of (h.alloc (.cells #[.int .i64 a, .int .i64 b, .int .i64 c, .int .i64 d] 3)) hT (o := 9) (l := [a, b, c, d]) (sla_row #[.int .i64 a, .int .i64 b, .int .i64 c, .int .i64 d] (by unfold maxLen; simp)) (i64_lit (by decide) (by decide)) (fun i hi => by
    simp only [List.mem_cons, List.mem_nil_iff, or_false] at hi
    rcases hi with rfl | rfl | rfl | rfl <;> assumption))
  clear h hT
  generalize mk X (ndN 9 [a, b, c, d]) = r at *
  go_enter Tryz.func49, Tryz.ntmps49
  go_wp2_with fail
  refine HM.out.mono ?_
  rintro e w' ⟨Z', rfl, h1, h2⟩
  have H1 := hid h1; have H2 := hid ((Mv.alloc Z W (.cells #[.int .i64 a, .int .i64 b, .int .i64 c, .int .i64 d] 3)).trans h2)
  clear h1 h2 HM
  go_wp2_with fail
  go_ret2
  exact ⟨Z', rfl, H1.out, H2.out⟩
theorem lock2 (h : LA w0 W Z sa X) (hT : Tb w0.heap.size w0) {b4 b16 b17 b6 b15 : Nat} {a b c d : Int} (ha : I64 a) (hb : I64 b) (hc : I64 c) (hd : I64 d) (h4 : W.cell? ⟨b4, 0, none⟩ = some (.pointer (some ⟨sa, 0, none⟩))) (h16 : W.cell? ⟨b16, 0, none⟩ = some (.int .i64 a)) (h17 : W.cell? ⟨b17, 0, none⟩ = some (.int .i64 b)) (h6 : W.cell? ⟨b6, 0, none⟩ = some (.int .i64 c)) (h15 : W.cell? ⟨b15, 0, none⟩ = some (.int .i64 d)) :
    Calls Tryz.prog 48 #[.pointer (some ⟨b4, 0, none⟩), .pointer (some ⟨b16, 0, none⟩), .pointer (some ⟨b17, 0, none⟩), .pointer (some ⟨b6, 0, none⟩), .pointer (some ⟨b15, 0, none⟩)] W (LrS w0 W Z sa (mk X (ndN 9 [a, b, c, d]))) := by
  have HM := hid (l_lk h hT ha hb hc hd)
  clear h hT ha hb hc hd
  generalize mk X (ndN 9 [a, b, c, d]) = r at *
  go_enter Tryz.func48, Tryz.ntmps48
  go_wp2_with fail
  refine HM.out.mono ?_
  rintro e w' ⟨Z', rfl, h1, h2⟩
  have H1 := hid h1; have H2 := hid h2
  clear h1 h2 HM
  go_wp2_with fail
  go_ret2
  exact ⟨Z', rfl, H1.out, H2.out⟩
theorem con_i (ok : Okay S.x) (n : TN) : I64 (conF S n).2 :=
  li_i ((((((tx_go S _).trans (tx_go _ _)).trans (txS_go _ n.u n.u.length)).trans (li_go _ _))).ok ok) _
theorem kyB_i (ok : Okay S.x) (ex x : Int) : I64 (kyB ex S x).2 := do_i (exd_i64 ((tx_go S _).ok ok) _ _ _)
theorem kyF_i (ok : Okay S.x) (ex x : Int) : I64 (kyF ex S x).2 := do_i (exd_i64 (((tx_go S _).trans (exd_go _ _ _ _)).ok ok) _ _ _)
theorem xp_i (ok : Okay X) (ep : List Int) (lab : ByteArray) (x : Int) : I64 (xpF X ep lab x).2.1 := by
  unfold xpF
  split
  · unfold bdF
    split
    · exact exd_i64 ((sb_dv _ _).ok X ok) _ _ _
    · exact i64_0
  · exact i64_0
set_option maxHeartbeats 8000000 in
set_option maxRecDepth 100000 in
theorem lock_any (h : LA w0 W Z sa X) (hT : Tb w0.heap.size w0) {ep : List Int} (h11 : ep.length = 11) (h5 : I64 (ep.getD 5 0)) (hx : I64 cx) {A : Option Addr} {n c : Nat} {t : List TN} {qs : List Value} (ht : Fx W Z fun V => TrQ V A n c t qs) (hI : ∀ m ∈ t, TnI m) (hul : ∀ m ∈ t, m.u.length ≤ 1000) (hn : n ≤ 1000) :
    Calls Tryz.prog 13 #[.pointer (some ⟨sa, 0, none⟩), epV ep, .int .i64 cx, .slice A n c] W fun e w' => ∃ Z' v, e = .returned (.tuple #[v, .int .i64 (lockF X ep cx t).2.2]) ∧ LA w0 w' Z' sa (lockF X ep cx t).1 ∧ Mv Z W Z' w' ∧ w'.ownsRow W.heap.size 3 1 v (lockF X ep cx t).2.1.length ((lockF X ep cx t).2.1.map (.int .i64)) ∧ ∀ b, v.ownBlock = some b → ¬ Z' b := by
  have HA := hid h; have HT := hid hT; have H11 := hid h11; have H5 := hid h5; have HX := hid hx; have HTR := hid ht; have HI := hid hI; have HUL := hid hul; have HLN := hid ht.here.tr.len
  obtain ⟨i0, hi, hz0, hz1, hz2⟩ := info_parts Tryz.infoInt
  obtain ⟨e0, e1, e2, e3, e4, e5, e6, e7, e8, e9, e10, rfl⟩ := len11 h11
  clear h hT h11 h5 hx ht hI hul
  have B3 := hid ((((Below.refl W.heap.size W).alloc (Nat.le_refl _) (.cells #[.pointer (some ⟨sa, 0, none⟩)] 27)).alloc (by simp) (.cells #[.int .i64 e0, .int .i64 e1, .int .i64 e2, .int .i64 e3, .int .i64 e4, .int .i64 e5, .int .i64 e6, .int .i64 e7, .int .i64 e8, .int .i64 e9, .int .i64 e10] 29)).alloc (by simp; omega) (.cells #[.int .i64 cx] 3))
  have G4 := hid (show HasO (.cells #[.pointer (some ⟨sa, 0, none⟩)] 27 (0, 0)) W.heap.size (((W.alloc (.cells #[.pointer (some ⟨sa, 0, none⟩)] 27)).alloc (.cells #[.int .i64 e0, .int .i64 e1, .int .i64 e2, .int .i64 e3, .int .i64 e4, .int .i64 e5, .int .i64 e6, .int .i64 e7, .int .i64 e8, .int .i64 e9, .int .i64 e10] 29)).alloc (.cells #[.int .i64 cx] 3)) from ((HasO.new _ _).alloc).alloc)
  have G5 := hid (show HasO (.cells #[.int .i64 e0, .int .i64 e1, .int .i64 e2, .int .i64 e3, .int .i64 e4, .int .i64 e5, .int .i64 e6, .int .i64 e7, .int .i64 e8, .int .i64 e9, .int .i64 e10] 29 (0, 0)) (W.heap.size + 1) (((W.alloc (.cells #[.pointer (some ⟨sa, 0, none⟩)] 27)).alloc (.cells #[.int .i64 e0, .int .i64 e1, .int .i64 e2, .int .i64 e3, .int .i64 e4, .int .i64 e5, .int .i64 e6, .int .i64 e7, .int .i64 e8, .int .i64 e9, .int .i64 e10] 29)).alloc (.cells #[.int .i64 cx] 3)) from (HasO.new' (by simp)).alloc)
  have G6 := hid (show HasO (.cells #[.int .i64 cx] 3 (0, 0)) (W.heap.size + 2) (((W.alloc (.cells #[.pointer (some ⟨sa, 0, none⟩)] 27)).alloc (.cells #[.int .i64 e0, .int .i64 e1, .int .i64 e2, .int .i64 e3, .int .i64 e4, .int .i64 e5, .int .i64 e6, .int .i64 e7, .int .i64 e8, .int .i64 e9, .int .i64 e10] 29)).alloc (.cells #[.int .i64 cx] 3)) from HasO.new' (by simp))
  have HE := hid (show epV [e0, e1, e2, e3, e4, e5, e6, e7, e8, e9, e10] = .agg #[.int .i64 e0, .int .i64 e1, .int .i64 e2, .int .i64 e3, .int .i64 e4, .int .i64 e5, .int .i64 e6, .int .i64 e7, .int .i64 e8, .int .i64 e9, .int .i64 e10] from rfl)
  rw [HE.out]
  obtain ⟨r, hr⟩ : ∃ r, r = lockF X [e0, e1, e2, e3, e4, e5, e6, e7, e8, e9, e10] cx t := ⟨_, rfl⟩
  rw [← hr]
  have HR := hid hr
  clear hr
  go_enter Tryz.func13, Tryz.ntmps13
  go_upto_region 2 with fail
  try simp only [Nat.add_assoc, Nat.reduceAdd]
  refine forget (R := fun V => Below W.heap.size W V ∧ HasO (.cells #[.pointer (some ⟨sa, 0, none⟩)] 27 (0, 0)) W.heap.size V ∧ HasO (.cells #[.int .i64 e0, .int .i64 e1, .int .i64 e2, .int .i64 e3, .int .i64 e4, .int .i64 e5, .int .i64 e6, .int .i64 e7, .int .i64 e8, .int .i64 e9, .int .i64 e10] 29 (0, 0)) (W.heap.size + 1) V ∧ HasO (.cells #[.int .i64 cx] 3 (0, 0)) (W.heap.size + 2) V) ?_ ⟨B3.out, G4.out, G5.out, G6.out⟩
  clear B3 G4 G5 G6
  rintro V ⟨b, g4, g5, g6⟩
  have HB := hid b; have G4 := hid g4; have G5 := hid g5; have G6 := hid g6
  clear b g4 g5 g6
  have HA1 := hid (HA.out.ext HB.out)
  have HTV := hid (HTR.out.ext HB.out)
  by_cases h511 : 511 < n
  · have h511' : (511 : Int) < (n : Int) := by omega
    have HF := hid (show lockF X [e0, e1, e2, e3, e4, e5, e6, e7, e8, e9, e10] cx t = (X, [], 1) by unfold lockF; rw [if_pos (.inl (by have := HLN.out; omega))])
    clear h511
    go_wp2_with fail
    go_ret2
    rw [HR.out, HF.out]
    exact ⟨Z, _, rfl, HA1.out, Mv.below HB.out, World.ownsRow_nil _ _ _ _, fun b hb => by cases hb⟩
  have h511' : ¬ (511 : Int) < (n : Int) := by omega
  have H511 := hid h511
  clear h511
  have HCF := hid (cf_bad (badN X) (q1 := .pointer (some ⟨W.heap.size, 0, none⟩)) A n c t V HTV.out.here.tr (by omega) fun U hU x hx A2 c2 hs => lbad_any (HA1.out.ext hU).ar.vw (by rw [cell_of_row _ W.heap.size 0 _ _ (0, 0) (G4.out.bel hU)]; rfl) hs (HUL.out x hx))
  rcases hb : t.any (badN X) with _ | _
  rotate_left
  · have HF := hid (show lockF X [e0, e1, e2, e3, e4, e5, e6, e7, e8, e9, e10] cx t = (X, [], 1) by unfold lockF; rw [if_pos (.inr hb)])
    rw [hb] at HCF
    clear hb
    go_wp2_with fail
    refine HCF.out.mono ?_
    rintro e w2 ⟨rfl, hb2⟩
    have L2 := hid (HA1.out.ext hb2); have M2 := hid (Mv.below (Z := Z) (HB.out.trans (hb2.mono HB.out.size)))
    clear hb2
    go_wp2_with fail
    go_ret2
    rw [HR.out, HF.out]
    exact ⟨Z, _, rfl, L2.out, M2.out, World.ownsRow_nil _ _ _ _, fun b hb => by cases hb⟩
  have HF := hid (show lockF X [e0, e1, e2, e3, e4, e5, e6, e7, e8, e9, e10] cx t = if (lokF X [e0, e1, e2, e3, e4, e5, e6, e7, e8, e9, e10] cx t).1.e = 0 then ((lokF X [e0, e1, e2, e3, e4, e5, e6, e7, e8, e9, e10] cx t).1.x, (lokF X [e0, e1, e2, e3, e4, e5, e6, e7, e8, e9, e10] cx t).2, 0) else ((lokF X [e0, e1, e2, e3, e4, e5, e6, e7, e8, e9, e10] cx t).1.x, [], (lokF X [e0, e1, e2, e3, e4, e5, e6, e7, e8, e9, e10] cx t).1.e) by
    unfold lockF; rw [if_neg (fun h => h.elim (by have := HLN.out; have := H511.out; omega) (by rw [hb]; decide))])
  rw [hb] at HCF
  have HRF := hid (HR.out.trans HF.out)
  clear hb HF
  go_wp2_with fail
  refine HCF.out.mono ?_
  rintro e w2 ⟨rfl, hb2⟩
  have HB2 := hid (HB.out.trans (hb2.mono HB.out.size))
  have G42 := hid (G4.out.bel hb2); have G52 := hid (G5.out.bel hb2); have G62 := hid (G6.out.bel hb2)
  have HA2 := hid (HA1.out.ext hb2)
  clear hb2 HCF HA1 HTV G4 G5 G6 HB
  have c4 : w2.cell? ⟨W.heap.size, 0, none⟩ = some (.pointer (some ⟨sa, 0, none⟩)) := by rw [cell_of_row _ W.heap.size 0 _ _ (0, 0) G42.out]; rfl
  have c6 : w2.cell? ⟨W.heap.size + 2, 0, none⟩ = some (.int .i64 cx) := by rw [cell_of_row _ (W.heap.size + 2) 0 _ _ (0, 0) G62.out]; rfl
  have ce0 : w2.cell? ⟨W.heap.size + 1, 0, none⟩ = some (.int .i64 e0) := by rw [cell_of_row _ (W.heap.size + 1) 0 _ _ (0, 0) G52.out]; rfl
  have ce1 : w2.cell? ⟨W.heap.size + 1, 1, none⟩ = some (.int .i64 e1) := by rw [cell_of_row _ (W.heap.size + 1) 1 _ _ (0, 0) G52.out]; rfl
  have ce2 : w2.cell? ⟨W.heap.size + 1, 2, none⟩ = some (.int .i64 e2) := by rw [cell_of_row _ (W.heap.size + 1) 2 _ _ (0, 0) G52.out]; rfl
  have ce3 : w2.cell? ⟨W.heap.size + 1, 3, none⟩ = some (.int .i64 e3) := by rw [cell_of_row _ (W.heap.size + 1) 3 _ _ (0, 0) G52.out]; rfl
  have ce4 : w2.cell? ⟨W.heap.size + 1, 4, none⟩ = some (.int .i64 e4) := by rw [cell_of_row _ (W.heap.size + 1) 4 _ _ (0, 0) G52.out]; rfl
  have ce5 : w2.cell? ⟨W.heap.size + 1, 5, none⟩ = some (.int .i64 e5) := by rw [cell_of_row _ (W.heap.size + 1) 5 _ _ (0, 0) G52.out]; rfl
  have ce6 : w2.cell? ⟨W.heap.size + 1, 6, none⟩ = some (.int .i64 e6) := by rw [cell_of_row _ (W.heap.size + 1) 6 _ _ (0, 0) G52.out]; rfl
  have ce7 : w2.cell? ⟨W.heap.size + 1, 7, none⟩ = some (.int .i64 e7) := by rw [cell_of_row _ (W.heap.size + 1) 7 _ _ (0, 0) G52.out]; rfl
  have ce8 : w2.cell? ⟨W.heap.size + 1, 8, none⟩ = some (.int .i64 e8) := by rw [cell_of_row _ (W.heap.size + 1) 8 _ _ (0, 0) G52.out]; rfl
  have ce9 : w2.cell? ⟨W.heap.size + 1, 9, none⟩ = some (.int .i64 e9) := by rw [cell_of_row _ (W.heap.size + 1) 9 _ _ (0, 0) G52.out]; rfl
  have ce10 : w2.cell? ⟨W.heap.size + 1, 10, none⟩ = some (.int .i64 e10) := by rw [cell_of_row _ (W.heap.size + 1) 10 _ _ (0, 0) G52.out]; rfl
  have HBG := hid (k_begin HA2.out HT.out H11.out H5.out HX.out)
  rw [HE.out] at HBG
  go_wp2_with fail
  refine HBG.out.mono ?_
  rintro e w3 ⟨Z3, bk, rfl, lk3, hbk, m3⟩
  have hbk0 : W.heap.size ≤ bk := Nat.le_trans HB2.out.size hbk
  have HM3 := hid ((Mv.below (Z := Z) HB2.out).trans m3)
  have HG3 := hid (show GM w0 W w3 Z Z3 sa bk [(W.heap.size, .cells #[.pointer (some ⟨sa, 0, none⟩)] 27 (0, 0)), (W.heap.size + 2, .cells #[.int .i64 cx] 3 (0, 0))] (.slice none 0 0) [] (beF X [e0, e1, e2, e3, e4, e5, e6, e7, e8, e9, e10] cx) (beI X [e0, e1, e2, e3, e4, e5, e6, e7, e8, e9, e10] cx) cx (fun V => TrQ V A n c t qs) from by
    have hz : ∀ b, b < w2.heap.size → ¬ Z b → ¬ Zk Z3 bk b := fun b hb hz h2 => h2.elim (fun h2 => (m3.n b h2).elim hz fun h' => by omega) fun e => by omega
    have hnz : ∀ b, W.heap.size ≤ b → ¬ Z b := fun b hb hz => by have := HA.out.ar.zlt _ hz; omega
    obtain ⟨R, r1, r2⟩ := HTR.out
    have l4 := G42.out.lt; have l6 := G62.out.lt
    refine ⟨lk3, fun p hp => ?_, World.ownsRow_nil _ _ _ _, fun b hb => (by cases hb), ⟨R, fun b hr => ⟨hz b (Nat.lt_of_lt_of_le (r1 b hr).2 HB2.out.size) (r1 b hr).1, (r1 b hr).2⟩, fun V' hv => r2 V' fun b hr => (hv b hr).trans (HM3.out.t.block b (r1 b hr).2 (r1 b hr).1)⟩, HM3.out.zk bk, HA.out.bl.size⟩
    simp only [List.mem_cons, List.mem_nil_iff, or_false] at hp
    rcases hp with rfl | rfl
    · exact ⟨(m3.t.block _ l4 (hnz _ (Nat.le_refl _))).trans G42.out, hz _ l4 (hnz _ (Nat.le_refl _)), Nat.le_refl _⟩
    · exact ⟨(m3.t.block _ l6 (hnz _ (by omega))).trans G62.out, hz _ l6 (hnz _ (by omega)), by omega⟩)
  have HBK := hid hbk0
  clear lk3 hbk hbk0 m3 HBG HA2 HB2 G42 G52 G62 c4 c6 ce0 ce1 ce2 ce3 ce4 ce5 ce6 ce7 ce8 ce9 ce10
  have HIX := hid (show I64 (beI X [e0, e1, e2, e3, e4, e5, e6, e7, e8, e9, e10] cx) from xp_i HA.out.ar.ok _ _ _)
  unfold lokF at HRF
  clear HR
  generalize beI X [e0, e1, e2, e3, e4, e5, e6, e7, e8, e9, e10] cx = ex at *
  generalize beF X [e0, e1, e2, e3, e4, e5, e6, e7, e8, e9, e10] cx = B at *
  go_upto_region 7 with fail
  go_loopw [33, 12] (fun v un wr => ∃ (j : Nat) (Zj : Nat → Prop), v = .int .i64 j ∧ j ≤ n ∧ GM w0 W wr Z Zj sa bk [(W.heap.size, .cells #[.pointer (some ⟨sa, 0, none⟩)] 27 (0, 0)), (W.heap.size + 2, .cells #[.int .i64 cx] 3 (0, 0))] un (lkS ex cx B t j).2 (lkS ex cx B t j).1 ex cx (fun V => TrQ V A n c t qs)) (fun v _ _ => n - (intOf v).toNat)
  case atStart => exact ⟨0, Z3, rfl, Nat.zero_le _, HG3.out⟩
  case round =>
    clear HG3
    obtain ⟨j, Zj, hv, hj, hg⟩ := hrel
    subst hv
    have HG := hid hg
    clear hg
    by_cases hlt : j < n
    · have hlt' : (j : Int) < (n : Int) := by omega
      have HLT := hid hlt
      obtain ⟨b, off, x, A2, c2, rfl, hx, d0, d1, d2, d3, d4, d5, hsx⟩ := (fu_here HG.out.fu).at hlt
      have HS1 := hid (lkS_succ (ex := ex) (cx := cx) (S := B) hx)
      have HTI := hid (HI.out x (List.mem_of_getElem? hx)); have HUX := hid (HUL.out x (List.mem_of_getElem? hx))
      have HSX := hid hsx
      have HOJ := hid HG.out.lk.la.ar.ok
      have HLJ := hid (show (lkS ex cx B t j).2.length ≤ 1000 by rw [lkS_len]; omega)
      clear hx hsx
      generalize (lkS ex cx B t j).1 = Sj at *
      generalize (lkS ex cx B t j).2 = lj at *
      have HP1 := hid (HG.out.push (.cells #[.int .i64 x.k, .int .i64 x.i, .int .i64 x.e, .int .i64 x.s, .int .i64 x.h, .slice A2 x.u.length c2] 46))
      go_upto_region 9 with fail
      generalize wr.heap.size = b14 at *
      refine forget (R := fun V => GM w0 W V Z Zj sa bk ((b14, .cells #[.int .i64 x.k, .int .i64 x.i, .int .i64 x.e, .int .i64 x.s, .int .i64 x.h, .slice A2 x.u.length c2] 46 (0, 0)) :: [(W.heap.size, .cells #[.pointer (some ⟨sa, 0, none⟩)] 27 (0, 0)), (W.heap.size + 2, .cells #[.int .i64 cx] 3 (0, 0))]) u12 lj Sj ex cx (fun V => TrQ V (some ⟨b, off, none⟩) n c t qs)) ?_ HP1.out
      clear HP1 HG d0 d1 d2 d3 d4 d5
      intro V1 h1
      have HG1 := hid h1
      clear h1
      have q0 : V1.cell? ⟨b14, 0, none⟩ = some (.int .i64 x.k) := HG1.out.cell (List.mem_cons_self ..) 0
      have q1 : V1.cell? ⟨b14, 1, none⟩ = some (.int .i64 x.i) := HG1.out.cell (List.mem_cons_self ..) 1
      have q2 : V1.cell? ⟨b14, 2, none⟩ = some (.int .i64 x.e) := HG1.out.cell (List.mem_cons_self ..) 2
      have q3 : V1.cell? ⟨b14, 3, none⟩ = some (.int .i64 x.s) := HG1.out.cell (List.mem_cons_self ..) 3
      have q4 : V1.cell? ⟨b14, 4, none⟩ = some (.int .i64 x.h) := HG1.out.cell (List.mem_cons_self ..) 4
      have q5 : V1.cell? ⟨b14, 5, none⟩ = some (.slice A2 x.u.length c2) := HG1.out.cell (List.mem_cons_self ..) 5
      have HCN := hid (k_content (n := x) (A := A2) (c := c2) HG1.out.lk HT.out (by
        obtain ⟨R, r1, r2⟩ := HG1.out.fu
        exact ⟨R, fun b hr => ⟨(r1 b hr).1, Nat.lt_of_lt_of_le (r1 b hr).2 HG1.out.m.t.size⟩, fun V' hv => HSX.out V' (r2 V' hv)⟩) HTI.out HUX.out)
      unfold tnV at HCN
      go_wp2_with fail
      refine HCN.out.mono ?_
      rintro e w4 ⟨Z4, rfl, l4, m4⟩
      have HG4 := hid (HG1.out.mv l4 m4)
      have HO4 := hid l4.la.ar.ok
      clear l4 m4 HG1 HCN q0 q1 q2 q3 q4 q5
      have HP4 := hid (HG4.out.push (.cells #[.int .i64 (conF Sj x).2] 3))
      go_upto_region 10 with fail
      generalize w4.heap.size = b15 at *
      refine forget (R := fun V => GM w0 W V Z Z4 sa bk ((b15, .cells #[.int .i64 (conF Sj x).2] 3 (0, 0)) :: (b14, .cells #[.int .i64 x.k, .int .i64 x.i, .int .i64 x.e, .int .i64 x.s, .int .i64 x.h, .slice A2 x.u.length c2] 46 (0, 0)) :: [(W.heap.size, .cells #[.pointer (some ⟨sa, 0, none⟩)] 27 (0, 0)), (W.heap.size + 2, .cells #[.int .i64 cx] 3 (0, 0))]) u12 lj (conF Sj x).1 ex cx (fun V => TrQ V (some ⟨b, off, none⟩) n c t qs)) ?_ HP4.out
      clear HP4 HG4
      intro V2 h2
      have HG5 := hid h2
      clear h2
      have hjl : j ≤ 1000 := by omega
      have HKY := hid (k_keys HG5.out.lk HT.out HIX.out (x := (j : Int)) ⟨by omega, by omega⟩)
      go_wp2_with fail
      refine HKY.out.mono ?_
      rintro e w6 ⟨Z6, rfl, l6, m6⟩
      have HG6 := hid (HG5.out.mv l6 m6)
      have HO6 := hid l6.la.ar.ok
      clear l6 m6 HG5 HKY
      have HP6 := hid ((HG6.out.push (.cells #[.int .i64 (kyB ex (conF Sj x).1 j).2] 3)).push (.cells #[.int .i64 (kyF ex (conF Sj x).1 j).2] 3))
      rw [size_al] at HP6
      go_upto_region 11 with fail
      generalize w6.heap.size = b16 at *
      refine forget (R := fun V => GM w0 W V Z Z6 sa bk ((b16 + 1, .cells #[.int .i64 (kyF ex (conF Sj x).1 j).2] 3 (0, 0)) :: (b16, .cells #[.int .i64 (kyB ex (conF Sj x).1 j).2] 3 (0, 0)) :: (b15, .cells #[.int .i64 (conF Sj x).2] 3 (0, 0)) :: (b14, .cells #[.int .i64 x.k, .int .i64 x.i, .int .i64 x.e, .int .i64 x.s, .int .i64 x.h, .slice A2 x.u.length c2] 46 (0, 0)) :: [(W.heap.size, .cells #[.pointer (some ⟨sa, 0, none⟩)] 27 (0, 0)), (W.heap.size + 2, .cells #[.int .i64 cx] 3 (0, 0))]) u12 lj (kyF ex (conF Sj x).1 j).1 ex cx (fun V => TrQ V (some ⟨b, off, none⟩) n c t qs)) ?_ HP6.out
      clear HP6 HG6
      intro V3 h3
      have HG7 := hid h3
      clear h3
      have c4 : V3.cell? ⟨W.heap.size, 0, none⟩ = some (.pointer (some ⟨sa, 0, none⟩)) := HG7.out.cell (T := 27) (cs := #[.pointer (some ⟨sa, 0, none⟩)]) (by simp) 0
      have c6 : V3.cell? ⟨W.heap.size + 2, 0, none⟩ = some (.int .i64 cx) := HG7.out.cell (T := 3) (cs := #[.int .i64 cx]) (by simp) 0
      have c15 : V3.cell? ⟨b15, 0, none⟩ = some (.int .i64 (conF Sj x).2) := HG7.out.cell (T := 3) (cs := #[.int .i64 (conF Sj x).2]) (by simp) 0
      have c16 : V3.cell? ⟨b16, 0, none⟩ = some (.int .i64 (kyB ex (conF Sj x).1 j).2) := HG7.out.cell (T := 3) (cs := #[.int .i64 (kyB ex (conF Sj x).1 j).2]) (by simp) 0
      have c17 : V3.cell? ⟨b16 + 1, 0, none⟩ = some (.int .i64 (kyF ex (conF Sj x).1 j).2) := HG7.out.cell (T := 3) (cs := #[.int .i64 (kyF ex (conF Sj x).1 j).2]) (by simp) 0
      have HD := hid (do_lock HG7.out.lk (fun xs => mk xs (ndN 9 [(kyB ex (conF Sj x).1 j).2, (kyF ex (conF Sj x).1 j).2, cx, (conF Sj x).2])) (p0 := .pointer (some ⟨W.heap.size, 0, none⟩)) (p1 := .pointer (some ⟨b16, 0, none⟩)) (p2 := .pointer (some ⟨b16 + 1, 0, none⟩)) (p3 := .pointer (some ⟨W.heap.size + 2, 0, none⟩)) (p4 := .pointer (some ⟨b15, 0, none⟩)) fun _ => lock2 HG7.out.lk.la HT.out (kyB_i HO4.out ex j) (kyF_i HO4.out ex j) HX.out (con_i HOJ.out x) c4 c16 c17 c6 c15)
      have HLO := hid (show loF ex cx Sj j x = doF (kyF ex (conF Sj x).1 j).1 (fun xs => mk xs (ndN 9 [(kyB ex (conF Sj x).1 j).2, (kyF ex (conF Sj x).1 j).2, cx, (conF Sj x).2])) from rfl)
      rw [← HLO.out] at HD
      clear c4 c6 c15 c16 c17 HLO
      go_wp2_with fail
      refine HD.out.mono ?_
      rintro e w8 ⟨Z8, rfl, l8, m8⟩
      have HG8 := hid ((HG7.out.mv l8 m8).sub (bs' := [(W.heap.size, .cells #[.pointer (some ⟨sa, 0, none⟩)] 27 (0, 0)), (W.heap.size + 2, .cells #[.int .i64 cx] 3 (0, 0))]) (fun p hp => by
        simp only [List.mem_cons, List.mem_nil_iff, or_false] at hp ⊢
        rcases hp with rfl | rfl
        · exact .inr (.inr (.inr (.inr (.inl rfl))))
        · exact .inr (.inr (.inr (.inr (.inr rfl))))))
      clear l8 m8 HG7 HD
      generalize (loF ex cx Sj j x).1 = Sn at *
      generalize (loF ex cx Sj j x).2 = vn at *
      go_wp2_with (first
        | (at_builtin; refine wpList_append_sl _ rfl _ _ 33 rfl W.heap.size 3 i0 (.int .i64 0) 1 8 Tryz.underlying33 hi hz0 hz1 hz2 rfl (by decide) u12 lj.length (lj.map (.int .i64)) rfl (HG8.out.ext ((Below.refl _ _).alloc (Nat.le_refl _) _)).un _ 1 1 [.int .i64 vn] rfl (SlA.lit1 _) (one_int _ _) (by have := HLJ.out; unfold maxLen; omega) (by have := HLJ.out; omega) (by have := HG8.out.m.t.size; simp; omega) ?_; intro v1 w9 own1 gr1 loc1; have HG9 := hid ((HG8.out.ext ((Below.refl _ _).alloc (Nat.le_refl _) _)).app (rowI_snoc own1) gr1 loc1); clear own1 gr1 loc1)
        | fail)
      go_roundw
      case rel =>
        refine ⟨j + 1, Z8, by go_num, by have := HLT.out; omega, ?_⟩
        rw [HS1.out]
        exact HG9.out
      case measure => have := HLT.out; simp [intOf]; omega
    · obtain rfl : j = n := by omega
      clear hlt hj
      obtain ⟨Au, cu, rfl, -⟩ := SlA.owned HG.out.un
      have HRG := hid HRF.out
      rw [HLN.out] at HRG
      have k1 := HG.out.lk.c1
      by_cases he : (lkS ex cx B t j).1.e = 0
      · have HRH := hid (HRG.out.trans (if_pos he))
        rw [he] at k1
        clear he HRG HRF
        generalize lkS ex cx B t j = SS at *
        go_wp2_with fail
        go_ret2
        rw [HRH.out]
        exact ⟨Zj, _, rfl, HG.out.lk.la, HG.out.m.unk HBK.out, HG.out.un, fun b hb hz => (HG.out.nu b hb).1 (.inl hz)⟩
      · have HRH := hid (HRG.out.trans (if_neg he))
        have hne : ((lkS ex cx B t j).1.e == 0) = false := beq_eq_false_iff_ne.2 he
        clear HRG HRF
        generalize lkS ex cx B t j = SS at *
        go_upto_region 14 with fail
        go_quiet (fail)
        go_wp2_with fail
        go_ret2
        rw [HRH.out]
        exact ⟨Zj, _, rfl, HG.out.lk.la.ext (below_drewN (Below.refl _ _) nq), (HG.out.m.unk HBK.out).trans (Mv.below (below_drewN (Below.refl _ _) nq)), World.ownsRow_nil _ _ _ _, fun b hb => (by cases hb)⟩
end
end Go.Proofs.YtfmkniakfgpgjaaGreatDoor

/- nodes: crypto.node and Unlock. -/
namespace Go.Proofs.YtfmkniakfgpgjaaGreatDoor
open Go.RowKit Go.KK Go.Shelf Go.Maps
set_option linter.unusedVariables false
set_option linter.unusedSimpArgs false

section
variable (Z : Nat → Prop) (st : Nat) (xs : List ND) (B : Nat) (w : World)
/-- Whether a term is of a kind. -/
def ndIs (xs : List ND) (t op : Int) : Bool := nodeE xs t == 0 && (nodeF xs t).o == op
set_option maxHeartbeats 2000000 in
theorem cnode_any (t op : Int) (h : ArV w 122 st xs) :
    Calls Tryz.prog 95 #[.pointer (some ⟨st, 0, none⟩), .int .i64 t, .int .i64 op] w fun e w' => ∃ A c, e = .returned (.tuple #[.agg #[.int .i64 (nodeF xs t).o, .int .i64 (nodeF xs t).n, .string (nodeF xs t).s, .slice A (nodeF xs t).l.length c], .bool (ndIs xs t op)]) ∧ w'.ownsRow w.heap.size 3 1 (.slice A (nodeF xs t).l.length c) (nodeF xs t).l.length ((nodeF xs t).l.map (.int .i64)) ∧ Below w.heap.size w w' := by
  have H := hid h
  have B0 := hid (show Below w.heap.size w (w.alloc (.cells #[.int .i64 0, .int .i64 0, .string ⟨#[]⟩, .slice none 0 0] 64)) from (Below.refl _ _).alloc (Nat.le_refl _) _)
  have X0 := hid (show (w.alloc (.cells #[.int .i64 0, .int .i64 0, .string ⟨#[]⟩, .slice none 0 0] 64)).ownsRow w.heap.size 64 4 (.slice (some ⟨w.heap.size, 0, none⟩) 1 1) 1 [.int .i64 0, .int .i64 0, .string ⟨#[]⟩, .slice none 0 0] from
    ⟨by simp, .inr ⟨w.heap.size, 1, _, rfl, Nat.le_refl _, heap_alloc_new w _, Nat.le_refl _, by decide, rfl, by simp⟩⟩)
  have HN := hid (node_any st xs t _ (H.out.ext B0.out))
  clear h
  unfold ndIs
  generalize nodeF xs t = x at *
  generalize nodeE xs t = ee at *
  go_enter Tryz.func95, Tryz.ntmps95
  go_wp2_with fail
  refine HN.out.mono ?_
  rintro e1 w1 ⟨A, c, rfl, hs, b1⟩
  have HS := hid hs
  have B1 := hid (B0.out.trans (b1.mono B0.out.size))
  have X1 := hid (own_ext X0.out b1)
  have hlt : w.heap.size < w1.heap.size := (X1.out.lt w.heap.size rfl).2
  clear hs b1
  clear HN
  go_upto_region 2 with fail
  have X2 := hid (show (w1.alloc (.cells #[.int .i64 x.o, .int .i64 x.n, .string x.s, .slice A x.l.length c] 64)).ownsRow w1.heap.size 64 4 (.slice (some ⟨w1.heap.size, 0, none⟩) 1 1) 1 [.int .i64 x.o, .int .i64 x.n, .string x.s, .slice A x.l.length c] from
    ⟨by simp, .inr ⟨w1.heap.size, 1, _, rfl, Nat.le_refl _, heap_alloc_new w1 _, Nat.le_refl _, by decide, rfl, by simp⟩⟩)
  have X3 := hid (X1.out.alloc (.cells #[.int .i64 x.o, .int .i64 x.n, .string x.s, .slice A x.l.length c] 64))
  have B2 := hid (B1.out.alloc (by omega) (.cells #[.int .i64 x.o, .int .i64 x.n, .string x.s, .slice A x.l.length c] 64))
  have HS2 := hid (HS.out.alloc (.cells #[.int .i64 x.o, .int .i64 x.n, .string x.s, .slice A x.l.length c] 64))
  refine forget (R := fun W => W = w1.alloc (.cells #[.int .i64 x.o, .int .i64 x.n, .string x.s, .slice A x.l.length c] 64)) ?_ rfl
  intro W hW
  rw [← hW] at X2 X3 B2 HS2
  clear hW
  obtain ⟨⟨k0, k1, k2, k3⟩, f0, f1, f2, f3⟩ := box4 X3.out
  obtain ⟨⟨l0, l1, l2, l3⟩, g0, g1, g2, g3⟩ := box4 X2.out
  have hne1 : ¬ w1.heap.size = w.heap.size := by omega
  have hne2 : ¬ w.heap.size = w1.heap.size := by omega
  have hend : ∀ q : Nat, let W' := ((((W.setCell ⟨w.heap.size, 0, none⟩ (.int .i64 x.o)).setCell ⟨w.heap.size, 1, none⟩ (.int .i64 x.n)).setCell ⟨w.heap.size, 2, none⟩ (.string x.s)).setCell ⟨w.heap.size, 3, none⟩ (.slice A x.l.length c)).drewN q
      (W'.cell? ⟨w.heap.size, 0, none⟩ = some (.int .i64 x.o) ∧ W'.cell? ⟨w.heap.size, 1, none⟩ = some (.int .i64 x.n) ∧ W'.cell? ⟨w.heap.size, 2, none⟩ = some (.string x.s) ∧ W'.cell? ⟨w.heap.size, 3, none⟩ = some (.slice A x.l.length c)) ∧ W'.ownsRow w.heap.size 3 1 (.slice A x.l.length c) x.l.length (x.l.map (.int .i64)) ∧ Below w.heap.size w W' := fun q => by
    have r1 := ((((X3.out.stored 0 (.int .i64 x.o)).1.stored 1 (.int .i64 x.n)).1.stored 2 (.string x.s)).1.stored 3 (.slice A x.l.length c)).1
    refine ⟨(box4 r1).1, ?_, below_drewN ((((B2.out.setCell (p := ⟨w.heap.size, 0, none⟩) (Nat.le_refl _) _).setCell (p := ⟨w.heap.size, 1, none⟩) (Nat.le_refl _) _).setCell (p := ⟨w.heap.size, 2, none⟩) (Nat.le_refl _) _).setCell (p := ⟨w.heap.size, 3, none⟩) (Nat.le_refl _) _) q⟩
    refine Go.KK.own_mono (own_block (w' := ((((W.setCell ⟨w.heap.size, 0, none⟩ (.int .i64 x.o)).setCell ⟨w.heap.size, 1, none⟩ (.int .i64 x.n)).setCell ⟨w.heap.size, 2, none⟩ (.string x.s)).setCell ⟨w.heap.size, 3, none⟩ (.slice A x.l.length c)).drewN q) HS2.out fun b hb => ?_) (by simp)
    have hb1 := (HS2.out.lt b hb).1
    have hb2 : b ≠ w.heap.size := by simp at hb1; omega
    show ((((W.setCell ⟨w.heap.size, 0, none⟩ (.int .i64 x.o)).setCell ⟨w.heap.size, 1, none⟩ (.int .i64 x.n)).setCell ⟨w.heap.size, 2, none⟩ (.string x.s)).setCell ⟨w.heap.size, 3, none⟩ (.slice A x.l.length c)).heap[b]? = _
    rw [Below.heap_setCell _ _ _ b hb2, Below.heap_setCell _ _ _ b hb2, Below.heap_setCell _ _ _ b hb2, Below.heap_setCell _ _ _ b hb2]
  have HEND := hid hend
  clear hend
  rcases he : (ee == 0) with _ | _
  all_goals
    go_region
    obtain ⟨⟨m0, m1, m2, m3⟩, m4, m5⟩ := HEND.out 1
    rw [show ((((W.setCell ⟨w.heap.size, 0, none⟩ (.int .i64 x.o)).setCell ⟨w.heap.size, 1, none⟩ (.int .i64 x.n)).setCell ⟨w.heap.size, 2, none⟩ (.string x.s)).setCell ⟨w.heap.size, 3, none⟩ (.slice A x.l.length c)).drew = ((((W.setCell ⟨w.heap.size, 0, none⟩ (.int .i64 x.o)).setCell ⟨w.heap.size, 1, none⟩ (.int .i64 x.n)).setCell ⟨w.heap.size, 2, none⟩ (.string x.s)).setCell ⟨w.heap.size, 3, none⟩ (.slice A x.l.length c)).drewN 1 from rfl]
    generalize ((((W.setCell ⟨w.heap.size, 0, none⟩ (.int .i64 x.o)).setCell ⟨w.heap.size, 1, none⟩ (.int .i64 x.n)).setCell ⟨w.heap.size, 2, none⟩ (.string x.s)).setCell ⟨w.heap.size, 3, none⟩ (.slice A x.l.length c)).drewN 1 = W9 at *
    have M4 := hid m4; have M5 := hid m5
    clear m4 m5
    go_wp2
  · refine bodyPost_ret (v := .tuple #[.agg #[.int .i64 x.o, .int .i64 x.n, .string x.s, .slice A x.l.length c], .bool false]) ?_ rfl ⟨A, c, rfl, M4.out, M5.out⟩
    rw [results_cell_tmp rfl]
    go_simp
  · refine bodyPost_ret (v := .tuple #[.agg #[.int .i64 x.o, .int .i64 x.n, .string x.s, .slice A x.l.length c], .bool (x.o == op)]) ?_ rfl ⟨A, c, rfl, M4.out, M5.out⟩
    rw [results_cell_tmp rfl]
    go_simp
end
end Go.Proofs.YtfmkniakfgpgjaaGreatDoor

/- arrays of numbers compared. Of no program. -/
namespace Go.KK
open Go.RowKit
set_option linter.unusedVariables false
set_option linter.unusedSimpArgs false
section
variable {P : Program} {e t : TypeId} {k : IntKind}
theorem run_isAgg_int (w : World) (h : P.underlying e = some (.int k)) : (isAgg e).run P w = .ok false w := by
  simp [isAgg, run_underlying h]
theorem run_part_int (w : World) (he : P.underlying e = some (.int .i64)) (l : List Int) (i : Nat) (y : Int) (h : l[i]? = some y) : (part e (l.map (Value.int .i64)).toArray i).run P w = .ok (.int .i64 y) w := by
  unfold part
  simp [go_sem, run_isAgg_int w he, h]
/-- The elements from i on, n of them, are the same. -/
def eqFrom (l m : List Int) : Nat → Nat → Bool
  | _, 0 => true
  | i, n + 1 => (l.getD i 0 == m.getD i 0) && eqFrom l m (i + 1) n
theorem eqFrom_iff (l m : List Int) : ∀ (n i : Nat), i + n = l.length → l.length = m.length → (eqFrom l m i n = true ↔ l.drop i = m.drop i)
  | 0, i, h, hl => by
    rw [List.drop_of_length_le (by omega), List.drop_of_length_le (by omega)]
    simp [eqFrom]
  | n + 1, i, h, hl => by
    have h1 : l[i]? = some (l[i]'(by omega)) := List.getElem?_eq_getElem _
    have h2 : m[i]? = some (m[i]'(by omega)) := List.getElem?_eq_getElem _
    rw [eqFrom, Bool.and_eq_true, eqFrom_iff l m n (i + 1) (by omega) hl, List.getD, List.getD, h1, h2, List.drop_eq_getElem_cons (by omega : i < l.length), List.drop_eq_getElem_cons (by omega : i < m.length)]
    simp only [Option.getD_some, beq_iff_eq, List.cons.injEq]
theorem run_equalIn_arr (w : World) (d n : Nat) (ht : P.underlying t = some (.array n e)) (he : P.underlying e = some (.int .i64)) (hz : ∀ w, (sizeOf e).run P w = .ok 1 w) (l m : List Int) (hl : l.length = n) (hm : m.length = n) :
    (Op.equalIn (d + 2) t (.agg (l.map (Value.int .i64)).toArray) (.agg (m.map (Value.int .i64)).toArray)).run P w = .ok (l == m) w := by
  rw [Op.equalIn]
  simp only [Sem.run_bind, run_underlying ht, Result.andThen_ok, hz, Nat.mul_one, Std.Legacy.Range.forIn_eq_forIn_range', Std.Legacy.Range.size]
  have key : ∀ (k i : Nat) , i + k = n → ((forIn (List.range' i k 1) (none, PUnit.unit) fun i _ => (do
      let a ← part e (l.map (Value.int .i64)).toArray i
      let b ← part e (m.map (Value.int .i64)).toArray i
      let r ← Op.equalIn (d + 1) e a b
      if (!r) = true then pure (ForInStep.done (some false, PUnit.unit)) else pure (ForInStep.yield (none, PUnit.unit)) : Sem (ForInStep (Option Bool × PUnit)))) : Sem (Option Bool × PUnit)).run P w = .ok (if eqFrom l m i k then none else some false, PUnit.unit) w := by
    intro k
    induction k with
    | zero => intro i _; simp [eqFrom]
    | succ k ih =>
      intro i hi
      have h1 : l[i]? = some (l.getD i 0) := by rw [List.getD, List.getElem?_eq_getElem (by omega)]; rfl
      have h2 : m[i]? = some (m.getD i 0) := by rw [List.getD, List.getElem?_eq_getElem (by omega)]; rfl
      rw [List.range'_succ, List.forIn_cons]
      simp only [Sem.run_bind, run_part_int w he l i _ h1, run_part_int w he m i _ h2, Result.andThen_ok, run_equalIn_int w d e .i64 .i64 _ _ he]
      rcases hb : (l.getD i 0 == m.getD i 0) with _ | _
      · simp only [Bool.not_false, if_true, Sem.run_pure, Result.andThen_ok, eqFrom, hb, Bool.false_and, Bool.false_eq_true, if_false]
      · have := ih (i + 1) (by omega)
        simp only [Bool.not_true, Bool.false_eq_true, if_false, Sem.run_pure, Result.andThen_ok, eqFrom, hb, Bool.true_and]
        exact this
  rw [show (n - 0 + 1 - 1) / 1 = n by omega]
  have := key n 0 (by omega)
  refine (congrArg (fun r : Result (Option Bool × PUnit) => r.andThen _) this).trans ?_
  have hE := eqFrom_iff l m n 0 (by omega) (by omega)
  rw [List.drop_zero, List.drop_zero] at hE
  rcases hq : eqFrom l m 0 n with _ | _
  · rw [hq] at hE
    have : (l == m) = false := by rw [beq_eq_false_iff_ne]; intro e; have := hE.2 e; cases this
    simp [this]
  · have : (l == m) = true := by rw [beq_iff_eq]; exact hE.1 hq
    simp [this]
theorem run_eql_arr (w : World) (n : Nat) (ht : P.underlying t = some (.array n e)) (he : P.underlying e = some (.int .i64)) (hz : ∀ w, (sizeOf e).run P w = .ok 1 w) (l m : List Int) (hl : l.length = n) (hm : m.length = n) :
    (binOp .eql t (.agg (l.map (Value.int .i64)).toArray) (.agg (m.map (Value.int .i64)).toArray)).run P w = .ok (.bool (l == m)) w := by
  rw [run_eql_struct, run_equalIn_arr w 9998 n ht he hz l m hl hm]
  rfl
end
end Go.KK

/- nodes: Unlock. -/
namespace Go.Proofs.YtfmkniakfgpgjaaGreatDoor
open Go.RowKit Go.KK Go.Shelf Go.Maps
set_option linter.unusedVariables false
set_option linter.unusedSimpArgs false

section
variable {w0 W : World} {Z : Nat → Prop} {sa bk : Nat} {S : KS} {ex cx : Int} {X : List ND}
/-- Unlock of what was locked. -/
def UnS (W : World) (eq : Bool) (c : Int) (e : Ending) (w' : World) : Prop := e = .returned (.tuple #[.int .i64 (if eq then c else 0), .int .i64 (if eq then 0 else 40)]) ∧ Below W.heap.size W w'
set_option maxHeartbeats 4000000 in
set_option maxRecDepth 100000 in
theorem l_unl (h : ArV W 122 sa X) {k' n' a' c v key nonce aad : Int} (hv : At X v (ndN 9 [k', n', a', c])) (h1 : hasB X key = true) (h2 : hasB X nonce = true) (h3 : hasB X aad = true) :
    Calls Tryz.prog 56 #[.pointer (some ⟨sa, 0, none⟩), .int .i64 key, .int .i64 nonce, .int .i64 aad, .int .i64 v] W (UnS W ([k', n', a'] == [key, nonce, aad]) c) := by
  have B1 := hid ((Below.refl W.heap.size W).alloc (Nat.le_refl _) (.cells #[.int .i64 key, .int .i64 nonce, .int .i64 aad, .int .i64 v] 3))
  have HK := hid (kno_any sa (W.alloc (.cells #[.int .i64 key, .int .i64 nonce, .int .i64 aad, .int .i64 v] 3)) (some ⟨W.heap.size, 0, none⟩) 4 4 [key, nonce, aad, v] (h.ext B1.out) (sla_row #[.int .i64 key, .int .i64 nonce, .int .i64 aad, .int .i64 v] (by unfold maxLen; simp)) (by omega))
  rw [kno_of (X := X) (l := [key, nonce, aad, v]) (fun y hy => by
    simp only [List.mem_cons, List.mem_nil_iff, or_false] at hy
    rcases hy with rfl | rfl | rfl | rfl
    · exact h1
    · exact h2
    · exact h3
    · exact hv.has)] at HK
  have HC := hid (cnode_any sa X (W.alloc (.cells #[.int .i64 key, .int .i64 nonce, .int .i64 aad, .int .i64 v] 3)) v 9 (h.ext B1.out))
  rw [nodeF_at hv, show ndIs X v 9 = true by unfold ndIs nodeE; rw [if_pos hv.has, nodeF_at hv]; rfl] at HC
  clear h hv h1 h2 h3
  unfold ndN at HC
  dsimp only at HC
  unfold UnS
  have HEQ := hid (fun (U : World) (l m : List Int) (hl : l.length = 3) (hm : m.length = 3) => run_eql_arr (P := Tryz.prog) (t := 145) (e := 3) U 3 Tryz.underlying145 Tryz.underlying3 (fun _ => by kernel_rfl) l m hl hm)
  rcases he : ([k', n', a'] == [key, nonce, aad]) with _ | _
  all_goals
    go_enter Tryz.func56, Tryz.ntmps56
    go_wp2_with fail
    refine HK.out.mono ?_
    rintro e w2 ⟨rfl, hw⟩
    subst hw
    go_wp2_with fail
    refine HC.out.mono ?_
    rintro e w3 ⟨A, cc, rfl, hs, hb⟩
    have hs4 : w3.ownsRow (W.alloc (.cells #[.int .i64 key, .int .i64 nonce, .int .i64 aad, .int .i64 v] 3)).heap.size 3 1 (.slice A 4 cc) [k', n', a', c].length ([k', n', a', c].map (.int .i64)) := hs
    obtain ⟨g, c', e1, -, -⟩ := own_block1 hs4 (by simp)
    injection e1 with e1 e2 e3
    subst e1; subst e3
    have B3 := hid (B1.out.trans (hb.mono B1.out.size))
    have l0 : w3.cell? ⟨g, 0, none⟩ = some (.int .i64 k') := by have h := rowI_at (i := 0) hs4 rfl; rwa [Nat.zero_add] at h
    have l1 : w3.cell? ⟨g, 1, none⟩ = some (.int .i64 n') := by have h := rowI_at (i := 1) hs4 rfl; rwa [Nat.zero_add] at h
    have l2 : w3.cell? ⟨g, 2, none⟩ = some (.int .i64 a') := by have h := rowI_at (i := 2) hs4 rfl; rwa [Nat.zero_add] at h
    have l3 : w3.cell? ⟨g, 3, none⟩ = some (.int .i64 c) := by have h := rowI_at (i := 3) hs4 rfl; rwa [Nat.zero_add] at h
    have hcc : 4 ≤ cc := (SlA.of_own hs4).2.nc
    have hcc3 : (3 : Int) ≤ (cc : Int) := by omega
    have hat : ∀ w, (Instr.arrayAt 145 (.slice (some ⟨g, 0, none⟩) 3 cc)).run Tryz.prog w = .ok (.pointer (some ⟨g, 0, none⟩)) w := fun w => run_arrayAt w 145 _ 3 _ 3 cc Tryz.underlying145 (Nat.le_refl _)
    have hnq : ∀ U, (binOp .neq 145 (.agg #[.int .i64 k', .int .i64 n', .int .i64 a']) (.agg #[.int .i64 key, .int .i64 nonce, .int .i64 aad])).run Tryz.prog U = .ok (.bool (!([k', n', a'] == [key, nonce, aad]))) U := fun U => by
      have h := run_equalIn_arr U 9998 3 Tryz.underlying145 Tryz.underlying3 (fun _ => by kernel_rfl) [k', n', a'] [key, nonce, aad] rfl rfl
      rw [run_neq_struct]
      exact (congrArg (fun r => Result.andThen r fun b w' => Result.ok (Value.bool !b) w') h).trans rfl
    rw [he] at hnq
    clear hs hs4 hb
    go_upto_region 4 with fail
    have HP := hid (show Below W.heap.size W (w3.alloc (.cells #[.int .i64 9, .int .i64 0, .string ⟨#[]⟩, .slice (some ⟨g, 0, none⟩) 4 cc] 64)) ∧ (w3.alloc (.cells #[.int .i64 9, .int .i64 0, .string ⟨#[]⟩, .slice (some ⟨g, 0, none⟩) 4 cc] 64)).cell? ⟨w3.heap.size, 3, none⟩ = some (.slice (some ⟨g, 0, none⟩) 4 cc) ∧ (w3.alloc (.cells #[.int .i64 9, .int .i64 0, .string ⟨#[]⟩, .slice (some ⟨g, 0, none⟩) 4 cc] 64)).cell? ⟨g, 0, none⟩ = some (.int .i64 k') ∧ (w3.alloc (.cells #[.int .i64 9, .int .i64 0, .string ⟨#[]⟩, .slice (some ⟨g, 0, none⟩) 4 cc] 64)).cell? ⟨g, 1, none⟩ = some (.int .i64 n') ∧ (w3.alloc (.cells #[.int .i64 9, .int .i64 0, .string ⟨#[]⟩, .slice (some ⟨g, 0, none⟩) 4 cc] 64)).cell? ⟨g, 2, none⟩ = some (.int .i64 a') ∧ (w3.alloc (.cells #[.int .i64 9, .int .i64 0, .string ⟨#[]⟩, .slice (some ⟨g, 0, none⟩) 4 cc] 64)).cell? ⟨g, 3, none⟩ = some (.int .i64 c) from by
      have hb := (Below.refl w3.heap.size w3).alloc (Nat.le_refl _) (.cells #[.int .i64 9, .int .i64 0, .string ⟨#[]⟩, .slice (some ⟨g, 0, none⟩) 4 cc] 64)
      exact ⟨B3.out.alloc B3.out.size _, by rw [cell_of_row _ w3.heap.size 3 _ _ (0, 0) (heap_alloc_new w3 _)]; rfl, (hb.cell (p := ⟨g, 0, none⟩) (block_lt_of_cell l0)).trans l0, (hb.cell (p := ⟨g, 1, none⟩) (block_lt_of_cell l1)).trans l1, (hb.cell (p := ⟨g, 2, none⟩) (block_lt_of_cell l2)).trans l2, (hb.cell (p := ⟨g, 3, none⟩) (block_lt_of_cell l3)).trans l3⟩)
    generalize w3.heap.size = b12 at *
    refine forget (R := fun V => Below W.heap.size W V ∧ V.cell? ⟨b12, 3, none⟩ = some (.slice (some ⟨g, 0, none⟩) 4 cc) ∧ V.cell? ⟨g, 0, none⟩ = some (.int .i64 k') ∧ V.cell? ⟨g, 1, none⟩ = some (.int .i64 n') ∧ V.cell? ⟨g, 2, none⟩ = some (.int .i64 a') ∧ V.cell? ⟨g, 3, none⟩ = some (.int .i64 c)) ?_ HP.out
    clear HP l0 l1 l2 l3 B3 B1
    rintro V ⟨hb, q3, l0, l1, l2, l3⟩
    have HB := hid hb
    clear hb
    go_wp2_with fail
    go_ret2
    exact ⟨rfl, HB.out⟩
end
end Go.Proofs.YtfmkniakfgpgjaaGreatDoor

