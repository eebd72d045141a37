import Derived.Test.YtfmkniakfgpgjaaGreatDoorY10
import Derived.Shelf.Strconv.ErrVarAll
import Derived.WalkSmall
import Derived.BigRegion
import Derived.Deep.CutRange
import Derived.Test.YtfmkniakfgpgjaaGreatDoorRows
import Derived.Test.YtfmkniakfgpgjaaGreatDoorShelf
import Derived.Shelf.Spec.TrailingZeros
import Derived.Shelf.Spec.SlicesInsert
import Derived.Shelf.Spec.SlicesInsertGrow
import Derived.Shelf.SlicesE.Clone
import Derived.Shelf.SlSorted.IsSorted
import Derived.Test.YtfmkniakfgpgjaaGreatDoorY01
import Derived.Test.YtfmkniakfgpgjaaGreatDoorY03
import Derived.Test.YtfmkniakfgpgjaaGreatDoorY02
import Derived.Test.YtfmkniakfgpgjaaGreatDoorY04
import Derived.Lib.SlicesCompact
import Derived.Deep.QuietTactic
import Derived.BigQuiet
import Derived.Deep.RegionHeld3
/- nodes: number, none. -/
namespace Go.Proofs.YtfmkniakfgpgjaaGreatDoor
open Go.RowKit Go.KK Go.Shelf Go.Maps
set_option linter.unusedVariables false
set_option linter.unusedSimpArgs false

theorem atoi_dig {v : Int} (h0 : 0 ≤ v) (h9 : v < 1000000000) : Lib.atoiAll (digB v).data.toList = .ok v := by
  have h := (numO_iff (s := digB v)).2 ⟨h0, h9, rfl⟩
  unfold numO at h
  rcases he : Lib.atoiAll (digB v).data.toList with u | _ | _
  · rw [he] at h
    simp only at h
    split at h
    · injection h with h; rw [h]
    · cases h
  · rw [he] at h; cases h
  · rw [he] at h; cases h
theorem atoi_okS {s : ByteArray} {v : Int} (hs : s.size ≤ 4000) (h : Lib.atoiAll s.data.toList = .ok v) (w : World) : Calls Tryz.prog 130 #[.string s] w fun e w' => e = .returned (.tuple #[.int .i64 v, .nilIface]) ∧ Below w.heap.size w w' := by
  refine (show Calls Tryz.prog 130 #[.string s] w (fun e w' => e = .returned (.tuple #[.int .i64 v, .nilIface]) ∧ (w' = w ∨ ∃ t, w' = Lib.bytesWorld w 5 t)) from Any.strconv_Atoi_ok Tryz.laysC172 s (by omega) v h w).mono ?_
  rintro e w' ⟨rfl, hw⟩
  refine ⟨rfl, ?_⟩
  rcases hw with rfl | ⟨t, rfl⟩
  · exact Below.refl _ _
  · exact Lib.bytesWorld_below _ _ _
section
variable {w0 W : World} {Z : Nat → Prop} {sa bk : Nat} {S : KS} {ex cx : Int} {X : List ND}
set_option maxHeartbeats 4000000 in
set_option maxRecDepth 100000 in
theorem k_number (h : LK w0 W Z sa bk S ex cx) (hT : Tb w0.heap.size w0) {t v : Int} (ht : At S.x t (txN (digB v))) (h0 : 0 ≤ v) (h9 : v < 1000000000) :
    Calls Tryz.prog 96 #[.pointer (some ⟨bk, 0, none⟩), .int .i64 t] W fun e w' => e = .returned (.tuple #[.int .i64 v, .bool true]) ∧ Below W.heap.size W w' := by
  have hc := h.c0
  have HN := hid (node_any sa S.x t W h.la.ar.vw)
  rw [nodeF_at ht] at HN
  unfold txN at HN
  dsimp only at HN
  have HBL := hid h.la.bl
  have HT := hid hT
  have HSZ := hid ((dig_nine h0).2 h9)
  have HAT := hid (atoi_okS (s := digB v) (by have := HSZ.out; omega) (atoi_dig h0 h9))
  have HIT := hid (fun (U : World) (hb : Below W.heap.size W U) => itoa_any v ⟨by omega, by omega⟩ U (by
    have hbl := HBL.out.trans (hb.mono HBL.out.size)
    exact Tb.up (HT.out.on hbl) hbl.size))
  have HDD := hid (show (⟨(Lib.itoa v).toArray⟩ : ByteArray) = digB v from rfl)
  rw [HDD.out] at HIT
  clear h hT ht h9 HDD
  generalize digB v = sv at *
  have hsz9 : sv.size ≤ 9 := HSZ.out
  have hsz9' : (sv.size : Int) ≤ 9 := by omega
  have hse : (sv.toList == sv.toList) = true := beq_self_eq_true _
  go_enter Tryz.func96, Tryz.ntmps96
  go_wp2_with fail
  refine HN.out.mono ?_
  rintro e w2 ⟨A, c, rfl, -, hb⟩
  have B2 := hid hb
  clear hb
  go_upto_region 2 with fail
  have HP := hid (show Below W.heap.size W (w2.alloc (.cells #[.int .i64 2, .int .i64 0, .string sv, .slice A 0 c] 64)) ∧ (w2.alloc (.cells #[.int .i64 2, .int .i64 0, .string sv, .slice A 0 c] 64)).heap[w2.heap.size]? = some (.cells #[.int .i64 2, .int .i64 0, .string sv, .slice A 0 c] 64 (0, 0)) from ⟨B2.out.alloc B2.out.size _, heap_alloc_new w2 _⟩)
  generalize w2.heap.size = b6 at *
  refine forget (R := fun V => Below W.heap.size W V ∧ V.heap[b6]? = some (.cells #[.int .i64 2, .int .i64 0, .string sv, .slice A 0 c] 64 (0, 0))) ?_ HP.out
  clear HP B2 hc
  rintro V ⟨hb, hg⟩
  have HB := hid hb; have HG := hid hg
  have q2 : V.cell? ⟨b6, 2, none⟩ = some (.string sv) := by rw [cell_of_row _ b6 2 _ _ (0, 0) hg]; rfl
  clear hb hg
  go_wp2_with fail
  refine (HAT.out V).mono ?_
  rintro e w3 ⟨rfl, hb⟩
  have HB3 := hid (HB.out.trans (hb.mono HB.out.size))
  have HG3 := hid ((hb.block b6 (Array.getElem?_eq_some_iff.1 HG.out).1).trans HG.out)
  clear hb q2 HB HG
  have HCX := hid (fun (U : World) (hU : Below w3.heap.size w3 U) => (show U.cell? ⟨b6, 0, none⟩ = some (.int .i64 2) ∧ U.cell? ⟨b6, 2, none⟩ = some (.string sv) from by
    have hg := (hU.block b6 (Array.getElem?_eq_some_iff.1 HG3.out).1).trans HG3.out
    exact ⟨by rw [cell_of_row _ b6 0 _ _ (0, 0) hg]; rfl, by rw [cell_of_row _ b6 2 _ _ (0, 0) hg]; rfl⟩))
  have DZ := hid (Below.refl w3.heap.size w3)
  have D0 := hid (below_drew DZ.out)
  have HI3 := hid (fun (U : World) (hb : Below w3.heap.size w3 U) => HIT.out U (HB3.out.trans (hb.mono HB3.out.size)))
  obtain ⟨q0, q2⟩ := HCX.out _ DZ.out
  go_upto_region 3 with fail
  go_region_held3 (fun U => U.cell? ⟨b6, 0, none⟩ = some (.int .i64 2) ∧ U.cell? ⟨b6, 2, none⟩ = some (.string sv)) (first | exact HCX.out _ DZ.out | exact HCX.out _ D0.out | exact HCX.out _ D5.out | go_keep) (first
    | (go_at_call 82; refine (HI3.out _ D0.out).mono ?_; rintro e5 w5 ⟨s5, rfl, hs5, b5⟩; subst hs5; have D5 := hid (D0.out.trans (b5.mono D0.out.size)); clear b5)
    | fail)
  all_goals
    go_wp2_with fail
    go_ret2
    exact ⟨rfl, HB3.out.trans (D5.out.mono HB3.out.size)⟩
end
end Go.Proofs.YtfmkniakfgpgjaaGreatDoor

/- nodes: none; boxes made by callees. -/
namespace Go.Proofs.YtfmkniakfgpgjaaGreatDoor
open Go.RowKit Go.KK Go.Shelf Go.Maps
set_option linter.unusedVariables false
set_option linter.unusedSimpArgs false

set_option maxHeartbeats 1000000 in
theorem ix_none (p : Int → Bool) {q1 : Value} (A : Option Addr) (n c : Nat) (l : List Int) (W : World) (hl : SlA W 1 A n c (l.map (.int .i64))) (hn : n ≤ 2147483648)
    (hcl : ∀ W', Below W.heap.size W W' → ∀ x ∈ l, Calls Tryz.prog 131 #[.int .i64 x, q1] W' fun e w' => e = .returned (.bool (p x)) ∧ Below W'.heap.size W' w') :
    Calls Tryz.prog 78 #[.slice A n c, .func (.func 131) #[] #[q1]] W fun e w' => (∃ k : Int, e = .returned (.int .i64 k) ∧ decide (0 ≤ k) = l.any p) ∧ Below W.heap.size W w' := by
  have HS := hid hl; have HL := hid hl.lenI; have HCL := hid hcl
  clear hl hcl
  go_enter Tryz.func78, Tryz.ntmps78
  go_wp2
  go_loopw [8] (fun i wr => ∃ j : Nat, i = .int .i64 j ∧ j ≤ n ∧ Hid (l.any p = (l.drop j).any p) ∧ Hid (Below W.heap.size W wr)) (fun i _ => n - (intOf i).toNat)
  case atStart => exact ⟨0, rfl, by omega, hid rfl, hid (Below.refl _ _)⟩
  case round =>
    obtain ⟨j, hi, hj, HJ, HB⟩ := hrel
    subst hi
    by_cases hlt : j < n
    · obtain ⟨b1, o, z, rfl, hz, hc⟩ := (HS.out.ext HB.out).elemI hlt
      have hlt' : (j : Int) < (n : Int) := by omega
      have HD := hid (any_step (p := p) hz)
      have HC := hid (HCL.out wr HB.out z (List.mem_of_getElem? hz))
      clear hz
      rcases hh : p z with _ | _
      · have HF := hid (show l.any p = (l.drop (j + 1)).any p by rw [HJ.out, HD.out, hh]; rfl)
        rw [hh] at HC
        go_wp2_with (go_at_call 131; refine HC.out.mono ?_; rintro e w' ⟨rfl, hb⟩; have HB2 := hid (HB.out.trans (hb.mono HB.out.size)); clear hb)
        go_roundw
        case rel => exact ⟨j + 1, by go_num, by omega, HF, HB2⟩
        case measure => simp [intOf]; omega
      · have HF := hid (show l.any p = true by rw [HJ.out, HD.out, hh]; rfl)
        rw [hh] at HC
        go_wp2_with (go_at_call 131; refine HC.out.mono ?_; rintro e w' ⟨rfl, hb⟩; have HB2 := hid (HB.out.trans (hb.mono HB.out.size)); clear hb)
        go_ret
        exact ⟨⟨j, rfl, by rw [HF.out, decide_eq_true (by omega)]⟩, HB2.out⟩
    · have HF := hid (show l.any p = false by rw [HJ.out, List.drop_of_length_le (by have := HL.out; omega)]; rfl)
      go_wp2
      go_ret
      exact ⟨⟨-1, rfl, by rw [HF.out]; rfl⟩, HB.out⟩
theorem cf_none (p : Int → Bool) {q1 : Value} (A : Option Addr) (n c : Nat) (l : List Int) (W : World) (hl : SlA W 1 A n c (l.map (.int .i64))) (hn : n ≤ 2147483648)
    (hcl : ∀ W', Below W.heap.size W W' → ∀ x ∈ l, Calls Tryz.prog 131 #[.int .i64 x, q1] W' fun e w' => e = .returned (.bool (p x)) ∧ Below W'.heap.size W' w') :
    Calls Tryz.prog 38 #[.slice A n c, .func (.func 131) #[] #[q1]] W fun e w' => e = .returned (.bool (l.any p)) ∧ Below W.heap.size W w' := by
  have HX := hid (ix_none p A n c l W hl hn hcl)
  clear hl hcl
  go_enter Tryz.func38, Tryz.ntmps38
  go_wp2_with fail
  refine HX.out.mono ?_
  rintro e w' ⟨⟨k, rfl, hk⟩, hw⟩
  have HK := hid hk; have HW := hid hw
  clear hk hw
  go_wp2
  go_ret
  exact ⟨by rw [← HK.out]; rfl, HW.out⟩
section
variable {w0 W V V' : World} {Z Z' : Nat → Prop} {sa bk b : Nat} {S : KS} {ex cx : Int} {bs : List (Nat × Obj)} {v : Value} {l : List Int} {P : World → Prop}
set_option maxHeartbeats 2000000 in
theorem none1 (h : LK w0 W Z sa bk S ex cx) (hb : W.cell? ⟨b, 0, none⟩ = some (.pointer (some ⟨bk, 0, none⟩))) {t : Int} (ht : At S.x t (txN ⟨#[]⟩)) :
    Calls Tryz.prog 131 #[.int .i64 t, .pointer (some ⟨b, 0, none⟩)] W fun e w' => e = .returned (.bool false) ∧ Below W.heap.size W w' := by
  have hc := h.c0
  have HN := hid (node_any sa S.x t W h.la.ar.vw)
  rw [nodeF_at ht, show nodeE S.x t = 0 by unfold nodeE; rw [if_pos ht.has]] at HN
  unfold txN at HN
  dsimp only at HN
  clear h ht
  go_enter Tryz.func131, Tryz.ntmps131
  go_wp2_with fail
  refine HN.out.mono ?_
  rintro e w2 ⟨A, c, rfl, -, hb2⟩
  have B2 := hid hb2
  clear hb2
  go_wp2_with fail
  go_ret
  exact ⟨rfl, B2.out.alloc B2.out.size _⟩
theorem any_false {α : Type} (l : List α) : l.any (fun _ => false) = false := by induction l with | nil => rfl | cons a l ih => rw [List.any_cons, ih]; rfl
theorem k_none (h : LK w0 W Z sa bk S ex cx) {A : Option Addr} {n c : Nat} (hl : SlA W 1 A n c (l.map (.int .i64))) (hn : n ≤ 1000) (hall : ∀ t ∈ l, At S.x t (txN ⟨#[]⟩)) :
    Calls Tryz.prog 97 #[.pointer (some ⟨bk, 0, none⟩), .slice A n c] W fun e w' => e = .returned (.bool true) ∧ Below W.heap.size W w' := by
  have B1 := hid ((Below.refl W.heap.size W).alloc (Nat.le_refl _) (.cells #[.pointer (some ⟨bk, 0, none⟩)] 80))
  have HCF := hid (cf_none (fun _ => false) (q1 := .pointer (some ⟨W.heap.size, 0, none⟩)) A n c l (W.alloc (.cells #[.pointer (some ⟨bk, 0, none⟩)] 80)) (hl.ext B1.out) (by omega) fun U hU t ht => none1 (h.ext (B1.out.trans (hU.mono B1.out.size))) (by rw [cell_of_row _ W.heap.size 0 _ _ (0, 0) ((HasO.new _ _).bel hU)]; rfl) (hall t ht))
  rw [any_false] at HCF
  clear h hl hall
  go_enter Tryz.func97, Tryz.ntmps97
  go_wp2_with fail
  refine HCF.out.mono ?_
  rintro e w2 ⟨rfl, hb2⟩
  have B2 := hid (B1.out.trans (hb2.mono B1.out.size))
  clear hb2
  go_wp2_with fail
  go_ret
  exact ⟨rfl, B2.out⟩
/-- A row in its block, which is known whole. -/
theorem own_obj {B : Nat} {T : TypeId} {n : Nat} {xs : List Value} (h : W.ownsRow B T 1 v n xs) (hn : 0 < n) : ∃ g c o, v = .slice (some ⟨g, 0, none⟩) n c ∧ B ≤ g ∧ HasO o g W ∧ ∀ V, HasO o g V → V.ownsRow B T 1 (.slice (some ⟨g, 0, none⟩) n c) n xs := by
  obtain ⟨h0, h2⟩ := h
  rcases h2 with ⟨_, rfl⟩ | ⟨g, cap, cur, rfl, h1, h2, h3⟩
  · omega
  · exact ⟨g, cap, _, rfl, h1, h2, fun V hV => ⟨h0, .inr ⟨g, cap, cur, rfl, h1, hV, h3⟩⟩⟩
/-- A box that a callee made. -/
theorem GM.add (h : GM w0 W V Z Z' sa bk bs v l S ex cx P) (hb : Below V.heap.size V V') {g : Nat} {o : Obj} (hg : V.heap.size ≤ g) (ho : HasO o g V') : GM w0 W V' Z Z' sa bk ((g, o) :: bs) v l S ex cx P := by
  have h2 := h.ext hb
  have sz := h.m.t.size
  refine ⟨h2.lk, fun p hp => ?_, h2.un, fun b hb' => ⟨(h2.nu b hb').1, fun p hp => ?_⟩, h2.fu, h2.m, h2.m0⟩
  · rcases List.mem_cons.1 hp with rfl | hp
    · exact ⟨ho, fun hz => hz.elim (fun hz => by have := h.lk.la.ar.zlt _ hz; simp only at this; omega) (fun e => by have := h.lk.lt; simp only at e; omega), by show W.heap.size ≤ g; omega⟩
    · exact h2.bx p hp
  · rcases List.mem_cons.1 hp with rfl | hp
    · have := (h.un.lt b hb').2; show b ≠ g; omega
    · exact (h2.nu b hb').2 p hp
/-- The first box is turned. -/
theorem GM.put {b4 : Nat} {cs : Array Value} {T : TypeId} (h : GM w0 W V Z Z' sa bk ((b4, .cells cs T (0, 0)) :: bs) v l S ex cx P) (hd : ∀ p ∈ bs, p.1 ≠ b4) (o : Nat) (u : Value) : GM w0 W (V.setCell ⟨b4, o, none⟩ u) Z Z' sa bk ((b4, .cells (cs.setIfInBounds o u) T (0, 0)) :: bs) v l S ex cx P := by
  obtain ⟨a1, a2, a3⟩ := h.bx _ (List.mem_cons_self ..)
  simp only at a1 a2 a3
  have hb : ∀ b, b ≠ b4 → (V.setCell ⟨b4, o, none⟩ u).heap[b]? = V.heap[b]? := fun b hne => Below.heap_setCell _ _ _ _ hne
  obtain ⟨R, r1, r2⟩ := h.fu
  refine ⟨h.lk.setB u a2 (Nat.le_trans h.m0 a3), fun p hp => ?_, own_block h.un fun b e => hb b ((h.nu b e).2 _ (List.mem_cons_self ..)), fun b e => ⟨(h.nu b e).1, fun p hp => ?_⟩, ⟨R, r1, fun V2 hv => r2 V2 fun b hr => (hv b hr).trans (hb b (by have := (r1 b hr).2; omega))⟩, h.m.setN u a3, h.m0⟩
  · rcases List.mem_cons.1 hp with rfl | hp
    · exact ⟨heap_setCell_same _ b4 o _ _ _ a1, a2, a3⟩
    · obtain ⟨c1, c2, c3⟩ := h.bx p (List.mem_cons_of_mem _ hp)
      exact ⟨(hb p.1 (hd p hp)).trans c1, c2, c3⟩
  · rcases List.mem_cons.1 hp with rfl | hp
    · exact (h.nu b e).2 (b4, .cells cs T (0, 0)) (List.mem_cons_self ..)
    · exact (h.nu b e).2 p (List.mem_cons_of_mem _ hp)
theorem GM.fz (h : GM w0 W V Z Z' sa bk bs v l S ex cx P) {b : Nat} {cs : Array Value} {T : TypeId} (hp : (b, .cells cs T (0, 0)) ∈ bs) (o : Nat) : V.frozen? ⟨b, o, none⟩ = false := frozen_of_row V b o _ _ (h.bx _ hp).1
theorem GM.has (h : GM w0 W V Z Z' sa bk bs v l S ex cx P) {b : Nat} {o : Obj} (hp : (b, o) ∈ bs) : HasO o b V := (h.bx _ hp).1
end
end Go.Proofs.YtfmkniakfgpgjaaGreatDoor

/- nodes: the node of a content. -/
namespace Go.Proofs.YtfmkniakfgpgjaaGreatDoor
open Go.RowKit Go.KK Go.Shelf Go.Maps
set_option linter.unusedVariables false
set_option linter.unusedSimpArgs false

/-- A node that can be locked. -/
def TnG (n : TN) : Prop := (n.k = 0 ∨ n.k = 1 ∨ n.k = 2) ∧ ∀ i ∈ n.u, 0 ≤ i ∧ i < 1000000000
/-- A row that stays where its boxes do. -/
theorem row_box {W : World} {B : Nat} {A : Option Addr} {c : Nat} {us : List Int} (h : W.ownsRow B 3 1 (.slice A us.length c) us.length (us.map (.int .i64))) : ∃ BU : List (Nat × Obj), (∀ p ∈ BU, B ≤ p.1 ∧ HasO p.2 p.1 W) ∧ BU.length ≤ 1 ∧ ∀ V, (∀ p ∈ BU, HasO p.2 p.1 V) → SlA V 1 A us.length c (us.map (.int .i64)) := by
  rcases us with _ | ⟨u, us⟩
  · have hs := (SlA.of_own h).2
    exact ⟨[], fun p hp => (by cases hp), by simp, fun V _ => ⟨hs.nc, hs.cm, hs.len, fun j u hj => by simp at hj⟩⟩
  · obtain ⟨g, c', o, e, h1, h2, h3⟩ := own_obj h (by simp)
    injection e with e1 e2 e3
    subst e1; subst e3
    refine ⟨[(g, o)], fun p hp => ?_, by simp, fun V hV => (SlA.of_own (h3 V (hV (g, o) (List.mem_cons_self ..)))).2⟩
    rw [List.mem_singleton] at hp
    subst hp
    exact ⟨h1, h2⟩
section
variable {w0 W V V' : World} {Z : Nat → Prop} {sa bk : Nat} {S : KS} {ex cx : Int} {bs : List (Nat × Obj)} {v : Value} {l : List Int} {P : World → Prop}
theorem GM.adds (h : GM w0 W V Z Z sa bk bs v l S ex cx P) (hb : Below V.heap.size V V') : ∀ {BU : List (Nat × Obj)}, (∀ p ∈ BU, V.heap.size ≤ p.1 ∧ HasO p.2 p.1 V') → GM w0 W V' Z Z sa bk (BU ++ bs) v l S ex cx P
  | [], _ => h.ext hb
  | p :: BU, hp => by
    have h2 := GM.adds h hb (BU := BU) (fun q hq => hp q (List.mem_cons_of_mem _ hq))
    obtain ⟨p1, p2⟩ := hp p (List.mem_cons_self ..)
    have h1 := h.add hb p1 p2
    exact ⟨h2.lk, fun q hq => by
      rcases List.mem_cons.1 hq with rfl | hq
      · exact h1.bx _ (List.mem_cons_self ..)
      · exact h2.bx q hq, h2.un, fun b hb' => ⟨(h2.nu b hb').1, fun q hq => by
      rcases List.mem_cons.1 hq with rfl | hq
      · exact (h1.nu b hb').2 _ (List.mem_cons_self ..)
      · exact (h2.nu b hb').2 q hq⟩, h2.fu, h2.m, h2.m0⟩
theorem nd_a {b4 : Nat} {us : List Int} {Au : Option Addr} {cu : Nat} {w5 V3 : World} (h : GM w0 W V3 Z Z sa bk bs v l S ex cx P) (h4 : b4 < V3.heap.size) (D : Below V3.heap.size V3 w5) (s5 : w5.ownsRow V3.heap.size 3 1 (.slice Au us.length cu) us.length (us.map (.int .i64))) :
    ∃ b8 Au' cu' BU, Value.pointer (some ⟨w5.heap.size, 0, none⟩) = .pointer (some ⟨b8, 0, none⟩) ∧ GM w0 W (w5.alloc (.cells #[.int .i64 3, .int .i64 0, .string ⟨#[]⟩, .slice Au us.length cu] 64)) Z Z sa bk ((b8, .cells #[.int .i64 3, .int .i64 0, .string ⟨#[]⟩, .slice Au' us.length cu'] 64 (0, 0)) :: (BU ++ bs)) v l S ex cx P ∧ (∀ V, (∀ p ∈ BU, HasO p.2 p.1 V) → SlA V 1 Au' us.length cu' (us.map (.int .i64))) ∧ (∀ p ∈ BU, b4 ≠ p.1) ∧ b4 ≠ b8 := by
  obtain ⟨BU, u1, -, u3⟩ := row_box s5
  have := D.size
  exact ⟨_, Au, cu, BU, rfl, (h.adds D u1).push _, u3, fun p hp => by have := (u1 p hp).1; omega, by omega⟩
theorem nd_b {b4 : Nat} {us : List Int} {Au : Option Addr} {cu : Nat} {w5 V3 : World} (h : GM w0 W V3 Z Z sa bk bs v l S ex cx P) (h4 : b4 < V3.heap.size) (D : Below (V3.alloc (.cells #[.int .i64 0, .int .i64 0, .string ⟨#[]⟩, .slice none 0 0] 64)).drew.heap.size (V3.alloc (.cells #[.int .i64 0, .int .i64 0, .string ⟨#[]⟩, .slice none 0 0] 64)).drew w5) (s5 : w5.ownsRow (V3.alloc (.cells #[.int .i64 0, .int .i64 0, .string ⟨#[]⟩, .slice none 0 0] 64)).drew.heap.size 3 1 (.slice Au us.length cu) us.length (us.map (.int .i64))) :
    ∃ b8 Au' cu' BU, Value.pointer (some ⟨V3.heap.size, 0, none⟩) = .pointer (some ⟨b8, 0, none⟩) ∧ GM w0 W ((((w5.setCell ⟨V3.heap.size, 0, none⟩ (.int .i64 3)).setCell ⟨V3.heap.size, 1, none⟩ (.int .i64 0)).setCell ⟨V3.heap.size, 2, none⟩ (.string ⟨#[]⟩)).setCell ⟨V3.heap.size, 3, none⟩ (.slice Au us.length cu)) Z Z sa bk ((b8, .cells #[.int .i64 3, .int .i64 0, .string ⟨#[]⟩, .slice Au' us.length cu'] 64 (0, 0)) :: (BU ++ bs)) v l S ex cx P ∧ (∀ V, (∀ p ∈ BU, HasO p.2 p.1 V) → SlA V 1 Au' us.length cu' (us.map (.int .i64))) ∧ (∀ p ∈ BU, b4 ≠ p.1) ∧ b4 ≠ b8 := by
  obtain ⟨BU, u1, -, u3⟩ := row_box s5
  have hz : (V3.alloc (.cells #[.int .i64 0, .int .i64 0, .string ⟨#[]⟩, .slice none 0 0] 64)).drew.heap.size = V3.heap.size + 1 := size_al
  have h1 := h.push (.cells #[.int .i64 0, .int .i64 0, .string ⟨#[]⟩, .slice none 0 0] 64)
  have h2 := (h1.ext (below_drew (Below.refl _ _))).adds D u1
  have h3 := h2.sub (bs' := (V3.heap.size, .cells #[.int .i64 0, .int .i64 0, .string ⟨#[]⟩, .slice none 0 0] 64 (0, 0)) :: (BU ++ bs)) (fun p hp => by
    rcases List.mem_cons.1 hp with rfl | hp
    · exact List.mem_append_right _ (List.mem_cons_self ..)
    · rcases List.mem_append.1 hp with hp | hp
      · exact List.mem_append_left _ hp
      · exact List.mem_append_right _ (List.mem_cons_of_mem _ hp))
  have hd : ∀ p ∈ BU ++ bs, p.1 ≠ V3.heap.size := fun p hp => by
    rcases List.mem_append.1 hp with hp | hp
    · have := (u1 p hp).1; omega
    · have := (h.has (b := p.1) (o := p.2) hp).lt; omega
  exact ⟨_, Au, cu, BU, rfl, (((h3.put hd 0 _).put hd 1 _).put hd 2 _).put hd 3 _, u3, fun p hp => by have := (u1 p hp).1; omega, by omega⟩
/-- What node leaves. -/
def NoS (w0 W : World) (Z : Nat → Prop) (sa bk : Nat) (S : KS) (ex cx : Int) (n : TN) (e : Ending) (w' : World) : Prop := ∃ v, e = .returned (.tuple #[tnV (nrm n) v, .bool true]) ∧ w'.ownsRow W.heap.size 3 1 v n.u.length (n.u.map (.int .i64)) ∧ (∀ b, v.ownBlock = some b → ¬ Zk Z bk b) ∧ LK w0 w' Z sa bk S ex cx ∧ Mv (Zk Z bk) W (Zk Z bk) w'
set_option maxHeartbeats 8000000 in
set_option maxRecDepth 100000 in
theorem k_node (h : LK w0 W Z sa bk S ex cx) (hT : Tb w0.heap.size w0) {c : Int} {n : TN} {o ki li : Int} {us : List Int} (hc : ContAt S.x c n o ki li us) (hg : TnG n) (hul : n.u.length ≤ 1000) :
    Calls Tryz.prog 57 #[.pointer (some ⟨bk, 0, none⟩), .int .i64 c] W (NoS w0 W Z sa bk S ex cx n) := by
  obtain ⟨i0, hi, hz0, hz1, hz2⟩ := info_parts Tryz.infoInt
  have HT := hid hT; have HC := hid hc; have HGD := hid hg; have HUL := hid hul
  have hg0 := hid (show GM w0 W (W.alloc (.cells #[.int .i64 0, .int .i64 0, .int .i64 0, .int .i64 0, .int .i64 0, .slice none 0 0] 46)) Z Z sa bk [(W.heap.size, .cells #[.int .i64 0, .int .i64 0, .int .i64 0, .int .i64 0, .int .i64 0, .slice none 0 0] 46 (0, 0))] (.slice none 0 0) [] S ex cx (fun _ => True) from
    (show GM w0 W W Z Z sa bk [] (.slice none 0 0) [] S ex cx (fun _ => True) from ⟨h, fun p hp => (by cases hp), World.ownsRow_nil _ _ _ _, fun b hb => (by cases hb), ⟨fun _ => False, fun b hb => hb.elim, fun _ _ => trivial⟩, Mv.below (Below.refl _ _), h.la.bl.size⟩).push _)
  have HNC := hid (fun (U : World) (hU : ArV U 122 sa S.x) => node_any sa S.x c U hU)
  have HNL := hid (fun (U : World) (hU : ArV U 122 sa S.x) => node_any sa S.x li U hU)
  rw [nodeF_at hc.hc] at HNC
  rw [nodeF_at hc.hl] at HNL
  obtain ⟨p1, p2, p3, p4, hp⟩ : ∃ p1 p2 p3 p4, ptsF n o = [p1, p2, p3, p4] := by
    have h4 : (ptsF n o).length = 4 := by unfold ptsF; split <;> (try split) <;> rfl
    match ptsF n o, h4 with
    | [p1, p2, p3, p4], _ => exact ⟨p1, p2, p3, p4, rfl⟩
  rw [hp] at HNC
  have HP := hid hp
  unfold ndN at HNC HNL
  dsimp only [List.cons_append, List.nil_append] at HNC HNL
  clear h hT hc hg hul hp
  go_enter Tryz.func57, Tryz.ntmps57
  go_upto_region 1 with fail
  generalize hb4 : W.heap.size = b4 at hg0 ⊢
  have HB4 := hid hb4
  clear hb4
  refine forget (R := fun V => GM w0 W V Z Z sa bk [(b4, .cells #[.int .i64 0, .int .i64 0, .int .i64 0, .int .i64 0, .int .i64 0, .slice none 0 0] 46 (0, 0))] (.slice none 0 0) [] S ex cx (fun _ => True)) ?_ hg0.out
  clear hg0
  intro V1 h1
  have HG1 := hid h1
  clear h1
  have hcc := HG1.out.lk.c0
  go_wp2_with fail
  refine (HNC.out _ HG1.out.lk.la.ar.vw).mono ?_
  rintro e w2 ⟨A6, c6, rfl, hs, hb⟩
  obtain ⟨g6, c6', o6, e6, hlo6, ho6, hx6⟩ := own_obj hs (by simp)
  injection e6 with e61 e62 e63
  subst e61; subst e63
  have HX6 := hid (fun (U : World) (hU : HasO o6 g6 U) => (SlA.of_own (hx6 U hU)).2)
  have HG2 := hid ((HG1.out.add hb hlo6 ho6).push (.cells #[.int .i64 3, .int .i64 0, .string ⟨#[]⟩, .slice (some ⟨g6, 0, none⟩) 6 c6] 64))
  have HNE := hid (show b4 ≠ g6 ∧ b4 < w2.heap.size ∧ g6 < w2.heap.size from by
    have l4 := (HG1.out.has (List.mem_cons_self ..)).lt
    exact ⟨by omega, Nat.lt_of_lt_of_le l4 hb.size, ho6.lt⟩)
  clear hs hb hlo6 ho6 hx6 HG1 hcc
  dsimp only [List.length_cons, List.length_nil] at HX6
  go_upto_region 2 with fail
  generalize w2.heap.size = b6 at *
  refine forget (R := fun V => GM w0 W V Z Z sa bk ((b6, .cells #[.int .i64 3, .int .i64 0, .string ⟨#[]⟩, .slice (some ⟨g6, 0, none⟩) 6 c6] 64 (0, 0)) :: (g6, o6) :: [(b4, .cells #[.int .i64 0, .int .i64 0, .int .i64 0, .int .i64 0, .int .i64 0, .slice none 0 0] 46 (0, 0))]) (.slice none 0 0) [] S ex cx (fun _ => True)) ?_ HG2.out
  clear HG2
  intro V3 h3
  have HG3 := hid h3
  clear h3
  have q0 : V3.cell? ⟨b6, 0, none⟩ = some (.int .i64 3) := HG3.out.cell (List.mem_cons_self ..) 0
  have q3 : V3.cell? ⟨b6, 3, none⟩ = some (.slice (some ⟨g6, 0, none⟩) 6 c6) := HG3.out.cell (List.mem_cons_self ..) 3
  have H43 := hid (HG3.out.has (b := b4) (o := .cells #[.int .i64 0, .int .i64 0, .int .i64 0, .int .i64 0, .int .i64 0, .slice none 0 0] 46 (0, 0)) (by simp)).lt
  go_upto_region 4 with fail
  have HEX := hid (fun (U : World) (hU : Below V3.heap.size V3 U) => HG3.out.ext hU)
  have HCE := hid (fun (U : World) (hU : Below V3.heap.size V3 U) => (show U.cell? ⟨bk, 0, none⟩ = some (.pointer (some ⟨sa, 0, none⟩)) ∧ U.cell? ⟨b6, 3, none⟩ = some (.slice (some ⟨g6, 0, none⟩) 6 c6) ∧ U.cell? ⟨g6, 5, none⟩ = some (.int .i64 li) from
    ⟨(HEX.out U hU).lk.c0, (HEX.out U hU).cell (List.mem_cons_self ..) 3, by
      obtain ⟨b', o', e, hc⟩ := (HX6.out U ((HEX.out U hU).has (by simp))).cells 5 (.int .i64 li) rfl
      injection e with e
      injection e with e1 e2
      subst e1; subst e2
      simpa using hc⟩))
  have DZ := hid (Below.refl V3.heap.size V3)
  have D0 := hid (below_drew DZ.out)
  have DA := hid (below_drew (below_al (o := .cells #[.int .i64 0, .int .i64 0, .string ⟨#[]⟩, .slice none 0 0] 64) DZ.out))
  obtain ⟨r0, r1, r2⟩ := HCE.out _ DZ.out
  go_cut [8] (fun v U => ∃ b8 Au cu BU, v = .pointer (some ⟨b8, 0, none⟩) ∧ GM w0 W U Z Z sa bk ((b8, .cells #[.int .i64 3, .int .i64 0, .string ⟨#[]⟩, .slice Au us.length cu] 64 (0, 0)) :: (BU ++ ((b6, .cells #[.int .i64 3, .int .i64 0, .string ⟨#[]⟩, .slice (some ⟨g6, 0, none⟩) 6 c6] 64 (0, 0)) :: (g6, o6) :: [(b4, .cells #[.int .i64 0, .int .i64 0, .int .i64 0, .int .i64 0, .int .i64 0, .slice none 0 0] 46 (0, 0))]))) (.slice none 0 0) [] S ex cx (fun _ => True) ∧ (∀ V, (∀ p ∈ BU, HasO p.2 p.1 V) → SlA V 1 Au us.length cu (us.map (.int .i64))) ∧ (∀ p ∈ BU, b4 ≠ p.1) ∧ b4 ≠ b8)
  case first =>
    go_region_held3 (fun U => U.cell? ⟨bk, 0, none⟩ = some (.pointer (some ⟨sa, 0, none⟩)) ∧ U.cell? ⟨b6, 3, none⟩ = some (.slice (some ⟨g6, 0, none⟩) 6 c6) ∧ U.cell? ⟨g6, 5, none⟩ = some (.int .i64 li)) (first | exact HCE.out _ DZ.out | exact HCE.out _ D0.out | exact HCE.out _ DA.out | exact HCE.out _ D5a.out | exact HCE.out _ (below_al D5a.out) | exact HCE.out _ D5b.out | exact HCE.out _ (((( D5b.out.setCell (p := ⟨V3.heap.size, 0, none⟩) (Nat.le_refl _) _).setCell (p := ⟨V3.heap.size, 1, none⟩) (Nat.le_refl _) _).setCell (p := ⟨V3.heap.size, 2, none⟩) (Nat.le_refl _) _).setCell (p := ⟨V3.heap.size, 3, none⟩) (Nat.le_refl _) _) | go_keep) (first
      | (go_at_call 31; refine (HNL.out _ (HEX.out _ D0.out).lk.la.ar.vw).mono ?_; rintro e5 w5 ⟨Au, cu, rfl, hs5, b5⟩; have D5a := hid (D0.out.trans (b5.mono D0.out.size)); have S5 := hid hs5; clear hs5 b5)
      | (go_at_call 31; refine (HNL.out _ (HEX.out _ DA.out).lk.la.ar.vw).mono ?_; rintro e5 w5 ⟨Au, cu, rfl, hs5, b5⟩; have D5b := hid (DA.out.trans (b5.mono DA.out.size)); have S5 := hid hs5; have B5 := hid b5; have X5 := hid ((show HasO (.cells #[.int .i64 0, .int .i64 0, .string ⟨#[]⟩, .slice none 0 0] 64 (0, 0)) V3.heap.size (V3.alloc (.cells #[.int .i64 0, .int .i64 0, .string ⟨#[]⟩, .slice none 0 0] 64)).drew from HasO.new _ _).bel b5); have k0 : w5.cell? ⟨V3.heap.size, 0, none⟩ = some (.int .i64 0) := (by rw [cell_of_row _ V3.heap.size 0 _ _ (0, 0) X5.out]; rfl); have k1 : w5.cell? ⟨V3.heap.size, 1, none⟩ = some (.int .i64 0) := (by rw [cell_of_row _ V3.heap.size 1 _ _ (0, 0) X5.out]; rfl); have k2 : w5.cell? ⟨V3.heap.size, 2, none⟩ = some (.string ⟨#[]⟩) := (by rw [cell_of_row _ V3.heap.size 2 _ _ (0, 0) X5.out]; rfl); have k3 : w5.cell? ⟨V3.heap.size, 3, none⟩ = some (.slice none 0 0) := (by rw [cell_of_row _ V3.heap.size 3 _ _ (0, 0) X5.out]; rfl); have f0 := frozen_of_row w5 V3.heap.size 0 _ _ X5.out; have f1 := frozen_of_row w5 V3.heap.size 1 _ _ X5.out; have f2 := frozen_of_row w5 V3.heap.size 2 _ _ X5.out; have f3 := frozen_of_row w5 V3.heap.size 3 _ _ X5.out; clear hs5 b5))
    all_goals
      go_wp2_with fail
      go_meet
      first
        | exact nd_a HG3.out H43.out D5a.out S5.out
        | exact nd_b HG3.out H43.out B5.out S5.out
  case rest =>
    obtain ⟨b8, Au, cu, BU, rfl, hg4, hsu, hn4, hn8⟩ := hcut
    have HSU := hid hsu
    have HD := hid (show ∀ p ∈ (((b8, .cells #[.int .i64 3, .int .i64 0, .string ⟨#[]⟩, .slice Au us.length cu] 64 (0, 0)) :: (BU ++ [(b6, .cells #[.int .i64 3, .int .i64 0, .string ⟨#[]⟩, .slice (some ⟨g6, 0, none⟩) 6 c6] 64 (0, 0)), (g6, o6)]))), p.1 ≠ b4 from fun p hp => by
      rcases List.mem_cons.1 hp with rfl | hp
      · exact fun e => hn8 e.symm
      · rcases List.mem_append.1 hp with hp | hp
        · exact fun e => hn4 p hp e.symm
        · simp only [List.mem_cons, List.mem_nil_iff, or_false] at hp
          rcases hp with rfl | rfl
          · have := HNE.out.2.1; show b6 ≠ b4; omega
          · exact fun e => HNE.out.1 e.symm)
    have HG5 := hid (hg4.sub (bs' := (b4, .cells #[.int .i64 0, .int .i64 0, .int .i64 0, .int .i64 0, .int .i64 0, .slice none 0 0] 46 (0, 0)) :: (((b8, .cells #[.int .i64 3, .int .i64 0, .string ⟨#[]⟩, .slice Au us.length cu] 64 (0, 0)) :: (BU ++ [(b6, .cells #[.int .i64 3, .int .i64 0, .string ⟨#[]⟩, .slice (some ⟨g6, 0, none⟩) 6 c6] 64 (0, 0)), (g6, o6)])))) (fun p hp => by
      simp only [List.mem_cons, List.mem_append, List.mem_nil_iff, or_false] at hp ⊢
      rcases hp with rfl | rfl | hp | rfl | rfl
      · exact .inr (.inr (.inr (.inr rfl)))
      · exact .inl rfl
      · exact .inr (.inl hp)
      · exact .inr (.inr (.inl rfl))
      · exact .inr (.inr (.inr (.inl rfl)))))
    clear hg4 hsu hn4 hn8 HG3 HEX HCE DZ D0 DA r0 r1 r2 q0 q3 HNE HNC HNL
    have HM6 := hid (show (b6, .cells #[.int .i64 3, .int .i64 0, .string ⟨#[]⟩, .slice (some ⟨g6, 0, none⟩) 6 c6] 64 (0, 0)) ∈ ((b8, .cells #[.int .i64 3, .int .i64 0, .string ⟨#[]⟩, .slice Au us.length cu] 64 (0, 0)) :: (BU ++ [(b6, .cells #[.int .i64 3, .int .i64 0, .string ⟨#[]⟩, .slice (some ⟨g6, 0, none⟩) 6 c6] 64 (0, 0)), (g6, o6)])) by simp)
    have HMG := hid (show (g6, o6) ∈ ((b8, .cells #[.int .i64 3, .int .i64 0, .string ⟨#[]⟩, .slice Au us.length cu] 64 (0, 0)) :: (BU ++ [(b6, .cells #[.int .i64 3, .int .i64 0, .string ⟨#[]⟩, .slice (some ⟨g6, 0, none⟩) 6 c6] 64 (0, 0)), (g6, o6)])) by simp)
    have HM8 := hid (show (b8, .cells #[.int .i64 3, .int .i64 0, .string ⟨#[]⟩, .slice Au us.length cu] 64 (0, 0)) ∈ ((b8, .cells #[.int .i64 3, .int .i64 0, .string ⟨#[]⟩, .slice Au us.length cu] 64 (0, 0)) :: (BU ++ [(b6, .cells #[.int .i64 3, .int .i64 0, .string ⟨#[]⟩, .slice (some ⟨g6, 0, none⟩) 6 c6] 64 (0, 0)), (g6, o6)])) by simp)
    have HMU := hid (show ∀ p ∈ BU, p ∈ ((b8, .cells #[.int .i64 3, .int .i64 0, .string ⟨#[]⟩, .slice Au us.length cu] 64 (0, 0)) :: (BU ++ [(b6, .cells #[.int .i64 3, .int .i64 0, .string ⟨#[]⟩, .slice (some ⟨g6, 0, none⟩) 6 c6] 64 (0, 0)), (g6, o6)])) from fun p hp => List.mem_cons_of_mem _ (List.mem_append_left _ hp))
    generalize (((b8, .cells #[.int .i64 3, .int .i64 0, .string ⟨#[]⟩, .slice Au us.length cu] 64 (0, 0)) :: (BU ++ [(b6, .cells #[.int .i64 3, .int .i64 0, .string ⟨#[]⟩, .slice (some ⟨g6, 0, none⟩) 6 c6] 64 (0, 0)), (g6, o6)]))) = OT at *
    have HCG := hid (fun (U : World) (hU : HasO o6 g6 U) (i : Nat) (y : Int) (hy : ([ki, p1, p2, p3, p4, li] : List Int)[i]? = some y) => (show U.cell? ⟨g6, i, none⟩ = some (.int .i64 y) from by
      obtain ⟨b', o', e, hc⟩ := (HX6.out U hU).cells i (.int .i64 y) (by rw [List.getElem?_map, hy]; rfl)
      injection e with e
      injection e with e1 e2
      subst e1; subst e2
      simpa using hc))
    have q3 : wc.cell? ⟨b6, 3, none⟩ = some (.slice (some ⟨g6, 0, none⟩) 6 c6) := HG5.out.cell (List.mem_cons_of_mem _ HM6.out) 3
    have qg : wc.cell? ⟨g6, 0, none⟩ = some (.int .i64 ki) := HCG.out _ (HG5.out.has (List.mem_cons_of_mem _ HMG.out)) 0 ki rfl
    have HKB := hid (show 0 ≤ n.k ∧ n.k < 1000000000 by have := HGD.out.1; omega)
    go_wp2_with fail
    refine (k_number HG5.out.lk HT.out HC.out.hk HKB.out.1 HKB.out.2).mono ?_
    rintro e w6 ⟨rfl, hb⟩
    have HG6 := hid (HG5.out.ext hb)
    clear hb HG5 q3 qg
    have c40 : w6.cell? ⟨b4, 0, none⟩ = some (.int .i64 0) := HG6.out.cell (List.mem_cons_self ..) 0
    have f40 := HG6.out.fz (List.mem_cons_self ..) 0
    go_upto_region 6 with fail
    refine forget (R := fun V => GM w0 W V Z Z sa bk ((b4, .cells #[.int .i64 n.k, .int .i64 0, .int .i64 0, .int .i64 0, .int .i64 0, .slice none 0 0] 46 (0, 0)) :: OT) (.slice none 0 0) [] S ex cx (fun _ => True)) ?_ (HG6.out.put HD.out 0 _)
    clear HG6 c40 f40
    intro V4 h4
    have HG7 := hid h4
    clear h4
    have q80 : V4.cell? ⟨b8, 0, none⟩ = some (.int .i64 3) := HG7.out.cell (List.mem_cons_of_mem _ HM8.out) 0
    have q83 : V4.cell? ⟨b8, 3, none⟩ = some (.slice Au us.length cu) := HG7.out.cell (List.mem_cons_of_mem _ HM8.out) 3
    go_upto_region 8 with fail
    have HUN := hid HC.out.ul
    have hub : us.length ≤ 1000 := by have := HUN.out; have := HUL.out; omega
    go_loopw [64, 5] (fun v is wr => ∃ (j : Nat) (uv : Value), v = .int .i64 j ∧ is = .bool true ∧ j ≤ us.length ∧ GM w0 W wr Z Z sa bk ((b4, .cells #[.int .i64 n.k, .int .i64 0, .int .i64 0, .int .i64 0, .int .i64 0, uv] 46 (0, 0)) :: OT) uv (n.u.take j) S ex cx (fun _ => True)) (fun v _ _ => us.length - (intOf v).toNat)
    case atStart => exact ⟨0, .slice none 0 0, rfl, rfl, Nat.zero_le _, HG7.out⟩
    case round =>
      clear HG7 q80 q83
      obtain ⟨j, uv, hv, his, hj, hgm⟩ := hrel
      subst hv
      have HG := hid hgm
      clear hgm
      by_cases hlt : j < us.length
      · have hlt' : (j : Int) < (us.length : Int) := by omega
        have HLT := hid hlt
        obtain ⟨b, off, x, rfl, hx, hcx⟩ := (HSU.out wr (fun p hp => HG.out.has (List.mem_cons_of_mem _ (HMU.out p hp)))).elemI hlt
        obtain ⟨y, hy⟩ : ∃ y, n.u[j]? = some y := ⟨_, List.getElem?_eq_getElem (by have := HUN.out; omega)⟩
        have hxj := HC.out.hu j (by have := HUN.out; omega)
        rw [show us.getD j 0 = x by rw [List.getD_eq_getElem?_getD, hx]; rfl, show n.u.getD j 0 = y by rw [List.getD_eq_getElem?_getD, hy]; rfl] at hxj
        have HXJ := hid hxj
        have HYB := hid (HGD.out.2 y (List.mem_of_getElem? hy))
        have HTK := hid (show n.u.take (j + 1) = n.u.take j ++ [y] by rw [List.take_add_one, hy]; rfl)
        have HTL := hid (show (n.u.take j).length = j by rw [List.length_take]; have := HUN.out; omega)
        clear hx hy hxj hlt
        go_wp2_with fail
        refine (k_number HG.out.lk HT.out HXJ.out HYB.out.1 HYB.out.2).mono ?_
        rintro e w6 ⟨rfl, hb⟩
        have HG2 := hid (HG.out.ext hb)
        clear hb HG hcx
        have c45 : w6.cell? ⟨b4, 5, none⟩ = some uv := HG2.out.cell (List.mem_cons_self ..) 5
        generalize n.u.take j = lj at *
        go_wp2_with (first
          | (at_builtin; refine wpList_append_sl _ rfl _ _ 33 rfl W.heap.size 3 i0 (.int .i64 0) 1 8 Tryz.underlying33 hi hz0 hz1 hz2 rfl (by decide) uv lj.length (lj.map (.int .i64)) rfl (HG2.out.ext ((Below.refl _ _).alloc (Nat.le_refl _) _)).un _ 1 1 [.int .i64 y] rfl (SlA.lit1 _) (one_int _ _) (by have := HTL.out; unfold maxLen; omega) (by have := HTL.out; omega) (by have := HG2.out.m.t.size; simp; omega) ?_; intro v1 w7 own1 gr1 loc1; obtain ⟨Av, cv, rfl⟩ := own_shape own1; have HG8 := hid ((HG2.out.ext ((Below.refl _ _).alloc (Nat.le_refl _) _)).app (rowI_snoc own1) gr1 loc1); have c5' : w7.cell? ⟨b4, 5, none⟩ = some uv := HG8.out.cell (List.mem_cons_self ..) 5; have f5' := HG8.out.fz (List.mem_cons_self ..) 5; clear own1 gr1 loc1)
          | fail)
        go_roundw
        case rel =>
          refine ⟨j + 1, .slice Av (lj.length + 1) cv, by go_num, by first | rfl | trivial, by have := HLT.out; omega, ?_⟩
          rw [HTK.out]
          exact HG8.out.put HD.out 5 _
        case measure => have := HLT.out; simp [intOf]; omega
      · obtain rfl : j = us.length := by omega
        clear hlt hj
        rw [show n.u.take us.length = n.u from List.take_of_length_le (by have := HUN.out; omega)] at HG
        have his' : u5 = .bool true := his
        clear his
        subst his'
        have hc6 := (HX6.out wr (HG.out.has (List.mem_cons_of_mem _ HMG.out))).nc
        have hc65 : (5 : Int) ≤ (c6 : Int) := by omega
        obtain ⟨nk, ni, ne, ns, nh, nu⟩ := n
        dsimp only at HG HGD HC HUN HP HUL HKB ⊢
        have c40 : wr.cell? ⟨b4, 0, none⟩ = some (.int .i64 nk) := HG.out.cell (List.mem_cons_self ..) 0
        have q3 : wr.cell? ⟨b6, 3, none⟩ = some (.slice (some ⟨g6, 0, none⟩) 6 c6) := HG.out.cell (List.mem_cons_of_mem _ HM6.out) 3
        have HGC := hid (HCG.out _ (HG.out.has (List.mem_cons_of_mem _ HMG.out)))
        obtain hk | hk | hk := HGD.out.1
        · have hk' : nk = 0 := hk
          clear hk
          subst hk'
          obtain ⟨Av, cv, rfl⟩ := own_shape HG.out.un
          obtain ⟨e1, e2, e3, e4⟩ : p1 = o ∧ p2 = o ∧ p3 = o ∧ p4 = o := by
            have h := HP.out
            unfold ptsF at h
            rw [if_pos rfl] at h
            simp only [List.cons.injEq, and_true] at h
            exact ⟨h.1.symm, h.2.1.symm, h.2.2.1.symm, h.2.2.2.symm⟩
          have HSL := hid (show SlA wr 1 (some ⟨g6, 1, none⟩) 4 (c6 - 1) (([p1, p2, p3, p4] : List Int).map (.int .i64)) from by
            have h := HX6.out wr (HG.out.has (List.mem_cons_of_mem _ HMG.out))
            refine ⟨by omega, Nat.le_trans (Nat.sub_le _ _) h.cm, rfl, fun i u hu => ?_⟩
            obtain ⟨b', o', e, hc⟩ := h.cells (i + 1) u (by simpa using List.getElem?_append_left (l₂ := [Value.int .i64 li]) (List.getElem?_eq_some_iff.1 hu).1 |>.trans hu)
            injection e with e
            injection e with e1 e2
            subst e1; subst e2
            exact ⟨g6, 1, rfl, by rw [Nat.zero_add] at hc; rw [Nat.add_comm]; exact hc⟩)
          have HNN := hid (k_none HG.out.lk HSL.out (by omega) (fun t ht => by
            simp only [List.mem_cons, List.mem_nil_iff, or_false] at ht
            rcases ht with rfl | rfl | rfl | rfl
            · rw [e1]; exact HC.out.ho
            · rw [e2]; exact HC.out.ho
            · rw [e3]; exact HC.out.ho
            · rw [e4]; exact HC.out.ho))
          clear e1 e2 e3 e4 HSL
          go_upto_region 16 with fail
          go_wp2_with fail
          refine HNN.out.mono ?_
          rintro e w7 ⟨rfl, hb⟩
          have HG9 := hid (HG.out.ext hb)
          clear hb HNN
          go_upto_region 22 with fail
          refine forget (R := fun V => GM w0 W V Z Z sa bk ((b4, .cells #[.int .i64 0, .int .i64 0, .int .i64 0, .int .i64 0, .int .i64 0, .slice Av nu.length cv] 46 (0, 0)) :: OT) (.slice Av nu.length cv) nu S ex cx (fun _ => True)) ?_ (HG9.out)
          clear HG c40 q3 HGC
          intro V5 h5
          have HV := hid h5
          clear h5
          have d0 : V5.cell? ⟨b4, 0, none⟩ = some (.int .i64 0) := HV.out.cell (List.mem_cons_self ..) 0
          have g0 := HV.out.fz (List.mem_cons_self ..) 0
          have d1 : V5.cell? ⟨b4, 1, none⟩ = some (.int .i64 0) := HV.out.cell (List.mem_cons_self ..) 1
          have g1 := HV.out.fz (List.mem_cons_self ..) 1
          have d2 : V5.cell? ⟨b4, 2, none⟩ = some (.int .i64 0) := HV.out.cell (List.mem_cons_self ..) 2
          have g2 := HV.out.fz (List.mem_cons_self ..) 2
          have d3 : V5.cell? ⟨b4, 3, none⟩ = some (.int .i64 0) := HV.out.cell (List.mem_cons_self ..) 3
          have g3 := HV.out.fz (List.mem_cons_self ..) 3
          have d4 : V5.cell? ⟨b4, 4, none⟩ = some (.int .i64 0) := HV.out.cell (List.mem_cons_self ..) 4
          have g4 := HV.out.fz (List.mem_cons_self ..) 4
          have d5 : V5.cell? ⟨b4, 5, none⟩ = some (.slice Av nu.length cv) := HV.out.cell (List.mem_cons_self ..) 5
          have g5 := HV.out.fz (List.mem_cons_self ..) 5
          have HVF := hid ((((((HV.out.put HD.out 0 (.int .i64 0)).put HD.out 1 (.int .i64 0)).put HD.out 2 (.int .i64 0)).put HD.out 3 (.int .i64 0)).put HD.out 4 (.int .i64 0)).put HD.out 5 (.slice Av nu.length cv))
          go_wp2_with fail
          refine bodyPost_ret (v := .tuple #[.agg #[.int .i64 0, .int .i64 0, .int .i64 0, .int .i64 0, .int .i64 0, .slice Av nu.length cv], .bool true]) ?_ rfl (show NoS _ _ _ _ _ _ _ _ _ _ _ from ⟨(.slice Av nu.length cv), by unfold nrm tnV; rfl, HVF.out.un, fun b hb => (HVF.out.nu b hb).1, HVF.out.lk, HVF.out.m⟩)
          rw [results_cell_tmp rfl]
          go_simp
        · have hk' : nk = 1 := hk
          clear hk
          subst hk'
          obtain ⟨Av, cv, rfl⟩ := own_shape HG.out.un
          have HPE := hid (show p1 = ni ∧ p2 = ne ∧ p3 = ns ∧ p4 = nh by
            have h := HP.out
            unfold ptsF at h
            rw [if_neg (show ¬ (1 : Int) = 0 by decide), if_neg (show ¬ (1 : Int) = 2 by decide)] at h
            simp only [List.cons.injEq, and_true] at h
            exact ⟨h.1.symm, h.2.1.symm, h.2.2.1.symm, h.2.2.2.symm⟩)
          have HSF := hid (fun (U : World) (cs : Array Value) (hU : GM w0 W U Z Z sa bk ((b4, .cells cs 46 (0, 0)) :: OT) (.slice Av nu.length cv) nu S ex cx (fun _ => True)) => (show U.cell? ⟨b6, 3, none⟩ = some (.slice (some ⟨g6, 0, none⟩) 6 c6) ∧ U.cell? ⟨g6, 1, none⟩ = some (.int .i64 p1) ∧ U.cell? ⟨g6, 2, none⟩ = some (.int .i64 p2) ∧ U.cell? ⟨g6, 3, none⟩ = some (.int .i64 p3) ∧ U.cell? ⟨g6, 4, none⟩ = some (.int .i64 p4) from
            have hh := hU.has (List.mem_cons_of_mem _ HMG.out)
            ⟨hU.cell (List.mem_cons_of_mem _ HM6.out) 3, HCG.out U hh 1 p1 rfl, HCG.out U hh 2 p2 rfl, HCG.out U hh 3 p3 rfl, HCG.out U hh 4 p4 rfl⟩))
          have HGD0 := hid (HG.out.ext (below_drew (Below.refl _ _)))
          have c41 : wr.cell? ⟨b4, 1, none⟩ = some (.int .i64 0) := HG.out.cell (List.mem_cons_self ..) 1
          have c42 : wr.cell? ⟨b4, 2, none⟩ = some (.int .i64 0) := HG.out.cell (List.mem_cons_self ..) 2
          have c43 : wr.cell? ⟨b4, 3, none⟩ = some (.int .i64 0) := HG.out.cell (List.mem_cons_self ..) 3
          have c44 : wr.cell? ⟨b4, 4, none⟩ = some (.int .i64 0) := HG.out.cell (List.mem_cons_self ..) 4
          have f41 := HG.out.fz (List.mem_cons_self ..) 1
          have f42 := HG.out.fz (List.mem_cons_self ..) 2
          have f43 := HG.out.fz (List.mem_cons_self ..) 3
          have f44 := HG.out.fz (List.mem_cons_self ..) 4
          obtain ⟨-, r1, r2, r3, r4⟩ := HSF.out _ _ HG.out
          go_upto_region 18 with fail
          go_region_held3 (fun U => U.cell? ⟨b6, 3, none⟩ = some (.slice (some ⟨g6, 0, none⟩) 6 c6) ∧ U.cell? ⟨g6, 1, none⟩ = some (.int .i64 p1) ∧ U.cell? ⟨g6, 2, none⟩ = some (.int .i64 p2) ∧ U.cell? ⟨g6, 3, none⟩ = some (.int .i64 p3) ∧ U.cell? ⟨g6, 4, none⟩ = some (.int .i64 p4)) (first | exact HSF.out _ _ HG.out | exact HSF.out _ _ HGD0.out | exact HSF.out _ _ (HGD0.out.put HD.out 1 _) | exact HSF.out _ _ ((HGD0.out.put HD.out 1 _).put HD.out 2 _) | exact HSF.out _ _ (((HGD0.out.put HD.out 1 _).put HD.out 2 _).put HD.out 3 _) | exact HSF.out _ _ ((((HGD0.out.put HD.out 1 _).put HD.out 2 _).put HD.out 3 _).put HD.out 4 _) | go_keep) (fail)
          obtain ⟨e1, e2, e3, e4⟩ := HPE.out
          subst e1; subst e2; subst e3; subst e4
          go_upto_region 22 with fail
          refine forget (R := fun V => GM w0 W V Z Z sa bk ((b4, .cells #[.int .i64 1, .int .i64 p1, .int .i64 p2, .int .i64 p3, .int .i64 p4, .slice Av nu.length cv] 46 (0, 0)) :: OT) (.slice Av nu.length cv) nu S ex cx (fun _ => True)) ?_ ((((HGD0.out.put HD.out 1 _).put HD.out 2 _).put HD.out 3 _).put HD.out 4 _)
          clear HG HGD0 c40 q3 HGC c41 c42 c43 c44 f41 f42 f43 f44 r1 r2 r3 r4
          intro V5 h5
          have HV := hid h5
          clear h5
          have d0 : V5.cell? ⟨b4, 0, none⟩ = some (.int .i64 1) := HV.out.cell (List.mem_cons_self ..) 0
          have g0 := HV.out.fz (List.mem_cons_self ..) 0
          have d1 : V5.cell? ⟨b4, 1, none⟩ = some (.int .i64 p1) := HV.out.cell (List.mem_cons_self ..) 1
          have g1 := HV.out.fz (List.mem_cons_self ..) 1
          have d2 : V5.cell? ⟨b4, 2, none⟩ = some (.int .i64 p2) := HV.out.cell (List.mem_cons_self ..) 2
          have g2 := HV.out.fz (List.mem_cons_self ..) 2
          have d3 : V5.cell? ⟨b4, 3, none⟩ = some (.int .i64 p3) := HV.out.cell (List.mem_cons_self ..) 3
          have g3 := HV.out.fz (List.mem_cons_self ..) 3
          have d4 : V5.cell? ⟨b4, 4, none⟩ = some (.int .i64 p4) := HV.out.cell (List.mem_cons_self ..) 4
          have g4 := HV.out.fz (List.mem_cons_self ..) 4
          have d5 : V5.cell? ⟨b4, 5, none⟩ = some (.slice Av nu.length cv) := HV.out.cell (List.mem_cons_self ..) 5
          have g5 := HV.out.fz (List.mem_cons_self ..) 5
          have HVF := hid ((((((HV.out.put HD.out 0 (.int .i64 1)).put HD.out 1 (.int .i64 p1)).put HD.out 2 (.int .i64 p2)).put HD.out 3 (.int .i64 p3)).put HD.out 4 (.int .i64 p4)).put HD.out 5 (.slice Av nu.length cv))
          go_wp2_with fail
          refine bodyPost_ret (v := .tuple #[.agg #[.int .i64 1, .int .i64 p1, .int .i64 p2, .int .i64 p3, .int .i64 p4, .slice Av nu.length cv], .bool true]) ?_ rfl (show NoS _ _ _ _ _ _ _ _ _ _ _ from ⟨(.slice Av nu.length cv), by unfold nrm tnV; rfl, HVF.out.un, fun b hb => (HVF.out.nu b hb).1, HVF.out.lk, HVF.out.m⟩)
          rw [results_cell_tmp rfl]
          go_simp
        · have hk' : nk = 2 := hk
          clear hk
          subst hk'
          obtain ⟨Av, cv, rfl⟩ := own_shape HG.out.un
          have HPE := hid (show p1 = o ∧ p2 = ne ∧ p3 = o ∧ p4 = nh by
            have h := HP.out
            unfold ptsF at h
            rw [if_neg (show ¬ (2 : Int) = 0 by decide), if_pos rfl] at h
            simp only [List.cons.injEq, and_true] at h
            exact ⟨h.1.symm, h.2.1.symm, h.2.2.1.symm, h.2.2.2.symm⟩)
          have HSF := hid (fun (U : World) (cs : Array Value) (hU : GM w0 W U Z Z sa bk ((b4, .cells cs 46 (0, 0)) :: OT) (.slice Av nu.length cv) nu S ex cx (fun _ => True)) => (show U.cell? ⟨b6, 3, none⟩ = some (.slice (some ⟨g6, 0, none⟩) 6 c6) ∧ U.cell? ⟨g6, 1, none⟩ = some (.int .i64 p1) ∧ U.cell? ⟨g6, 2, none⟩ = some (.int .i64 p2) ∧ U.cell? ⟨g6, 3, none⟩ = some (.int .i64 p3) ∧ U.cell? ⟨g6, 4, none⟩ = some (.int .i64 p4) from
            have hh := hU.has (List.mem_cons_of_mem _ HMG.out)
            ⟨hU.cell (List.mem_cons_of_mem _ HM6.out) 3, HCG.out U hh 1 p1 rfl, HCG.out U hh 2 p2 rfl, HCG.out U hh 3 p3 rfl, HCG.out U hh 4 p4 rfl⟩))
          obtain ⟨-, r1, r2, r3, r4⟩ := HSF.out _ _ HG.out
          have HON := hid (show ∀ t ∈ ([p1, p3] : List Int), At S.x t (txN ⟨#[]⟩) from fun t ht => by
            simp only [List.mem_cons, List.mem_nil_iff, or_false] at ht
            rcases ht with rfl | rfl
            · rw [HPE.out.1]; exact HC.out.ho
            · rw [HPE.out.2.2.1]; exact HC.out.ho)
          go_upto_region 20 with fail
          go_region_held3 (fun U => U.cell? ⟨b6, 3, none⟩ = some (.slice (some ⟨g6, 0, none⟩) 6 c6) ∧ U.cell? ⟨g6, 1, none⟩ = some (.int .i64 p1) ∧ U.cell? ⟨g6, 2, none⟩ = some (.int .i64 p2) ∧ U.cell? ⟨g6, 3, none⟩ = some (.int .i64 p3) ∧ U.cell? ⟨g6, 4, none⟩ = some (.int .i64 p4)) (first | exact HSF.out _ _ HG9.out | exact HSF.out _ _ (HG.out.ext (by repeat (first | with_reducible exact Below.refl _ _ | with_reducible refine below_al ?_ | with_reducible refine below_drew ?_))) | go_keep) (first
            | (go_at_call 97; refine (k_none (l := [p1, p3]) (HG.out.ext (by repeat (first | with_reducible exact Below.refl _ _ | with_reducible refine below_al ?_ | with_reducible refine below_drew ?_))).lk (HasO.sla (T := 3) (vs := #[.int .i64 p1, .int .i64 p3]) (by repeat (first | (with_reducible refine HasO.new' ?_; (try simp only [size_al, size_dr]); done) | with_reducible refine HasO.alloc ?_ | with_reducible refine HasO.drew ?_)) (by simp) (by unfold maxLen; simp)) (by omega) HON.out).mono ?_; rintro e w7 ⟨rfl, hb⟩; have HG9 := hid ((HG.out.ext (by repeat (first | with_reducible exact Below.refl _ _ | with_reducible refine below_al ?_ | with_reducible refine below_drew ?_))).ext hb); clear hb)
            | fail)
          have HGD0 := hid (HG9.out.ext (below_drew (Below.refl _ _)))
          have c42 : w7.cell? ⟨b4, 2, none⟩ = some (.int .i64 0) := HG9.out.cell (List.mem_cons_self ..) 2
          have c44 : w7.cell? ⟨b4, 4, none⟩ = some (.int .i64 0) := HG9.out.cell (List.mem_cons_self ..) 4
          have f42 := HG9.out.fz (List.mem_cons_self ..) 2
          have f44 := HG9.out.fz (List.mem_cons_self ..) 4
          obtain ⟨q3', r1', r2', r3', r4'⟩ := HSF.out _ _ HG9.out
          go_upto_region 21 with fail
          go_region_held3 (fun U => U.cell? ⟨b6, 3, none⟩ = some (.slice (some ⟨g6, 0, none⟩) 6 c6) ∧ U.cell? ⟨g6, 1, none⟩ = some (.int .i64 p1) ∧ U.cell? ⟨g6, 2, none⟩ = some (.int .i64 p2) ∧ U.cell? ⟨g6, 3, none⟩ = some (.int .i64 p3) ∧ U.cell? ⟨g6, 4, none⟩ = some (.int .i64 p4)) (first | exact HSF.out _ _ HG9.out | exact HSF.out _ _ HGD0.out | exact HSF.out _ _ (HGD0.out.put HD.out 2 _) | exact HSF.out _ _ ((HGD0.out.put HD.out 2 _).put HD.out 4 _) | go_keep) (fail)
          obtain ⟨e1, e2, e3, e4⟩ := HPE.out
          subst e2; subst e4
          go_upto_region 22 with fail
          refine forget (R := fun V => GM w0 W V Z Z sa bk ((b4, .cells #[.int .i64 2, .int .i64 0, .int .i64 p2, .int .i64 0, .int .i64 p4, .slice Av nu.length cv] 46 (0, 0)) :: OT) (.slice Av nu.length cv) nu S ex cx (fun _ => True)) ?_ ((HGD0.out.put HD.out 2 _).put HD.out 4 _)
          clear HG HG9 HGD0 c40 q3 HGC c42 c44 f42 f44 r1 r2 r3 r4 q3' r1' r2' r3' r4'
          intro V5 h5
          have HV := hid h5
          clear h5
          have d0 : V5.cell? ⟨b4, 0, none⟩ = some (.int .i64 2) := HV.out.cell (List.mem_cons_self ..) 0
          have g0 := HV.out.fz (List.mem_cons_self ..) 0
          have d1 : V5.cell? ⟨b4, 1, none⟩ = some (.int .i64 0) := HV.out.cell (List.mem_cons_self ..) 1
          have g1 := HV.out.fz (List.mem_cons_self ..) 1
          have d2 : V5.cell? ⟨b4, 2, none⟩ = some (.int .i64 p2) := HV.out.cell (List.mem_cons_self ..) 2
          have g2 := HV.out.fz (List.mem_cons_self ..) 2
          have d3 : V5.cell? ⟨b4, 3, none⟩ = some (.int .i64 0) := HV.out.cell (List.mem_cons_self ..) 3
          have g3 := HV.out.fz (List.mem_cons_self ..) 3
          have d4 : V5.cell? ⟨b4, 4, none⟩ = some (.int .i64 p4) := HV.out.cell (List.mem_cons_self ..) 4
          have g4 := HV.out.fz (List.mem_cons_self ..) 4
          have d5 : V5.cell? ⟨b4, 5, none⟩ = some (.slice Av nu.length cv) := HV.out.cell (List.mem_cons_self ..) 5
          have g5 := HV.out.fz (List.mem_cons_self ..) 5
          have HVF := hid ((((((HV.out.put HD.out 0 (.int .i64 2)).put HD.out 1 (.int .i64 0)).put HD.out 2 (.int .i64 p2)).put HD.out 3 (.int .i64 0)).put HD.out 4 (.int .i64 p4)).put HD.out 5 (.slice Av nu.length cv))
          go_wp2_with fail
          refine bodyPost_ret (v := .tuple #[.agg #[.int .i64 2, .int .i64 0, .int .i64 p2, .int .i64 0, .int .i64 p4, .slice Av nu.length cv], .bool true]) ?_ rfl (show NoS _ _ _ _ _ _ _ _ _ _ _ from ⟨(.slice Av nu.length cv), by unfold nrm tnV; rfl, HVF.out.un, fun b hb => (HVF.out.nu b hb).1, HVF.out.lk, HVF.out.m⟩)
          rw [results_cell_tmp rfl]
          go_simp
end
end Go.Proofs.YtfmkniakfgpgjaaGreatDoor

/- The shelf's contracts that the kit's own tool leaves out at this seat: TrailingZeros, Insert, Clone of nodes. -/
namespace Go.Proofs
open Go.Shelf Go.RowKit
set_option linter.unusedVariables false
set_option linter.unusedSimpArgs false
/-- The table of the library's is laid. -/
def Tab (w : World) : Prop := TabAt 4 Lib.deBruijn64tab w
theorem Tab.ext {w w' : World} (h : Tab w) (hb : Below w.heap.size w w') : Tab w' := fun j hj => (hb.cell (p := ⟨4, j, none⟩) (block_lt_of_cell (h j hj))).trans (h j hj)
end Go.Proofs

/- math: what a tree's numbers are. -/
namespace Go.Proofs.YtfmkniakfgpgjaaGreatDoor
open Go.RowKit Go.KK
set_option linter.unusedVariables false
set_option linter.unusedSimpArgs false

/-- A node's level: the ones that it ends in. -/
def lvl (x : Int) : Nat := Lib.ctz 64 (18446744073709551615 - x.toNat)
end Go.Proofs.YtfmkniakfgpgjaaGreatDoor

/- math: the node above, and the way up. -/
namespace Go.Proofs.YtfmkniakfgpgjaaGreatDoor
open Go.RowKit Go.KK
set_option linter.unusedVariables false
set_option linter.unusedSimpArgs false

/-- The node above, in a tree without an end. -/
def upV (x : Int) : Int := bits .andNot .i64 (bits .or .i64 x (wrap64 (2 ^ lvl x))) (wrap64 (2 ^ (lvl x + 1)))
end Go.Proofs.YtfmkniakfgpgjaaGreatDoor

/- math: the way up. -/
namespace Go.Proofs.YtfmkniakfgpgjaaGreatDoor
open Go.RowKit Go.KK
set_option linter.unusedVariables false
set_option linter.unusedSimpArgs false

def pathF : Nat → Int → Int → List Int
  | 0, _, _ => []
  | f + 1, x, n => if x = n - 1 then [] else upV x :: pathF f (upV x) n
/-- The nodes above one. -/
def pathL (x n : Int) : List Int := pathF 9 x n
end Go.Proofs.YtfmkniakfgpgjaaGreatDoor

/- ratchet: leaves, and which are there. -/
namespace Go.Proofs.YtfmkniakfgpgjaaGreatDoor
open Go.RowKit Go.KK
set_option linter.unusedVariables false
set_option linter.unusedSimpArgs false

/-- How many leaves a row has. -/
def lvN (n : Nat) : Nat := (n + 1) / 2
/-- A node's kind. -/
def kd (xs : List TN) (j : Nat) : Int := match xs[j]? with | some x => x.k | none => 0
/-- Whether a leaf is there. -/
def pres (xs : List TN) (i : Int) : Bool := decide (0 ≤ i) && decide (i < lvN xs.length) && (kd xs (2 * i).toNat == 1)
end Go.Proofs.YtfmkniakfgpgjaaGreatDoor

/- ratchet: a node that is zero, and numbers that rise. -/
namespace Go.Proofs.YtfmkniakfgpgjaaGreatDoor
open Go.RowKit Go.KK
set_option linter.unusedVariables false
set_option linter.unusedSimpArgs false

end Go.Proofs.YtfmkniakfgpgjaaGreatDoor

/- ratchet: a copy of numbers, and how many are left of it, each once. -/
namespace Go.Proofs.YtfmkniakfgpgjaaGreatDoor
open Go.RowKit Go.KK
set_option linter.unusedVariables false
set_option linter.unusedSimpArgs false

end Go.Proofs.YtfmkniakfgpgjaaGreatDoor

/- ratchet: whether a node may be a parent at its place. -/
namespace Go.Proofs.YtfmkniakfgpgjaaGreatDoor
open Go.RowKit Go.KK
set_option linter.unusedVariables false
set_option linter.unusedSimpArgs false

end Go.Proofs.YtfmkniakfgpgjaaGreatDoor

/- ratchet: whether a node may be a parent at its place: where its head may be. -/
namespace Go.Proofs.YtfmkniakfgpgjaaGreatDoor
open Go.RowKit Go.KK
set_option linter.unusedVariables false
set_option linter.unusedSimpArgs false

theorem tdrop_get {α : Type} {l : List α} {k : Nat} {x : α} (h : l[k]? = some x) : l.drop k = x :: l.drop (k + 1) := by
  obtain ⟨hk, rfl⟩ := List.getElem?_eq_some_iff.1 h
  exact List.drop_eq_getElem_cons hk
end Go.Proofs.YtfmkniakfgpgjaaGreatDoor

/- ratchet: whether a node may be a parent; whether a tree may be. -/
namespace Go.Proofs.YtfmkniakfgpgjaaGreatDoor
open Go.RowKit Go.KK
set_option linter.unusedVariables false
set_option linter.unusedSimpArgs false

/-- All lists of a tree are short. -/
def Shorts (xs : List TN) : Prop := ∀ (j : Nat) (q : TN), xs[j]? = some q → q.u.length ≤ 2147483648

end Go.Proofs.YtfmkniakfgpgjaaGreatDoor

