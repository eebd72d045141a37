import Derived.Test.YtfmkniakfgpgjaaGreatDoorY08
/- nodes: keys, and a node's content. -/
namespace Go.Proofs.YtfmkniakfgpgjaaGreatDoor
open Go.RowKit Go.KK Go.Shelf Go.Maps
set_option linter.unusedVariables false
set_option linter.unusedSimpArgs false

/-- What reads only blocks that Z spares. -/
def Fx (V : World) (Z : Nat → Prop) (P : World → Prop) : Prop := ∃ R : Nat → Prop, (∀ b, R b → ¬ Z b ∧ b < V.heap.size) ∧ ∀ V' : World, (∀ b, R b → V'.heap[b]? = V.heap[b]?) → P V'
section
variable {V V' : World} {Z Z' : Nat → Prop} {P : World → Prop}
theorem Fx.here (h : Fx V Z P) : P V := by obtain ⟨R, h1, h2⟩ := h; exact h2 V fun _ _ => rfl
theorem Fx.mv (h : Fx V Z P) (m : Mv Z V Z' V') : Fx V' Z' P := by
  obtain ⟨R, h1, h2⟩ := h
  have hb : ∀ b, R b → V'.heap[b]? = V.heap[b]? := fun b hr => m.t.block b (h1 b hr).2 (h1 b hr).1
  exact ⟨R, fun b hr => ⟨fun hz => (m.n b hz).elim (h1 b hr).1 fun h' => by have := (h1 b hr).2; omega, Nat.lt_of_lt_of_le (h1 b hr).2 m.t.size⟩, fun V2 hv => h2 V2 fun b hr => (hv b hr).trans (hb b hr)⟩
theorem Fx.ext (h : Fx V Z P) (hb : Below V.heap.size V V') : Fx V' Z P := h.mv (Mv.below hb)
theorem Fx.mono {Q : World → Prop} (h : Fx V Z P) (hq : ∀ V, P V → Q V) : Fx V Z Q := by obtain ⟨R, h1, h2⟩ := h; exact ⟨R, h1, fun V' hv => hq _ (h2 V' hv)⟩
end
theorem i64_0 : I64 0 := i64_lit (by decide) (by decide)
section
variable {S : KS}
theorem do_i {f : List ND → Rs} (hf : I64 (f S.x).2.1) : I64 (doF S f).2 := by
  by_cases he : S.e = 0
  · rw [show doF S f = (⟨(f S.x).1, (f S.x).2.2⟩, (f S.x).2.1) from if_pos he]; exact hf
  · rw [do_no f he]; exact i64_0
theorem tx_i (ok : Okay S.x) (s : ByteArray) : I64 (doF S (txF s)).2 := do_i (idx_i64 ok (txN s))
theorem li_i (ok : Okay S.x) (l : List Int) : I64 (doF S (liF l)).2 := do_i (idx_i64 ok (ndN 3 l))
theorem exd_i64 {xs : List ND} (ok : Okay xs) (s : Int) (lab : ByteArray) (c : Int) : I64 (exdF xs s lab c).2.1 := by
  unfold exdF
  split
  · unfold bdF
    split
    · exact idx_i64 ((sb_tx lab).ok xs ok) _
    · exact i64_0
  · exact i64_0
end
theorem Mv.setN {Z Z' : Nat → Prop} {W V : World} (m : Mv Z W Z' V) {b o : Nat} (v : Value) (hb : W.heap.size ≤ b) : Mv Z W Z' (V.setCell ⟨b, o, none⟩ v) :=
  ⟨m.t.trans (Turn.setCell (F := fun k => k = b) v (.inl rfl)) (fun k e => .inr (e ▸ hb)), m.n⟩
section
variable {w0 W : World} {Z : Nat → Prop} {sa bk : Nat} {S : KS} {ex cx : Int}
theorem LK.setB (h : LK w0 W Z sa bk S ex cx) {b o : Nat} (v : Value) (hz : ¬ Zk Z bk b) (lo : w0.heap.size ≤ b) : LK w0 (W.setCell ⟨b, o, none⟩ v) Z sa bk S ex cx :=
  ⟨h.la.put1 v (fun z => hz (.inl z)) lo, (Below.heap_setCell _ _ _ _ fun e => hz (.inr e.symm)).trans h.k, h.nz, h.lo⟩
theorem LK.new (h : LK w0 W Z sa bk S ex cx) : ¬ Zk Z bk W.heap.size := fun hz => hz.elim (fun hz => by have := h.la.ar.zlt _ hz; omega) (fun e => by have := h.lt; omega)
/-- A variable made behind. -/
theorem LK.box (h : LK w0 W Z sa bk S ex cx) (v : Value) (T : TypeId) : LK w0 (W.alloc (.cells #[v] T)) Z sa bk S ex cx ∧ (W.alloc (.cells #[v] T)).cell? ⟨W.heap.size, 0, none⟩ = some v ∧ Below W.heap.size W (W.alloc (.cells #[v] T)) := by
  have hb : Below W.heap.size W (W.alloc (.cells #[v] T)) := (Below.refl _ _).alloc (Nat.le_refl _) _
  exact ⟨h.ext hb, by rw [cell_of_row _ W.heap.size 0 _ _ (0, 0) (heap_alloc_new W _)]; rfl, hb⟩
set_option maxHeartbeats 1000000 in
theorem key1 (h : LK w0 W Z sa bk S ex cx) (hT : Tb w0.heap.size w0) (hex : I64 ex) {b1 b2 : Nat} {t : Int} (ht : I64 t) (h1 : W.cell? ⟨b1, 0, none⟩ = some (.pointer (some ⟨bk, 0, none⟩))) (h2 : W.cell? ⟨b2, 0, none⟩ = some (.int .i64 t)) (hz1 : ¬ Z b1) (hz2 : ¬ Z b2) :
    Calls Tryz.prog 84 #[.pointer (some ⟨b1, 0, none⟩), .pointer (some ⟨b2, 0, none⟩)] W (LrS w0 W Z sa (exdF S.x ex lbNode t)) := by
  have hc := h.c0
  have hc2 := h.c2
  have hz := h.nz
  have HM := hid (l_exd (h.la.ext (below_drew (Below.refl _ _))) hT hex ht lbNode)
  have HV := hid (Mv.below (Z := Z) (below_drew (Below.refl W.heap.size W)))
  clear h hT
  unfold lbNode at HM ⊢
  generalize exdF S.x ex _ t = r at *
  go_enter Tryz.func84, Tryz.ntmps84
  go_upto_region 1 with fail
  go_region_held3 (fun V => V.cell? ⟨bk, 0, none⟩ = some (.pointer (some ⟨sa, 0, none⟩)) ∧ V.cell? ⟨bk, 2, none⟩ = some (.int .i64 ex) ∧ V.cell? ⟨b1, 0, none⟩ = some (.pointer (some ⟨bk, 0, none⟩)) ∧ V.cell? ⟨b2, 0, none⟩ = some (.int .i64 t)) (first | exact ⟨hc, hc2, h1, h2⟩ | exact ⟨M2.out.cell1 hc hz, M2.out.cell1 hc2 hz, M2.out.cell1 h1 hz1, M2.out.cell1 h2 hz2⟩ | go_keep) (first
    | (go_at_call 85; refine HM.out.mono ?_; rintro e w2 ⟨Z2, rfl, l2, m2⟩; have L2 := hid l2; have M2 := hid (HV.out.trans m2); clear l2 m2)
    | fail)
  all_goals
    go_wp2_with fail
    first | go_ret2 | go_ret
    exact ⟨Z2, rfl, L2.out, M2.out⟩
set_option maxHeartbeats 1000000 in
theorem key2 (h : LK w0 W Z sa bk S ex cx) (hT : Tb w0.heap.size w0) (hex : I64 ex) {b1 b2 : Nat} {t : Int} (ht : I64 t) (h1 : W.cell? ⟨b1, 0, none⟩ = some (.pointer (some ⟨bk, 0, none⟩))) (h2 : W.cell? ⟨b2, 0, none⟩ = some (.int .i64 t)) (hz1 : ¬ Z b1) (hz2 : ¬ Z b2) :
    Calls Tryz.prog 86 #[.pointer (some ⟨b1, 0, none⟩), .pointer (some ⟨b2, 0, none⟩)] W (LrS w0 W Z sa (exdF S.x ex lbNonce t)) := by
  have hc := h.c0
  have hc2 := h.c2
  have hz := h.nz
  have HM := hid (l_exd (h.la.ext (below_drew (Below.refl _ _))) hT hex ht lbNonce)
  have HV := hid (Mv.below (Z := Z) (below_drew (Below.refl W.heap.size W)))
  clear h hT
  unfold lbNonce at HM ⊢
  generalize exdF S.x ex _ t = r at *
  go_enter Tryz.func86, Tryz.ntmps86
  go_upto_region 1 with fail
  go_region_held3 (fun V => V.cell? ⟨bk, 0, none⟩ = some (.pointer (some ⟨sa, 0, none⟩)) ∧ V.cell? ⟨bk, 2, none⟩ = some (.int .i64 ex) ∧ V.cell? ⟨b1, 0, none⟩ = some (.pointer (some ⟨bk, 0, none⟩)) ∧ V.cell? ⟨b2, 0, none⟩ = some (.int .i64 t)) (first | exact ⟨hc, hc2, h1, h2⟩ | exact ⟨M2.out.cell1 hc hz, M2.out.cell1 hc2 hz, M2.out.cell1 h1 hz1, M2.out.cell1 h2 hz2⟩ | go_keep) (first
    | (go_at_call 85; refine HM.out.mono ?_; rintro e w2 ⟨Z2, rfl, l2, m2⟩; have L2 := hid l2; have M2 := hid (HV.out.trans m2); clear l2 m2)
    | fail)
  all_goals
    go_wp2_with fail
    first | go_ret2 | go_ret
    exact ⟨Z2, rfl, L2.out, M2.out⟩
/-- What keys leaves. -/
def KyS (w0 W : World) (Z : Nat → Prop) (sa bk : Nat) (S : KS) (ex cx x : Int) (e : Ending) (w' : World) : Prop := ∃ Z', e = .returned (.tuple #[.int .i64 (kyB ex S x).2, .int .i64 (kyF ex S x).2]) ∧ LK w0 w' Z' sa bk (kyF ex S x).1 ex cx ∧ Mv (Zk Z bk) W (Zk Z' bk) w'
/-- Behind the text of the place. -/
structure KyM (w0 W V : World) (Z Z' : Nat → Prop) (sa bk b1 b6 : Nat) (S : KS) (ex cx t : Int) : Prop where
  l : LK w0 V Z' sa bk S ex cx
  c1 : V.cell? ⟨b1, 0, none⟩ = some (.pointer (some ⟨bk, 0, none⟩))
  c6 : V.cell? ⟨b6, 0, none⟩ = some (.int .i64 t)
  n1 : ¬ Zk Z' bk b1
  n6 : ¬ Zk Z' bk b6
  m : Mv (Zk Z bk) W (Zk Z' bk) V
theorem KyM.mv {V V' : World} {Z' Z2 : Nat → Prop} {b1 b6 : Nat} {S' : KS} {t : Int} (h : KyM w0 W V Z Z' sa bk b1 b6 S ex cx t) (l : LK w0 V' Z2 sa bk S' ex cx) (m : Mv (Zk Z' bk) V (Zk Z2 bk) V') : KyM w0 W V' Z Z2 sa bk b1 b6 S' ex cx t :=
  ⟨l, m.cell1 h.c1 h.n1, m.cell1 h.c6 h.n6, fun hz => (m.n b1 hz).elim h.n1 fun h' => by have : b1 < V.heap.size := block_lt_of_cell h.c1; omega, fun hz => (m.n b6 hz).elim h.n6 fun h' => by have : b6 < V.heap.size := block_lt_of_cell h.c6; omega, h.m.trans m⟩
set_option maxHeartbeats 2000000 in
theorem k_keys (h : LK w0 W Z sa bk S ex cx) (hT : Tb w0.heap.size w0) (hex : I64 ex) {x : Int} (hx : I64 x) :
    Calls Tryz.prog 46 #[.pointer (some ⟨bk, 0, none⟩), .int .i64 x] W (KyS w0 W Z sa bk S ex cx x) := by
  have HT := hid hT; have HX := hid hx; have HEX := hid hex
  have b1 : Below W.heap.size W (W.alloc (.cells #[.pointer (some ⟨bk, 0, none⟩)] 80)) := (Below.refl _ _).alloc (Nat.le_refl _) _
  have HP := hid (show LK w0 (W.alloc (.cells #[.pointer (some ⟨bk, 0, none⟩)] 80)) Z sa bk S ex cx ∧ (W.alloc (.cells #[.pointer (some ⟨bk, 0, none⟩)] 80)).cell? ⟨W.heap.size, 0, none⟩ = some (.pointer (some ⟨bk, 0, none⟩)) ∧ ¬ Zk Z bk W.heap.size ∧ Mv (Zk Z bk) W (Zk Z bk) (W.alloc (.cells #[.pointer (some ⟨bk, 0, none⟩)] 80)) from
    ⟨h.ext b1, by rw [cell_of_row _ W.heap.size 0 _ _ (0, 0) (heap_alloc_new W _)]; rfl, fun hz => hz.elim (fun hz => by have := h.la.ar.zlt _ hz; omega) (fun e => by have := h.lt; omega), Mv.below b1⟩)
  clear h hT hx hex b1
  unfold KyS
  go_enter Tryz.func46, Tryz.ntmps46
  go_upto_region 1 with fail
  generalize hb1 : W.heap.size = b1 at *
  refine forget (R := fun V => LK w0 V Z sa bk S ex cx ∧ V.cell? ⟨b1, 0, none⟩ = some (.pointer (some ⟨bk, 0, none⟩)) ∧ ¬ Zk Z bk b1 ∧ Mv (Zk Z bk) W (Zk Z bk) V) ?_ HP.out
  clear HP hb1
  rintro V ⟨h, h1, hn1, hm⟩
  have HL := hid h; have HC1 := hid h1; have HN1 := hid hn1; have HM := hid hm
  clear h hn1 hm
  have DZ := hid (Below.refl V.heap.size V)
  have D0 := hid (below_drew DZ.out)
  have DA := hid (below_drew (DZ.out.alloc (Nat.le_refl _) (.cells #[.int .i64 0] 3)))
  have HCX := hid (fun (U : World) (hb : Below V.heap.size V U) => (show U.cell? ⟨b1, 0, none⟩ = some (.pointer (some ⟨bk, 0, none⟩)) from (hb.cell (p := ⟨b1, 0, none⟩) (block_lt_of_cell HC1.out)).trans HC1.out))
  have HTX := hid (fun (U : World) (hb : Below V.heap.size V U) => (show Tb U.heap.size U from by
    have hbl := HL.out.la.bl.trans (hb.mono HL.out.la.bl.size)
    exact Tb.up (HT.out.on hbl) hbl.size))
  go_cut [6] (fun v U => ∃ b6 Z', v = .pointer (some ⟨b6, 0, none⟩) ∧ KyM w0 W U Z Z' sa bk b1 b6 (kyA S x).1 ex cx (kyA S x).2)
  case first =>
    have BX := hid (show (V.alloc (.cells #[.int .i64 0] 3)).drew.heap[V.heap.size]? = some (.cells #[.int .i64 0] 3 (0, 0)) from heap_alloc_new V _)
    have NX := hid HL.out.new
    have k0 := HC1.out
    have HSZ := hid HM.out.t.size
    have HBX := hid (fun (b6 : Nat) (U w3 : World) (Z3 : Nat → Prop) (hU : Below V.heap.size V U) (hb6 : U.heap[b6]? = some (.cells #[.int .i64 0] 3 (0, 0))) (hn : ¬ Zk Z bk b6) (hV : V.heap.size ≤ b6) (m3 : Mv (Zk Z bk) U (Zk Z3 bk) w3) =>
      (show ¬ Zk Z3 bk b6 ∧ w3.heap[b6]? = some (.cells #[.int .i64 0] 3 (0, 0)) ∧ w3.cell? ⟨b6, 0, none⟩ = some (.int .i64 0) ∧ w3.frozen? ⟨b6, 0, none⟩ = false ∧ ∀ v, (w3.setCell ⟨b6, 0, none⟩ v).cell? ⟨b1, 0, none⟩ = some (.pointer (some ⟨bk, 0, none⟩)) from by
        have hlt := (Array.getElem?_eq_some_iff.1 hb6).1
        have x3 := (m3.t.block b6 hlt hn).trans hb6
        have hb1 : b1 < V.heap.size := block_lt_of_cell HC1.out
        have c3 := m3.cell1 (HCX.out _ hU) HN1.out
        refine ⟨fun hz => (m3.n _ hz).elim hn fun h' => by omega, x3, by rw [cell_of_row _ b6 0 _ _ (0, 0) x3]; rfl, frozen_of_row w3 b6 0 _ _ x3, fun v => ?_⟩
        rw [World.cell?_of_block (a := ⟨b1, 0, none⟩) (Below.heap_setCell w3 ⟨b6, 0, none⟩ v b1 (by show b1 ≠ b6; omega))]
        exact c3))
    go_region_held3 (fun U => U.cell? ⟨b1, 0, none⟩ = some (.pointer (some ⟨bk, 0, none⟩))) (first | exact HCX.out _ DZ.out | exact HCX.out _ D0.out | exact HCX.out _ DA.out | exact HCX.out _ D2a.out | exact HCX.out _ D2b.out | exact HCX.out _ (below_al D2a.out) | exact C3.out | exact (((Below.refl _ _).alloc (Nat.le_refl _) _).cell (p := ⟨b1, 0, none⟩) (block_lt_of_cell C3.out)).trans C3.out | exact CB.out _ | go_keep) (first
      | (go_at_call 82; refine (itoa_any x HX.out _ (HTX.out _ D0.out)).mono ?_; rintro e2 w2 ⟨sv, rfl, hs, b2⟩; have hs' : sv = digB x := hs; subst hs'; have D2a := hid (D0.out.trans (b2.mono D0.out.size)); clear hs b2)
      | (go_at_call 82; refine (itoa_any x HX.out _ (HTX.out _ DA.out)).mono ?_; rintro e2 w2 ⟨sv, rfl, hs, b2⟩; have hs' : sv = digB x := hs; subst hs'; have D2b := hid (DA.out.trans (b2.mono DA.out.size)); have B2 := hid b2; clear hs b2)
      | (go_at_call 81; refine (k_text (HL.out.ext D2a.out) HT.out _).mono ?_; rintro e3 w3 ⟨Z3, rfl, l3, m3⟩; have L3 := hid l3; have M3 := hid ((Mv.below (Z := Zk Z bk) D2a.out).trans m3); have C3 := hid (M3.out.cell1 HC1.out HN1.out); clear l3 m3)
      | (go_at_call 81; refine (k_text (HL.out.ext D2b.out) HT.out _).mono ?_; rintro e3 w3 ⟨Z3, rfl, l3, m3⟩; have L3 := hid l3; have M3 := hid ((Mv.below (Z := Zk Z bk) D2b.out).trans m3); have C3 := hid (M3.out.cell1 HC1.out HN1.out); obtain ⟨nz, x3, f1, f0, cb⟩ := HBX.out V.heap.size _ _ _ D2b.out ((B2.out.block V.heap.size (Array.getElem?_eq_some_iff.1 BX.out).1).trans BX.out) NX.out (Nat.le_refl _) m3; have NZ := hid nz; have X3 := hid x3; have CB := hid cb; have HLO := hid (Nat.le_refl V.heap.size); clear nz x3 cb; clear l3 m3)
      | (go_at_call 81; refine (k_text (HL.out.ext (below_al D2a.out)) HT.out _).mono ?_; rintro e3 w3 ⟨Z3, rfl, l3, m3⟩; have L3 := hid l3; have M3 := hid ((Mv.below (Z := Zk Z bk) (below_al D2a.out)).trans m3); have C3 := hid (M3.out.cell1 HC1.out HN1.out); obtain ⟨nz, x3, f1, f0, cb⟩ := HBX.out w2.heap.size _ _ _ (below_al D2a.out) (heap_alloc_new w2 _) (HL.out.ext D2a.out).new D2a.out.size m3; have NZ := hid nz; have X3 := hid x3; have CB := hid cb; have HLO := hid D2a.out.size; clear nz x3 cb; clear l3 m3))
    all_goals
      go_wp2_with fail
      go_meet
      first
        | exact ⟨_, Z3, rfl, (L3.out.box (.int .i64 (kyA S x).2) 3).1, (Mv.below (Z := Zk Z3 bk) (L3.out.box (.int .i64 (kyA S x).2) 3).2.2).cell1 C3.out (fun hz => (M3.out.n b1 hz).elim HN1.out fun h' => by have : b1 < V.heap.size := block_lt_of_cell HC1.out; omega), (L3.out.box (.int .i64 (kyA S x).2) 3).2.1, fun hz => (M3.out.n b1 hz).elim HN1.out fun h' => by have : b1 < V.heap.size := block_lt_of_cell HC1.out; omega, L3.out.new, (HM.out.trans M3.out).trans (Mv.below (L3.out.box (.int .i64 (kyA S x).2) 3).2.2)⟩
        | exact ⟨_, Z3, rfl, L3.out.setB _ NZ.out (Nat.le_trans HL.out.la.bl.size HLO.out), CB.out _, by rw [cell_of_row _ _ 0 _ _ (0, 0) (heap_setCell_same _ _ 0 _ _ _ X3.out)]; rfl, fun hz => (M3.out.n b1 hz).elim HN1.out fun h' => by have : b1 < V.heap.size := block_lt_of_cell HC1.out; omega, NZ.out, (HM.out.trans M3.out).setN _ (Nat.le_trans HSZ.out HLO.out)⟩
  case rest =>
    obtain ⟨b6, Z6, rfl, hk⟩ := hcut
    have HK := hid hk
    clear hk HCX HTX DZ D0 DA HC1 HN1 h1
    have HI6 := hid (show I64 (kyA S x).2 from tx_i HL.out.la.ar.ok _)
    clear HL HM
    have hc1 := HK.out.c1
    have HD := hid (do_k1 HK.out.l (fun xs => exdF xs ex lbNode (kyA S x).2) (p0 := .pointer (some ⟨b1, 0, none⟩)) (p1 := .pointer (some ⟨b6, 0, none⟩)) fun _ => key1 HK.out.l HT.out HEX.out HI6.out HK.out.c1 HK.out.c6 (fun hz => HK.out.n1 (.inl hz)) (fun hz => HK.out.n6 (.inl hz)))
    go_wp2_with fail
    refine HD.out.mono ?_
    rintro e w2 ⟨Z2, rfl, l2, m2⟩
    have HK2 := hid (HK.out.mv l2 m2)
    clear l2 m2 HK HD hc1
    have hc1 := HK2.out.c1
    have HD := hid (do_k2 HK2.out.l (fun xs => exdF xs ex lbNonce (kyA S x).2) (p0 := .pointer (some ⟨b1, 0, none⟩)) (p1 := .pointer (some ⟨b6, 0, none⟩)) fun _ => key2 HK2.out.l HT.out HEX.out HI6.out HK2.out.c1 HK2.out.c6 (fun hz => HK2.out.n1 (.inl hz)) (fun hz => HK2.out.n6 (.inl hz)))
    go_wp2_with fail
    refine HD.out.mono ?_
    rintro e w3 ⟨Z3, rfl, l3, m3⟩
    have HK3 := hid (HK2.out.mv l3 m3)
    clear l3 m3 HK2 HD hc1
    go_wp2_with fail
    go_ret2
    exact ⟨Z3, rfl, HK3.out.l, HK3.out.m⟩
end
end Go.Proofs.YtfmkniakfgpgjaaGreatDoor

/- nodes: a node's content. -/
namespace Go.Proofs.YtfmkniakfgpgjaaGreatDoor
open Go.RowKit Go.KK Go.Shelf Go.Maps
set_option linter.unusedVariables false
set_option linter.unusedSimpArgs false

theorem LA.turn {w0 W W' : World} {Z F : Nat → Prop} {sa : Nat} {xs : List ND} (h : LA w0 W Z sa xs) (ht : Turn F W W') (hd : ∀ b, Z b → ¬ F b) (hf : ∀ b, F b → w0.heap.size ≤ b) : LA w0 W' Z sa xs :=
  ⟨h.ar.turn ht hd, h.z, h.bl.trans (ht.below hf h.bl.size)⟩
def TnI (n : TN) : Prop := I64 n.k ∧ I64 n.i ∧ I64 n.e ∧ I64 n.s ∧ I64 n.h ∧ ∀ i ∈ n.u, I64 i
/-- A node as a value. -/
def tnV (n : TN) (q : Value) : Value := .agg #[.int .i64 n.k, .int .i64 n.i, .int .i64 n.e, .int .i64 n.s, .int .i64 n.h, q]
section
variable {w0 W V V' : World} {Z Z' Z2 : Nat → Prop} {sa bk b3 : Nat} {S S' S2 : KS} {ex cx : Int} {cs : Array Value} {v v' : Value} {l l' : List Int} {P : World → Prop}
/-- Within content: the node's box, the row of texts, the node's own list. -/
structure CnM (w0 W V : World) (Z Z' : Nat → Prop) (sa bk b3 : Nat) (cs : Array Value) (v : Value) (l : List Int) (S' : KS) (ex cx : Int) (P : World → Prop) : Prop where
  lk : LK w0 V Z' sa bk S' ex cx
  k3 : V.heap[b3]? = some (.cells cs 46 (0, 0))
  n3 : ¬ Zk Z' bk b3
  lo : W.heap.size ≤ b3
  un : V.ownsRow W.heap.size 3 1 v l.length (l.map (.int .i64))
  nu : ∀ b, v.ownBlock = some b → ¬ Zk Z' bk b ∧ b ≠ b3
  fu : ∃ R : Nat → Prop, (∀ b, R b → ¬ Zk Z' bk b ∧ b < W.heap.size) ∧ ∀ V', (∀ b, R b → V'.heap[b]? = V.heap[b]?) → P V'
  m : Mv (Zk Z bk) W (Zk Z' bk) V
  m0 : w0.heap.size ≤ W.heap.size
theorem CnM.mv (h : CnM w0 W V Z Z' sa bk b3 cs v l S' ex cx P) (k : LK w0 V' Z2 sa bk S2 ex cx) (m : Mv (Zk Z' bk) V (Zk Z2 bk) V') : CnM w0 W V' Z Z2 sa bk b3 cs v l S2 ex cx P := by
  have hb3 : b3 < V.heap.size := (Array.getElem?_eq_some_iff.1 h.k3).1
  have nz : ∀ b, b < V.heap.size → ¬ Zk Z' bk b → ¬ Zk Z2 bk b := fun b hb hz h2 => (m.n b h2).elim hz fun h' => by omega
  obtain ⟨R, r1, r2⟩ := h.fu
  have sz := h.m.t.size
  exact ⟨k, (m.t.block b3 hb3 h.n3).trans h.k3, nz b3 hb3 h.n3, h.lo, own_block h.un fun b hb => m.t.block b (h.un.lt b hb).2 (h.nu b hb).1, fun b hb => ⟨nz b (h.un.lt b hb).2 (h.nu b hb).1, (h.nu b hb).2⟩,
    ⟨R, fun b hr => ⟨nz b (Nat.lt_of_lt_of_le (r1 b hr).2 sz) (r1 b hr).1, (r1 b hr).2⟩, fun V2 hv => r2 V2 fun b hr => (hv b hr).trans (m.t.block b (Nat.lt_of_lt_of_le (r1 b hr).2 sz) (r1 b hr).1)⟩, h.m.trans m, h.m0⟩
theorem CnM.ext (h : CnM w0 W V Z Z' sa bk b3 cs v l S' ex cx P) (hb : Below V.heap.size V V') : CnM w0 W V' Z Z' sa bk b3 cs v l S' ex cx P := h.mv (h.lk.ext hb) (Mv.below hb)
theorem CnM.app (h : CnM w0 W V Z Z' sa bk b3 cs v l S' ex cx P) (hn : V'.ownsRow W.heap.size 3 1 v' l'.length (l'.map (.int .i64))) (hg : V.grownBy V' v.ownBlock) (hl : v'.ownBlock = v.ownBlock ∨ v'.ownBlock = some V.heap.size) : CnM w0 W V' Z Z' sa bk b3 cs v' l' S' ex cx P := by
  have ht : Turn (fun b => v.ownBlock = some b) V V' := Turn.grown hg fun b hb => .inl hb
  have sz := h.m.t.size
  have hb3 : b3 < V.heap.size := (Array.getElem?_eq_some_iff.1 h.k3).1
  obtain ⟨R, r1, r2⟩ := h.fu
  have new : ∀ b, v'.ownBlock = some b → v.ownBlock = some b ∨ b = V.heap.size := fun b hb => by
    rcases hl with hl | hl
    · exact .inl (hl ▸ hb)
    · rw [hl] at hb; injection hb with hb; exact .inr hb.symm
  refine ⟨⟨h.lk.la.turn ht (fun b hz e => (h.nu b e).1 (.inl hz)) (fun b e => Nat.le_trans (h.m0) (h.un.lt b e).1), (ht.block bk h.lk.lt fun e => (h.nu bk e).1 (.inr rfl)).trans h.lk.k, h.lk.nz, h.lk.lo⟩, (ht.block b3 hb3 fun e => (h.nu b3 e).2 rfl).trans h.k3, h.n3, h.lo, hn, fun b hb => ?_, ⟨R, r1, fun V2 hv => r2 V2 fun b hr => (hv b hr).trans (ht.block b (Nat.lt_of_lt_of_le (r1 b hr).2 sz) fun e => by have := (h.un.lt b e).1; have := (r1 b hr).2; omega)⟩, ⟨h.m.t.trans ht fun b e => .inr (h.un.lt b e).1, h.m.n⟩, h.m0⟩
  rcases new b hb with e | e
  · exact h.nu b e
  · subst e
    exact ⟨h.lk.new, by omega⟩
theorem CnM.put (h : CnM w0 W V Z Z' sa bk b3 cs v l S' ex cx P) (o : Nat) (u : Value) : CnM w0 W (V.setCell ⟨b3, o, none⟩ u) Z Z' sa bk b3 (cs.setIfInBounds o u) v l S' ex cx P := by
  have hb : ∀ b, b ≠ b3 → (V.setCell ⟨b3, o, none⟩ u).heap[b]? = V.heap[b]? := fun b hne => Below.heap_setCell _ _ _ _ hne
  obtain ⟨R, r1, r2⟩ := h.fu
  exact ⟨h.lk.setB u h.n3 (Nat.le_trans h.m0 h.lo), heap_setCell_same _ b3 o _ _ _ h.k3, h.n3, h.lo, own_block h.un fun b e => hb b (h.nu b e).2, h.nu, ⟨R, r1, fun V2 hv => r2 V2 fun b hr => (hv b hr).trans (hb b (by have := (r1 b hr).2; have := h.lo; omega))⟩, h.m.setN u h.lo, h.m0⟩
theorem CnM.cell (h : CnM w0 W V Z Z' sa bk b3 cs v l S' ex cx P) (o : Nat) : V.cell? ⟨b3, o, none⟩ = cs[o]? := cell_of_row V b3 o _ _ (0, 0) h.k3
theorem CnM.fz (h : CnM w0 W V Z Z' sa bk b3 cs v l S' ex cx P) (o : Nat) : V.frozen? ⟨b3, o, none⟩ = false := frozen_of_row V b3 o _ _ h.k3
end
theorem fu_here {V : World} {Q : Nat → Prop} {P : World → Prop} (h : ∃ R : Nat → Prop, (∀ b, R b → Q b) ∧ ∀ V', (∀ b, R b → V'.heap[b]? = V.heap[b]?) → P V') : P V := by
  obtain ⟨R, r1, r2⟩ := h
  exact r2 V fun _ _ => rfl
theorem txS_i64 {S : KS} {u : List Int} (ok : Okay S.x) : ∀ j, ∀ i ∈ (txS S u j).2, I64 i
  | 0, i, h => by cases h
  | j + 1, i, h => by
    rw [txS] at h
    rcases List.mem_append.1 h with h | h
    · exact txS_i64 ok j i h
    · rw [List.mem_singleton.1 h]
      exact tx_i ((txS_go S u j).ok ok) _
section
variable {w0 W : World} {Z : Nat → Prop} {sa bk : Nat} {S : KS} {ex cx : Int}
set_option maxHeartbeats 8000000 in
theorem k_content (h : LK w0 W Z sa bk S ex cx) (hT : Tb w0.heap.size w0) {n : TN} {A : Option Addr} {c : Nat} (hu : Fx W (Zk Z bk) fun V => SlA V 1 A n.u.length c (n.u.map (.int .i64))) (hI : TnI n) (hul : n.u.length ≤ 1000) :
    Calls Tryz.prog 45 #[.pointer (some ⟨bk, 0, none⟩), tnV n (.slice A n.u.length c)] W (KkS w0 W Z sa bk (conF S n) ex cx) := by
  obtain ⟨i0, hi, hz0, hz1, hz2⟩ := info_parts Tryz.infoInt
  have HT := hid hT; have HI := hid hI; have HUL := hid hul
  have HP := hid (show CnM w0 W (W.alloc (.cells #[.int .i64 n.k, .int .i64 n.i, .int .i64 n.e, .int .i64 n.s, .int .i64 n.h, .slice A n.u.length c] 46)) Z Z sa bk W.heap.size #[.int .i64 n.k, .int .i64 n.i, .int .i64 n.e, .int .i64 n.s, .int .i64 n.h, .slice A n.u.length c] (.slice none 0 0) [] S ex cx (fun V => SlA V 1 A n.u.length c (n.u.map (.int .i64))) from by
    have b1 : Below W.heap.size W (W.alloc (.cells #[.int .i64 n.k, .int .i64 n.i, .int .i64 n.e, .int .i64 n.s, .int .i64 n.h, .slice A n.u.length c] 46)) := (Below.refl _ _).alloc (Nat.le_refl _) _
    obtain ⟨R, r1, r2⟩ := hu
    exact ⟨h.ext b1, heap_alloc_new W _, h.new, Nat.le_refl _, World.ownsRow_nil _ _ _ _, fun b hb => (by cases hb), ⟨R, r1, fun V' hv => r2 V' fun b hr => (hv b hr).trans (b1.block b (r1 b hr).2)⟩, Mv.below b1, h.la.bl.size⟩)
  clear h hT hu hI hul
  unfold tnV
  obtain ⟨nk, ni, ne, ns, nh, nu⟩ := n
  dsimp only at HP HUL ⊢
  go_enter Tryz.func45, Tryz.ntmps45
  go_upto_region 1 with fail
  generalize hb3 : W.heap.size = b3 at *
  refine forget (R := fun V => CnM w0 W V Z Z sa bk b3 #[.int .i64 nk, .int .i64 ni, .int .i64 ne, .int .i64 ns, .int .i64 nh, .slice A nu.length c] (.slice none 0 0) [] S ex cx (fun V => SlA V 1 A nu.length c (nu.map (.int .i64)))) ?_ HP.out
  clear HP hb3
  intro V h
  have HC := hid h
  clear h
  have HIA := hid (tx_i (S := S) HC.out.lk.la.ar.ok ⟨#[]⟩)
  have HOKB := hid (show Okay (cnB S ⟨nk, ni, ne, ns, nh, nu⟩).1.x from (tx_go _ _).ok ((tx_go S _).ok HC.out.lk.la.ar.ok))
  have HTX := hid (fun (U : World) (hb : Below w0.heap.size w0 U) => (show Tb U.heap.size U from Tb.up (HT.out.on hb) hb.size))
  go_wp2_with fail
  refine (k_text HC.out.lk HT.out ⟨#[]⟩).mono ?_
  rintro e w2 ⟨Z2, rfl, l2, m2⟩
  have HC2 := hid (HC.out.mv l2 m2)
  clear l2 m2 HC
  have hc0 := HC2.out.cell 0
  change w2.cell? ⟨b3, 0, none⟩ = some (Value.int .i64 nk) at hc0
  go_wp2_with fail
  refine (itoa_any nk HI.out.1 _ (HTX.out _ HC2.out.lk.la.bl)).mono ?_
  rintro e w3 ⟨sv, rfl, hs, b3'⟩
  have hs' : sv = digB nk := hs
  subst hs'
  have HC3 := hid (HC2.out.ext b3')
  clear hs b3' HC2 hc0
  have HIB := hid (tx_i HC3.out.lk.la.ar.ok (digB nk))
  go_wp2_with fail
  refine (k_text HC3.out.lk HT.out (digB nk)).mono ?_
  rintro e w4 ⟨Z4, rfl, l4, m4⟩
  have HC4 := hid (HC3.out.mv l4 m4)
  clear l4 m4 HC3
  have hc5 := HC4.out.cell 5
  change w4.cell? ⟨b3, 5, none⟩ = some (Value.slice A nu.length c) at hc5
  replace HC4 : Hid (CnM w0 W w4 Z Z4 sa bk b3 #[.int .i64 nk, .int .i64 ni, .int .i64 ne, .int .i64 ns, .int .i64 nh, .slice A nu.length c] (.slice none 0 0) [] (cnB S ⟨nk, ni, ne, ns, nh, nu⟩).1 ex cx (fun V => SlA V 1 A nu.length c (nu.map (.int .i64)))) := HC4
  replace HIA : Hid (I64 (cnA S).2) := HIA
  replace HIB : Hid (I64 (cnB S ⟨nk, ni, ne, ns, nh, nu⟩).2) := HIB
  go_upto_region 5 with fail
  go_loopw [21, 7] (fun v un wr => ∃ (j : Nat) (Zj : Nat → Prop), v = .int .i64 j ∧ j ≤ nu.length ∧ CnM w0 W wr Z Zj sa bk b3 #[.int .i64 nk, .int .i64 ni, .int .i64 ne, .int .i64 ns, .int .i64 nh, .slice A nu.length c] un (txS (cnB S ⟨nk, ni, ne, ns, nh, nu⟩).1 nu j).2 (txS (cnB S ⟨nk, ni, ne, ns, nh, nu⟩).1 nu j).1 ex cx (fun V => SlA V 1 A nu.length c (nu.map (.int .i64)))) (fun v _ _ => nu.length - (intOf v).toNat)
  case atStart => exact ⟨0, Z4, rfl, Nat.zero_le _, HC4.out⟩
  case round =>
    clear HC4 hc5
    obtain ⟨j, Zj, hv, hj, hcm⟩ := hrel
    subst hv
    have HC := hid hcm
    clear hcm
    have hlb : nu.length ≤ 1000 := HUL.out
    by_cases hlt : j < nu.length
    · have hlt' : (j : Int) < (nu.length : Int) := by omega
      have HLT := hid hlt
      obtain ⟨b, off, x, rfl, hx, hcx⟩ := (fu_here HC.out.fu).elemI hlt
      have hxd : nu.getD j 0 = x := by rw [List.getD_eq_getElem?_getD, hx]; rfl
      have HXD := hid hxd
      have HXI := hid (HI.out.2.2.2.2.2 x (List.mem_of_getElem? hx))
      clear hx hxd hlt
      go_wp2_with fail
      refine (itoa_any x HXI.out _ (HTX.out _ HC.out.lk.la.bl)).mono ?_
      rintro e w5 ⟨sv, rfl, hs, b5⟩
      have hs' : sv = digB x := hs
      subst hs'
      have HC5 := hid (HC.out.ext b5)
      clear hs b5 HC hcx
      go_wp2_with fail
      refine (k_text HC5.out.lk HT.out (digB x)).mono ?_
      rintro e w6 ⟨Z6, rfl, l6, m6⟩
      have HC6 := hid (HC5.out.mv l6 m6)
      clear l6 m6 HC5
      have HTL := hid (txS_len (cnB S ⟨nk, ni, ne, ns, nh, nu⟩).1 nu j)
      have HST := hid (show txS (cnB S ⟨nk, ni, ne, ns, nh, nu⟩).1 nu (j + 1) = ((doF (txS (cnB S ⟨nk, ni, ne, ns, nh, nu⟩).1 nu j).1 (txF (digB x))).1, (txS (cnB S ⟨nk, ni, ne, ns, nh, nu⟩).1 nu j).2 ++ [(doF (txS (cnB S ⟨nk, ni, ne, ns, nh, nu⟩).1 nu j).1 (txF (digB x))).2]) by rw [txS, HXD.out])
      generalize (doF (txS (cnB S ⟨nk, ni, ne, ns, nh, nu⟩).1 nu j).1 (txF (digB x))).2 = tv at *
      generalize (doF (txS (cnB S ⟨nk, ni, ne, ns, nh, nu⟩).1 nu j).1 (txF (digB x))).1 = St at *
      generalize (txS (cnB S ⟨nk, ni, ne, ns, nh, nu⟩).1 nu j).2 = ll at *
      go_wp2_with (first
        | (at_builtin; refine wpList_append_sl _ rfl _ _ 33 rfl W.heap.size 3 i0 (.int .i64 0) 1 8 Tryz.underlying33 hi hz0 hz1 hz2 rfl (by decide) u7 ll.length (ll.map (.int .i64)) rfl (HC6.out.ext ((Below.refl _ _).alloc (Nat.le_refl _) _)).un _ 1 1 [.int .i64 tv] rfl (SlA.lit1 _) (one_int _ _) (by have := HTL.out; unfold maxLen; omega) (by have := HTL.out; omega) (by have := HC6.out.m.t.size; simp; omega) ?_; intro v1 w7 own1 gr1 loc1; have HC7 := hid ((HC6.out.ext ((Below.refl _ _).alloc (Nat.le_refl _) _)).app (rowI_snoc own1) gr1 loc1); clear own1 gr1 loc1)
        | fail)
      go_roundw
      case rel =>
        refine ⟨j + 1, Z6, by go_num, by have := HLT.out; omega, ?_⟩
        rw [HST.out]
        exact HC7.out
      case measure => have := HLT.out; simp [intOf]; omega
    · obtain rfl : j = nu.length := by omega
      clear hlt hj
      obtain ⟨Au, cu, rfl, -⟩ := SlA.owned HC.out.un
      have HLI := hid (txS_i64 (S := (cnB S ⟨nk, ni, ne, ns, nh, nu⟩).1) (u := nu) HOKB.out nu.length)
      have HSU := hid (SlA.of_own HC.out.un).2
      have hc0 := HC.out.cell 0
      go_wp2_with fail
      refine (k_list HC.out.lk HT.out HSU.out HLI.out).mono ?_
      rintro e w8 ⟨Z8, rfl, l8, m8⟩
      have HC8 := hid (HC.out.mv l8 m8)
      have HID := hid (li_i HC.out.lk.la.ar.ok (txS (cnB S ⟨nk, ni, ne, ns, nh, nu⟩).1 nu nu.length).2)
      clear l8 m8 HC HSU HLI hc0
      replace HC8 : Hid (CnM w0 W w8 Z Z8 sa bk b3 #[.int .i64 nk, .int .i64 ni, .int .i64 ne, .int .i64 ns, .int .i64 nh, .slice A nu.length c] _ (cnC S ⟨nk, ni, ne, ns, nh, nu⟩).2 (cnD S ⟨nk, ni, ne, ns, nh, nu⟩).1 ex cx (fun V => SlA V 1 A nu.length c (nu.map (.int .i64)))) := HC8
      replace HID : Hid (I64 (cnD S ⟨nk, ni, ne, ns, nh, nu⟩).2) := HID
      have hc0 := HC8.out.cell 0
      change w8.cell? ⟨b3, 0, none⟩ = some (Value.int .i64 nk) at hc0
      have hc1 := HC8.out.cell 1; have hc2 := HC8.out.cell 2; have hc3 := HC8.out.cell 3; have hc4 := HC8.out.cell 4
      change w8.cell? ⟨b3, 1, none⟩ = some (Value.int .i64 ni) at hc1
      change w8.cell? ⟨b3, 2, none⟩ = some (Value.int .i64 ne) at hc2
      change w8.cell? ⟨b3, 3, none⟩ = some (Value.int .i64 ns) at hc3
      change w8.cell? ⟨b3, 4, none⟩ = some (Value.int .i64 nh) at hc4
      have hf1 := HC8.out.fz 1; have hf2 := HC8.out.fz 2; have hf3 := HC8.out.fz 3; have hf4 := HC8.out.fz 4
      obtain ⟨i1, i2, i3, i4, i5, -⟩ := HI.out
      have HI1 := hid i1; have HI2 := hid i2; have HI3 := hid i3; have HI4 := hid i4; have HI5 := hid i5
      clear i1 i2 i3 i4 i5
      by_cases hk0 : nk = 0
      · subst hk0
        have HPP := hid (show CnM w0 W ((((w8.setCell ⟨b3, 1, none⟩ (.int .i64 (cnA S).2)).setCell ⟨b3, 2, none⟩ (.int .i64 (cnA S).2)).setCell ⟨b3, 3, none⟩ (.int .i64 (cnA S).2)).setCell ⟨b3, 4, none⟩ (.int .i64 (cnA S).2)) Z Z8 sa bk b3 #[.int .i64 0, .int .i64 (cnA S).2, .int .i64 (cnA S).2, .int .i64 (cnA S).2, .int .i64 (cnA S).2, .slice A nu.length c] _ (cnC S ⟨0, ni, ne, ns, nh, nu⟩).2 (cnD S ⟨0, ni, ne, ns, nh, nu⟩).1 ex cx (fun V => SlA V 1 A nu.length c (nu.map (.int .i64))) from (((HC8.out.put 1 _).put 2 _).put 3 _).put 4 _)
        go_upto_region 15 with fail
        refine forget (R := fun U => CnM w0 W U Z Z8 sa bk b3 #[.int .i64 0, .int .i64 (cnA S).2, .int .i64 (cnA S).2, .int .i64 (cnA S).2, .int .i64 (cnA S).2, .slice A nu.length c] (.slice Au (cnC S ⟨0, ni, ne, ns, nh, nu⟩).2.length cu) (cnC S ⟨0, ni, ne, ns, nh, nu⟩).2 (cnD S ⟨0, ni, ne, ns, nh, nu⟩).1 ex cx (fun V => SlA V 1 A nu.length c (nu.map (.int .i64)))) ?_ HPP.out
        clear HPP hc0 hc1 hc2 hc3 hc4 hf1 hf2 hf3 hf4 HC8
        intro U hU
        have HU := hid hU
        clear hU
        have q1 := HU.out.cell 1; have q2 := HU.out.cell 2; have q3 := HU.out.cell 3; have q4 := HU.out.cell 4
        change U.cell? ⟨b3, 1, none⟩ = some (Value.int .i64 (cnA S).2) at q1
        change U.cell? ⟨b3, 2, none⟩ = some (Value.int .i64 (cnA S).2) at q2
        change U.cell? ⟨b3, 3, none⟩ = some (Value.int .i64 (cnA S).2) at q3
        change U.cell? ⟨b3, 4, none⟩ = some (Value.int .i64 (cnA S).2) at q4
        have HF := hid (show conF S ⟨0, ni, ne, ns, nh, nu⟩ = doF (cnD S ⟨0, ni, ne, ns, nh, nu⟩).1 (liF [(cnB S ⟨0, ni, ne, ns, nh, nu⟩).2, (cnA S).2, (cnA S).2, (cnA S).2, (cnA S).2, (cnD S ⟨0, ni, ne, ns, nh, nu⟩).2]) from by unfold conF; congr 2)
        have HKL := hid (k_list (HU.out.lk.ext ((Below.refl _ _).alloc (Nat.le_refl _) (.cells #[.int .i64 (cnB S ⟨0, ni, ne, ns, nh, nu⟩).2, .int .i64 (cnA S).2, .int .i64 (cnA S).2, .int .i64 (cnA S).2, .int .i64 (cnA S).2, .int .i64 (cnD S ⟨0, ni, ne, ns, nh, nu⟩).2] 3))) HT.out (l := [(cnB S ⟨0, ni, ne, ns, nh, nu⟩).2, (cnA S).2, (cnA S).2, (cnA S).2, (cnA S).2, (cnD S ⟨0, ni, ne, ns, nh, nu⟩).2]) (sla_row #[.int .i64 (cnB S ⟨0, ni, ne, ns, nh, nu⟩).2, .int .i64 (cnA S).2, .int .i64 (cnA S).2, .int .i64 (cnA S).2, .int .i64 (cnA S).2, .int .i64 (cnD S ⟨0, ni, ne, ns, nh, nu⟩).2] (by unfold maxLen; simp)) (by
          intro i hi
          simp only [List.mem_cons, List.mem_nil_iff, or_false] at hi
          rcases hi with rfl | rfl | rfl | rfl | rfl | rfl
          · exact HIB.out
          · exact HIA.out
          · exact HIA.out
          · exact HIA.out
          · exact HIA.out
          · exact HID.out))
        rw [← HF.out] at HKL
        have HMM := hid ((HU.out.m).trans (Mv.below ((Below.refl U.heap.size U).alloc (Nat.le_refl _) (.cells #[.int .i64 (cnB S ⟨0, ni, ne, ns, nh, nu⟩).2, .int .i64 (cnA S).2, .int .i64 (cnA S).2, .int .i64 (cnA S).2, .int .i64 (cnA S).2, .int .i64 (cnD S ⟨0, ni, ne, ns, nh, nu⟩).2] 3))))
        go_wp2_with fail
        refine HKL.out.mono ?_
        rintro e w9 ⟨Z9, rfl, l9, m9⟩
        have L9 := hid l9; have M9 := hid (HMM.out.trans m9)
        clear l9 m9 HKL HMM q1 q2 q3 q4
        go_wp2_with fail
        go_ret
        exact ⟨Z9, rfl, L9.out, M9.out⟩
      · by_cases hk2 : nk = 2
        · subst hk2
          have HPP := hid (show CnM w0 W ((w8.setCell ⟨b3, 1, none⟩ (.int .i64 (cnA S).2)).setCell ⟨b3, 3, none⟩ (.int .i64 (cnA S).2)) Z Z8 sa bk b3 #[.int .i64 2, .int .i64 (cnA S).2, .int .i64 ne, .int .i64 (cnA S).2, .int .i64 nh, .slice A nu.length c] _ (cnC S ⟨2, ni, ne, ns, nh, nu⟩).2 (cnD S ⟨2, ni, ne, ns, nh, nu⟩).1 ex cx (fun V => SlA V 1 A nu.length c (nu.map (.int .i64))) from (HC8.out.put 1 _).put 3 _)
          go_upto_region 15 with fail
          refine forget (R := fun U => CnM w0 W U Z Z8 sa bk b3 #[.int .i64 2, .int .i64 (cnA S).2, .int .i64 ne, .int .i64 (cnA S).2, .int .i64 nh, .slice A nu.length c] (.slice Au (cnC S ⟨2, ni, ne, ns, nh, nu⟩).2.length cu) (cnC S ⟨2, ni, ne, ns, nh, nu⟩).2 (cnD S ⟨2, ni, ne, ns, nh, nu⟩).1 ex cx (fun V => SlA V 1 A nu.length c (nu.map (.int .i64)))) ?_ HPP.out
          clear HPP hc0 hc1 hc2 hc3 hc4 hf1 hf2 hf3 hf4 HC8
          intro U hU
          have HU := hid hU
          clear hU
          have q1 := HU.out.cell 1; have q2 := HU.out.cell 2; have q3 := HU.out.cell 3; have q4 := HU.out.cell 4
          change U.cell? ⟨b3, 1, none⟩ = some (Value.int .i64 (cnA S).2) at q1
          change U.cell? ⟨b3, 2, none⟩ = some (Value.int .i64 ne) at q2
          change U.cell? ⟨b3, 3, none⟩ = some (Value.int .i64 (cnA S).2) at q3
          change U.cell? ⟨b3, 4, none⟩ = some (Value.int .i64 nh) at q4
          have HF := hid (show conF S ⟨2, ni, ne, ns, nh, nu⟩ = doF (cnD S ⟨2, ni, ne, ns, nh, nu⟩).1 (liF [(cnB S ⟨2, ni, ne, ns, nh, nu⟩).2, (cnA S).2, ne, (cnA S).2, nh, (cnD S ⟨2, ni, ne, ns, nh, nu⟩).2]) from by unfold conF; congr 2)
          have HKL := hid (k_list (HU.out.lk.ext ((Below.refl _ _).alloc (Nat.le_refl _) (.cells #[.int .i64 (cnB S ⟨2, ni, ne, ns, nh, nu⟩).2, .int .i64 (cnA S).2, .int .i64 ne, .int .i64 (cnA S).2, .int .i64 nh, .int .i64 (cnD S ⟨2, ni, ne, ns, nh, nu⟩).2] 3))) HT.out (l := [(cnB S ⟨2, ni, ne, ns, nh, nu⟩).2, (cnA S).2, ne, (cnA S).2, nh, (cnD S ⟨2, ni, ne, ns, nh, nu⟩).2]) (sla_row #[.int .i64 (cnB S ⟨2, ni, ne, ns, nh, nu⟩).2, .int .i64 (cnA S).2, .int .i64 ne, .int .i64 (cnA S).2, .int .i64 nh, .int .i64 (cnD S ⟨2, ni, ne, ns, nh, nu⟩).2] (by unfold maxLen; simp)) (by
            intro i hi
            simp only [List.mem_cons, List.mem_nil_iff, or_false] at hi
            rcases hi with rfl | rfl | rfl | rfl | rfl | rfl
            · exact HIB.out
            · exact HIA.out
            · exact HI3.out
            · exact HIA.out
            · exact HI5.out
            · exact HID.out))
          rw [← HF.out] at HKL
          have HMM := hid ((HU.out.m).trans (Mv.below ((Below.refl U.heap.size U).alloc (Nat.le_refl _) (.cells #[.int .i64 (cnB S ⟨2, ni, ne, ns, nh, nu⟩).2, .int .i64 (cnA S).2, .int .i64 ne, .int .i64 (cnA S).2, .int .i64 nh, .int .i64 (cnD S ⟨2, ni, ne, ns, nh, nu⟩).2] 3))))
          go_wp2_with fail
          refine HKL.out.mono ?_
          rintro e w9 ⟨Z9, rfl, l9, m9⟩
          have L9 := hid l9; have M9 := hid (HMM.out.trans m9)
          clear l9 m9 HKL HMM q1 q2 q3 q4
          go_wp2_with fail
          go_ret
          exact ⟨Z9, rfl, L9.out, M9.out⟩
        · have hb0 : (nk == 0) = false := beq_eq_false_iff_ne.2 hk0
          have hb2 : (nk == 2) = false := beq_eq_false_iff_ne.2 hk2
          have HPP := hid (show CnM w0 W w8 Z Z8 sa bk b3 #[.int .i64 nk, .int .i64 ni, .int .i64 ne, .int .i64 ns, .int .i64 nh, .slice A nu.length c] _ (cnC S ⟨nk, ni, ne, ns, nh, nu⟩).2 (cnD S ⟨nk, ni, ne, ns, nh, nu⟩).1 ex cx (fun V => SlA V 1 A nu.length c (nu.map (.int .i64))) from HC8.out)
          go_upto_region 15 with fail
          refine forget (R := fun U => CnM w0 W U Z Z8 sa bk b3 #[.int .i64 nk, .int .i64 ni, .int .i64 ne, .int .i64 ns, .int .i64 nh, .slice A nu.length c] (.slice Au (cnC S ⟨nk, ni, ne, ns, nh, nu⟩).2.length cu) (cnC S ⟨nk, ni, ne, ns, nh, nu⟩).2 (cnD S ⟨nk, ni, ne, ns, nh, nu⟩).1 ex cx (fun V => SlA V 1 A nu.length c (nu.map (.int .i64)))) ?_ HPP.out
          clear HPP hc0 hc1 hc2 hc3 hc4 hf1 hf2 hf3 hf4 HC8
          intro U hU
          have HU := hid hU
          clear hU
          have q1 := HU.out.cell 1; have q2 := HU.out.cell 2; have q3 := HU.out.cell 3; have q4 := HU.out.cell 4
          change U.cell? ⟨b3, 1, none⟩ = some (Value.int .i64 ni) at q1
          change U.cell? ⟨b3, 2, none⟩ = some (Value.int .i64 ne) at q2
          change U.cell? ⟨b3, 3, none⟩ = some (Value.int .i64 ns) at q3
          change U.cell? ⟨b3, 4, none⟩ = some (Value.int .i64 nh) at q4
          have HF := hid (show conF S ⟨nk, ni, ne, ns, nh, nu⟩ = doF (cnD S ⟨nk, ni, ne, ns, nh, nu⟩).1 (liF [(cnB S ⟨nk, ni, ne, ns, nh, nu⟩).2, ni, ne, ns, nh, (cnD S ⟨nk, ni, ne, ns, nh, nu⟩).2]) from by unfold conF ptsF; rw [if_neg hk0, if_neg hk2]; rfl)
          have HKL := hid (k_list (HU.out.lk.ext ((Below.refl _ _).alloc (Nat.le_refl _) (.cells #[.int .i64 (cnB S ⟨nk, ni, ne, ns, nh, nu⟩).2, .int .i64 ni, .int .i64 ne, .int .i64 ns, .int .i64 nh, .int .i64 (cnD S ⟨nk, ni, ne, ns, nh, nu⟩).2] 3))) HT.out (l := [(cnB S ⟨nk, ni, ne, ns, nh, nu⟩).2, ni, ne, ns, nh, (cnD S ⟨nk, ni, ne, ns, nh, nu⟩).2]) (sla_row #[.int .i64 (cnB S ⟨nk, ni, ne, ns, nh, nu⟩).2, .int .i64 ni, .int .i64 ne, .int .i64 ns, .int .i64 nh, .int .i64 (cnD S ⟨nk, ni, ne, ns, nh, nu⟩).2] (by unfold maxLen; simp)) (by
            intro i hi
            simp only [List.mem_cons, List.mem_nil_iff, or_false] at hi
            rcases hi with rfl | rfl | rfl | rfl | rfl | rfl
            · exact HIB.out
            · exact HI2.out
            · exact HI3.out
            · exact HI4.out
            · exact HI5.out
            · exact HID.out))
          rw [← HF.out] at HKL
          have HMM := hid ((HU.out.m).trans (Mv.below ((Below.refl U.heap.size U).alloc (Nat.le_refl _) (.cells #[.int .i64 (cnB S ⟨nk, ni, ne, ns, nh, nu⟩).2, .int .i64 ni, .int .i64 ne, .int .i64 ns, .int .i64 nh, .int .i64 (cnD S ⟨nk, ni, ne, ns, nh, nu⟩).2] 3))))
          go_wp2_with fail
          refine HKL.out.mono ?_
          rintro e w9 ⟨Z9, rfl, l9, m9⟩
          have L9 := hid l9; have M9 := hid (HMM.out.trans m9)
          clear l9 m9 HKL HMM q1 q2 q3 q4
          go_wp2_with fail
          go_ret
          exact ⟨Z9, rfl, L9.out, M9.out⟩
end
end Go.Proofs.YtfmkniakfgpgjaaGreatDoor

/- nodes: what is bad; begin. -/
namespace Go.Proofs.YtfmkniakfgpgjaaGreatDoor
open Go.RowKit Go.KK Go.Shelf Go.Maps
set_option linter.unusedVariables false
set_option linter.unusedSimpArgs false

theorem any_step {α : Type} {l : List α} {p : α → Bool} {j : Nat} {x : α} (h : l[j]? = some x) : (l.drop j).any p = (p x || (l.drop (j + 1)).any p) := by
  rw [List.drop_eq_getElem_cons (List.getElem?_eq_some_iff.1 h).1, List.any_cons, (List.getElem?_eq_some_iff.1 h).2]
set_option maxHeartbeats 1000000 in
theorem ix_out (p : Int → Bool) {q1 : Value} (A : Option Addr) (n c : Nat) (l : List Int) (W : World) (hl : SlA W 1 A n c (l.map (.int .i64))) (hn : n ≤ 2147483648)
    (hcl : ∀ W', Below W.heap.size W W' → ∀ x ∈ l, Calls Tryz.prog 40 #[.int .i64 x, q1] W' fun e w' => e = .returned (.bool (p x)) ∧ Below W'.heap.size W' w') :
    Calls Tryz.prog 78 #[.slice A n c, .func (.func 40) #[] #[q1]] W fun e w' => (∃ k : Int, e = .returned (.int .i64 k) ∧ decide (0 ≤ k) = l.any p) ∧ Below W.heap.size W w' := by
  have HS := hid hl; have HL := hid hl.lenI; have HCL := hid hcl
  clear hl hcl
  go_enter Tryz.func78, Tryz.ntmps78
  go_wp2
  go_loopw [8] (fun i wr => ∃ j : Nat, i = .int .i64 j ∧ j ≤ n ∧ Hid (l.any p = (l.drop j).any p) ∧ Hid (Below W.heap.size W wr)) (fun i _ => n - (intOf i).toNat)
  case atStart => exact ⟨0, rfl, by omega, hid rfl, hid (Below.refl _ _)⟩
  case round =>
    obtain ⟨j, hi, hj, HJ, HB⟩ := hrel
    subst hi
    by_cases hlt : j < n
    · obtain ⟨b1, o, z, rfl, hz, hc⟩ := (HS.out.ext HB.out).elemI hlt
      have hlt' : (j : Int) < (n : Int) := by omega
      have HD := hid (any_step (p := p) hz)
      have HC := hid (HCL.out wr HB.out z (List.mem_of_getElem? hz))
      clear hz
      rcases hh : p z with _ | _
      · have HF := hid (show l.any p = (l.drop (j + 1)).any p by rw [HJ.out, HD.out, hh]; rfl)
        rw [hh] at HC
        go_wp2_with (go_at_call 40; refine HC.out.mono ?_; rintro e w' ⟨rfl, hb⟩; have HB2 := hid (HB.out.trans (hb.mono HB.out.size)); clear hb)
        go_roundw
        case rel => exact ⟨j + 1, by go_num, by omega, HF, HB2⟩
        case measure => simp [intOf]; omega
      · have HF := hid (show l.any p = true by rw [HJ.out, HD.out, hh]; rfl)
        rw [hh] at HC
        go_wp2_with (go_at_call 40; refine HC.out.mono ?_; rintro e w' ⟨rfl, hb⟩; have HB2 := hid (HB.out.trans (hb.mono HB.out.size)); clear hb)
        go_ret
        exact ⟨⟨j, rfl, by rw [HF.out, decide_eq_true (by omega)]⟩, HB2.out⟩
    · have HF := hid (show l.any p = false by rw [HJ.out, List.drop_of_length_le (by have := HL.out; omega)]; rfl)
      go_wp2
      go_ret
      exact ⟨⟨-1, rfl, by rw [HF.out]; rfl⟩, HB.out⟩
theorem cf_out (p : Int → Bool) {q1 : Value} (A : Option Addr) (n c : Nat) (l : List Int) (W : World) (hl : SlA W 1 A n c (l.map (.int .i64))) (hn : n ≤ 2147483648)
    (hcl : ∀ W', Below W.heap.size W W' → ∀ x ∈ l, Calls Tryz.prog 40 #[.int .i64 x, q1] W' fun e w' => e = .returned (.bool (p x)) ∧ Below W'.heap.size W' w') :
    Calls Tryz.prog 38 #[.slice A n c, .func (.func 40) #[] #[q1]] W fun e w' => e = .returned (.bool (l.any p)) ∧ Below W.heap.size W w' := by
  have HX := hid (ix_out p A n c l W hl hn hcl)
  clear hl hcl
  go_enter Tryz.func38, Tryz.ntmps38
  go_wp2_with fail
  refine HX.out.mono ?_
  rintro e w' ⟨⟨k, rfl, hk⟩, hw⟩
  have HK := hid hk; have HW := hid hw
  clear hk hw
  go_wp2
  go_ret
  exact ⟨by rw [← HK.out]; rfl, HW.out⟩
set_option maxHeartbeats 1000000 in
theorem ix_big (p : Int → Bool) (A : Option Addr) (n c : Nat) (l : List Int) (W : World) (hl : SlA W 1 A n c (l.map (.int .i64))) (hn : n ≤ 2147483648)
    (hcl : ∀ W', Below W.heap.size W W' → ∀ x ∈ l, Calls Tryz.prog 42 #[.int .i64 x] W' fun e w' => e = .returned (.bool (p x)) ∧ Below W'.heap.size W' w') :
    Calls Tryz.prog 78 #[.slice A n c, .func (.func 42) #[] #[]] W fun e w' => (∃ k : Int, e = .returned (.int .i64 k) ∧ decide (0 ≤ k) = l.any p) ∧ Below W.heap.size W w' := by
  have HS := hid hl; have HL := hid hl.lenI; have HCL := hid hcl
  clear hl hcl
  go_enter Tryz.func78, Tryz.ntmps78
  go_wp2
  go_loopw [8] (fun i wr => ∃ j : Nat, i = .int .i64 j ∧ j ≤ n ∧ Hid (l.any p = (l.drop j).any p) ∧ Hid (Below W.heap.size W wr)) (fun i _ => n - (intOf i).toNat)
  case atStart => exact ⟨0, rfl, by omega, hid rfl, hid (Below.refl _ _)⟩
  case round =>
    obtain ⟨j, hi, hj, HJ, HB⟩ := hrel
    subst hi
    by_cases hlt : j < n
    · obtain ⟨b1, o, z, rfl, hz, hc⟩ := (HS.out.ext HB.out).elemI hlt
      have hlt' : (j : Int) < (n : Int) := by omega
      have HD := hid (any_step (p := p) hz)
      have HC := hid (HCL.out wr HB.out z (List.mem_of_getElem? hz))
      clear hz
      rcases hh : p z with _ | _
      · have HF := hid (show l.any p = (l.drop (j + 1)).any p by rw [HJ.out, HD.out, hh]; rfl)
        rw [hh] at HC
        go_wp2_with (go_at_call 42; refine HC.out.mono ?_; rintro e w' ⟨rfl, hb⟩; have HB2 := hid (HB.out.trans (hb.mono HB.out.size)); clear hb)
        go_roundw
        case rel => exact ⟨j + 1, by go_num, by omega, HF, HB2⟩
        case measure => simp [intOf]; omega
      · have HF := hid (show l.any p = true by rw [HJ.out, HD.out, hh]; rfl)
        rw [hh] at HC
        go_wp2_with (go_at_call 42; refine HC.out.mono ?_; rintro e w' ⟨rfl, hb⟩; have HB2 := hid (HB.out.trans (hb.mono HB.out.size)); clear hb)
        go_ret
        exact ⟨⟨j, rfl, by rw [HF.out, decide_eq_true (by omega)]⟩, HB2.out⟩
    · have HF := hid (show l.any p = false by rw [HJ.out, List.drop_of_length_le (by have := HL.out; omega)]; rfl)
      go_wp2
      go_ret
      exact ⟨⟨-1, rfl, by rw [HF.out]; rfl⟩, HB.out⟩
theorem cf_big (p : Int → Bool) (A : Option Addr) (n c : Nat) (l : List Int) (W : World) (hl : SlA W 1 A n c (l.map (.int .i64))) (hn : n ≤ 2147483648)
    (hcl : ∀ W', Below W.heap.size W W' → ∀ x ∈ l, Calls Tryz.prog 42 #[.int .i64 x] W' fun e w' => e = .returned (.bool (p x)) ∧ Below W'.heap.size W' w') :
    Calls Tryz.prog 38 #[.slice A n c, .func (.func 42) #[] #[]] W fun e w' => e = .returned (.bool (l.any p)) ∧ Below W.heap.size W w' := by
  have HX := hid (ix_big p A n c l W hl hn hcl)
  clear hl hcl
  go_enter Tryz.func38, Tryz.ntmps38
  go_wp2_with fail
  refine HX.out.mono ?_
  rintro e w' ⟨⟨k, rfl, hk⟩, hw⟩
  have HK := hid hk; have HW := hid hw
  clear hk hw
  go_wp2
  go_ret
  exact ⟨by rw [← HK.out]; rfl, HW.out⟩
set_option maxHeartbeats 1000000 in
theorem ix_bad (p : TN → Bool) {q1 : Value} (A : Option Addr) (n c : Nat) (t : List TN) (W : World) (hl : Tr W A n c t) (hn : n ≤ 2147483648)
    (hcl : ∀ W', Below W.heap.size W W' → ∀ x ∈ t, ∀ A2 c2, SlA W' 1 A2 x.u.length c2 (x.u.map (.int .i64)) → Calls Tryz.prog 37 #[tnV x (.slice A2 x.u.length c2), q1] W' fun e w' => e = .returned (.bool (p x)) ∧ Below W'.heap.size W' w') :
    Calls Tryz.prog 79 #[.slice A n c, .func (.func 37) #[] #[q1]] W fun e w' => (∃ k : Int, e = .returned (.int .i64 k) ∧ decide (0 ≤ k) = t.any p) ∧ Below W.heap.size W w' := by
  have HS := hid hl; have HL := hid hl.len; have HCL := hid hcl
  clear hl hcl
  unfold tnV at HCL
  go_enter Tryz.func79, Tryz.ntmps79
  go_wp2
  go_loopw [8] (fun i wr => ∃ j : Nat, i = .int .i64 j ∧ j ≤ n ∧ Hid (t.any p = (t.drop j).any p) ∧ Hid (Below W.heap.size W wr)) (fun i _ => n - (intOf i).toNat)
  case atStart => exact ⟨0, rfl, by omega, hid rfl, hid (Below.refl _ _)⟩
  case round =>
    obtain ⟨j, hi, hj, HJ, HB⟩ := hrel
    subst hi
    by_cases hlt : j < n
    · obtain ⟨b, o, x, A2, c2, rfl, hx, d0, d1, d2, d3, d4, d5, hsx⟩ := (HS.out.ext HB.out).at hlt
      have hlt' : (j : Int) < (n : Int) := by omega
      have HD := hid (any_step (p := p) hx)
      have HC := hid (HCL.out wr HB.out x (List.mem_of_getElem? hx) A2 c2 hsx)
      clear hx hsx
      rcases hh : p x with _ | _
      · have HF := hid (show t.any p = (t.drop (j + 1)).any p by rw [HJ.out, HD.out, hh]; rfl)
        rw [hh] at HC
        clear hh
        go_wp2_with (go_at_call 37; refine HC.out.mono ?_; rintro e w' ⟨rfl, hb⟩; have HB2 := hid (HB.out.trans (hb.mono HB.out.size)); clear hb)
        go_roundw
        case rel => exact ⟨j + 1, by go_num, by omega, HF, HB2⟩
        case measure => simp [intOf]; omega
      · have HF := hid (show t.any p = true by rw [HJ.out, HD.out, hh]; rfl)
        rw [hh] at HC
        clear hh
        go_wp2_with (go_at_call 37; refine HC.out.mono ?_; rintro e w' ⟨rfl, hb⟩; have HB2 := hid (HB.out.trans (hb.mono HB.out.size)); clear hb)
        go_ret
        exact ⟨⟨j, rfl, by rw [HF.out, decide_eq_true (by omega)]⟩, HB2.out⟩
    · have HF := hid (show t.any p = false by rw [HJ.out, List.drop_of_length_le (by have := HL.out; omega)]; rfl)
      go_wp2
      go_ret
      exact ⟨⟨-1, rfl, by rw [HF.out]; rfl⟩, HB.out⟩
theorem cf_bad (p : TN → Bool) {q1 : Value} (A : Option Addr) (n c : Nat) (t : List TN) (W : World) (hl : Tr W A n c t) (hn : n ≤ 2147483648)
    (hcl : ∀ W', Below W.heap.size W W' → ∀ x ∈ t, ∀ A2 c2, SlA W' 1 A2 x.u.length c2 (x.u.map (.int .i64)) → Calls Tryz.prog 37 #[tnV x (.slice A2 x.u.length c2), q1] W' fun e w' => e = .returned (.bool (p x)) ∧ Below W'.heap.size W' w') :
    Calls Tryz.prog 43 #[.slice A n c, .func (.func 37) #[] #[q1]] W fun e w' => e = .returned (.bool (t.any p)) ∧ Below W.heap.size W w' := by
  have HX := hid (ix_bad p A n c t W hl hn hcl)
  clear hl hcl
  go_enter Tryz.func43, Tryz.ntmps43
  go_wp2_with fail
  refine HX.out.mono ?_
  rintro e w' ⟨⟨k, rfl, hk⟩, hw⟩
  have HK := hid hk; have HW := hid hw
  clear hk hw
  go_wp2
  go_ret
  exact ⟨by rw [← HK.out]; rfl, HW.out⟩
section
variable {W : World} {sa b : Nat} {X : List ND}
theorem out_any (h : ArV W 122 sa X) (hb : W.cell? ⟨b, 0, none⟩ = some (.pointer (some ⟨sa, 0, none⟩))) (x : Int) :
    Calls Tryz.prog 40 #[.int .i64 x, .pointer (some ⟨b, 0, none⟩)] W fun e w' => e = .returned (.bool (!hasB X x)) ∧ Below W.heap.size W w' := by
  have H := hid h
  clear h
  by_cases h0 : x < 0
  · have HF := hid (show hasB X x = false by unfold hasB; rw [decide_eq_false (by omega : ¬ 0 ≤ x)]; rfl)
    rw [HF.out]
    go_enter Tryz.func40, Tryz.ntmps40
    go_wp2_with fail
    go_ret
    exact ⟨rfl, Below.refl _ _⟩
  · have HF := hid (show (!hasB X x) = decide ((X.length : Int) ≤ x) by
      unfold hasB
      rw [decide_eq_true (by omega : 0 ≤ x), Bool.true_and, ← decide_not]
      exact decide_eq_decide.2 (by omega))
    rw [HF.out]
    go_enter Tryz.func40, Tryz.ntmps40
    go_wp2_with fail
    refine (len_any sa X _ H.out).mono ?_
    rintro e w2 ⟨rfl, hw⟩
    subst hw
    go_wp2_with fail
    go_ret
    exact ⟨rfl, Below.refl _ _⟩
theorem big_any (W : World) (x : Int) : Calls Tryz.prog 42 #[.int .i64 x] W fun e w' => e = .returned (.bool (decide (x < 0) || decide (1000000000 ≤ x))) ∧ Below W.heap.size W w' := by
  by_cases h0 : x < 0
  · have HF := hid (show decide (x < 0) = true from decide_eq_true h0)
    go_enter Tryz.func42, Tryz.ntmps42
    go_wp2_with fail
    go_ret
    exact ⟨by rw [HF.out]; rfl, Below.refl _ _⟩
  · have HF := hid (show decide (x < 0) = false from decide_eq_false h0)
    rw [HF.out]
    go_enter Tryz.func42, Tryz.ntmps42
    go_wp2_with fail
    go_ret
    exact ⟨rfl, Below.refl _ _⟩
theorem parts_n (n : TN) (q : Value) (W : World) : Calls Tryz.prog 39 #[tnV n q] W fun e w' => ∃ A m c, e = .returned (.slice A m c) ∧ m ≤ 4 ∧ SlA w' 1 A m c ((prtF n).map (.int .i64)) ∧ Below W.heap.size W w' := by
  have b1 := hid ((Below.refl W.heap.size W).alloc (Nat.le_refl _) (.cells #[.int .i64 n.k, .int .i64 n.i, .int .i64 n.e, .int .i64 n.s, .int .i64 n.h, q] 46))
  unfold tnV prtF
  obtain ⟨nk, ni, ne, ns, nh, nu⟩ := n
  dsimp only at b1 ⊢
  by_cases h1 : nk = 1
  · subst h1
    have HR := hid (show SlA ((W.alloc (.cells #[.int .i64 1, .int .i64 ni, .int .i64 ne, .int .i64 ns, .int .i64 nh, q] 46)).alloc (.cells #[.int .i64 ni, .int .i64 ne, .int .i64 ns, .int .i64 nh] 3)) 1 (some ⟨W.heap.size + 1, 0, none⟩) 4 4 [.int .i64 ni, .int .i64 ne, .int .i64 ns, .int .i64 nh] from by
      have h := sla_row (w := W.alloc (.cells #[.int .i64 1, .int .i64 ni, .int .i64 ne, .int .i64 ns, .int .i64 nh, q] 46)) (T := 3) #[.int .i64 ni, .int .i64 ne, .int .i64 ns, .int .i64 nh] (by unfold maxLen; simp)
      rw [size_al] at h
      exact h)
    go_enter Tryz.func39, Tryz.ntmps39
    go_wp2_with fail
    go_ret
    exact ⟨_, _, _, rfl, by decide, HR.out, b1.out.alloc b1.out.size _⟩
  · by_cases h2 : nk = 2
    · subst h2
      have HR := hid (show SlA ((W.alloc (.cells #[.int .i64 2, .int .i64 ni, .int .i64 ne, .int .i64 ns, .int .i64 nh, q] 46)).alloc (.cells #[.int .i64 ne, .int .i64 nh] 3)) 1 (some ⟨W.heap.size + 1, 0, none⟩) 2 2 [.int .i64 ne, .int .i64 nh] from by
      have h := sla_row (w := W.alloc (.cells #[.int .i64 2, .int .i64 ni, .int .i64 ne, .int .i64 ns, .int .i64 nh, q] 46)) (T := 3) #[.int .i64 ne, .int .i64 nh] (by unfold maxLen; simp)
      rw [size_al] at h
      exact h)
      go_enter Tryz.func39, Tryz.ntmps39
      go_wp2_with fail
      go_ret
      exact ⟨_, _, _, rfl, by decide, HR.out, b1.out.alloc b1.out.size _⟩
    · have hb1 : (nk == 1) = false := beq_eq_false_iff_ne.2 h1
      have hb2 : (nk == 2) = false := beq_eq_false_iff_ne.2 h2
      have HE := hid (show (if nk = 1 then [ni, ne, ns, nh] else if nk = 2 then [ne, nh] else []) = ([] : List Int) by rw [if_neg h1, if_neg h2])
      rw [HE.out]
      go_enter Tryz.func39, Tryz.ntmps39
      go_wp2_with fail
      go_ret
      exact ⟨none, 0, 0, rfl, by decide, SlA.nil _ _, b1.out⟩
end
end Go.Proofs.YtfmkniakfgpgjaaGreatDoor

