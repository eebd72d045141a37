import Derived.Test.YtkgobglmkhkbbaaGreatDoorZ13
import Derived.Deep.RegionWith
import Derived.Deep.RegionHeld3
import Derived.Deep.DeepCutAuto
import Derived.Deep.CutRange
import Derived.StillTailTactics
import Derived.Test.YtkgobglmkhkbbaaGreatDoorZ12
/- law 11: dump, same. -/
namespace Go.Proofs.YtkgobglmkhkbbaaGreatDoor
open Go.RowKit Go.KK Go.Shelf Go.Maps
set_option linter.unusedVariables false
set_option linter.unusedSimpArgs false

theorem infoND : (Tryz.prog.info? 88).map (fun i => (i.zero, i.size, i.bytes)) = some (some (.agg #[.int .i64 0, .int .i64 0, .string ⟨#[]⟩, .slice none 0 0]), 4, 56) := by kernel_rfl
theorem sla_lit {w : World} {T : TypeId} (vs : Array Value) (size : Nat) (hs : vs.size = size) (hm : vs.size ≤ maxLen) : SlA (w.alloc (.cells vs T)) size (some ⟨w.heap.size, 0, none⟩) 1 1 vs.toList :=
  ⟨Nat.le_refl _, by unfold maxLen; omega, by simp [hs], (sla_row (w := w) (T := T) vs hm).cells⟩
/-- A row of nodes that the call has made, so far. -/
structure DmP (W U : World) (v : Value) (xs : List ND) (qs : List Value) : Prop where
  row : U.ownsRow W.heap.size 88 4 v xs.length (nds xs qs)
  ql : qs.length = xs.length
  rd : ∀ (j : Nat) x q, xs[j]? = some x → qs[j]? = some q → In1 U q x.l
  own : ∀ (j : Nat) x q b, xs[j]? = some x → qs[j]? = some q → x.l ≠ [] → q.ownBlock = some b → v.ownBlock ≠ some b
  bl : Below W.heap.size W U
section
variable {W U U' : World} {v v' q : Value} {xs : List ND} {qs : List Value} {x : ND}
theorem DmP.ext (h : DmP W U v xs qs) (hb : Below U.heap.size U U') : DmP W U' v xs qs :=
  ⟨own_ext h.row hb, h.ql, fun j x q hx hq => (h.rd j x q hx hq).ext hb, h.own, h.bl.trans (hb.mono h.bl.size)⟩
theorem In1.lt (h : In1 U q x.l) (hn : x.l ≠ []) {b : Nat} (hb : q.ownBlock = some b) : b < U.heap.size := by
  obtain ⟨A, c, rfl, hs⟩ := h
  obtain ⟨b1, o1, z, rfl, -, hc⟩ := hs.elemI (k := 0) (List.length_pos_iff.2 hn)
  have e : b1 = b := by simpa [Value.ownBlock] using hb
  subst e
  exact block_lt_of_cell hc
theorem DmP.push (h : DmP W U v xs qs) (hg : U.grownBy U' v.ownBlock) (hr : U'.ownsRow W.heap.size 88 4 v' (xs.length + 1) (nds xs qs ++ x.cells q)) (hv : v'.ownBlock = v.ownBlock ∨ v'.ownBlock = some U.heap.size) (hq : In1 U q x.l) (hqn : x.l ≠ [] → ∀ b, q.ownBlock = some b → v.ownBlock ≠ some b) : DmP W U' v' (xs ++ [x]) (qs ++ [q]) := by
  have hne : ∀ (y : ND) (p : Value) b, In1 U p y.l → y.l ≠ [] → p.ownBlock = some b → v.ownBlock ≠ some b → v'.ownBlock ≠ some b := fun y p b hi hn hb hvb => by
    rcases hv with e | e
    · rw [e]; exact hvb
    · rw [e]; intro k; injection k with k; have := In1.lt hi hn hb; omega
  have hk : ∀ (y : ND) (p : Value), In1 U p y.l → (∀ b, y.l ≠ [] → p.ownBlock = some b → v.ownBlock ≠ some b) → In1 U' p y.l := fun y p hi ho => hi.kept fun b hn hb => hg.block b (In1.lt hi hn hb) (fun e => ho b hn hb e.symm)
  refine ⟨by rw [nds_snoc h.ql, List.length_append]; exact hr, by simp [h.ql], fun j y p hy hp => ?_, fun j y p b hy hp hn hb => ?_, h.bl.grown hg h.bl.size fun b e => (h.row.lt b e).1⟩
  all_goals
    rcases Nat.lt_or_ge j xs.length with hj | hj
    · rw [List.getElem?_append_left hj] at hy
      rw [List.getElem?_append_left (by rw [h.ql]; exact hj)] at hp
      first
        | exact hk y p (h.rd j y p hy hp) fun b hn hb => h.own j y p b hy hp hn hb
        | exact hne y p b (h.rd j y p hy hp) hn hb (h.own j y p b hy hp hn hb)
    · rw [List.getElem?_append_right hj] at hy
      rw [List.getElem?_append_right (by rw [h.ql]; exact hj), h.ql] at hp
      rcases hk' : j - xs.length with _ | k
      · rw [hk'] at hy hp
        injection hy with hy; injection hp with hp
        subst hy; subst hp
        first
          | exact hk _ _ hq fun b hn hb => hqn hn b hb
          | exact hne _ _ b hq hn hb (hqn hn b hb)
      · rw [hk'] at hy; simp at hy
theorem DmP.nd (h : DmP W U v xs qs) : ∃ A c, v = .slice A xs.length c ∧ NdA U A xs.length c xs := by
  obtain ⟨A, c, rfl, hs⟩ := SlA.owned h.row
  exact ⟨A, c, rfl, qs, h.ql, hs, h.rd⟩
end
set_option maxHeartbeats 4000000 in
set_option maxRecDepth 100000 in
theorem dump_any (sa : Nat) (X : List ND) (W : World) (h : ArV W 124 sa X) :
    Calls Tryz.prog 27 #[.pointer (some ⟨sa, 0, none⟩)] W fun e w' => ∃ A c, e = .returned (.slice A X.length c) ∧ NdA w' A X.length c X ∧ Below W.heap.size W w' := by
  obtain ⟨i0, hi, hz0, hz1, hz2⟩ := info_parts infoND
  have H := hid h; have HLN := hid h.ok.len
  clear h
  go_enter Tryz.func27, Tryz.ntmps27
  go_wp2_with fail
  refine (len_any sa X W H.out).mono ?_
  rintro e w1 ⟨rfl, hw0⟩
  have hw := hw0.symm
  clear hw0
  subst hw
  go_wp2_with fail
  go_loopw [9, 3] (fun i l wr => ∃ (j : Nat) (v : Value) (qs : List Value), i = .int .i64 j ∧ j ≤ X.length ∧ l = v ∧ Hid (DmP W wr v (X.take j) qs)) (fun i _ _ => X.length - (intOf i).toNat)
  case atStart => exact ⟨0, _, [], rfl, Nat.zero_le _, rfl, hid ⟨World.ownsRow_nil _ _ _ _, rfl, fun j x q h => by simp at h, fun j x q b h => by simp at h, Below.refl _ _⟩⟩
  case round =>
    obtain ⟨j, v, qs, hv, hj, hl, HD⟩ := hrel
    subst hv; subst hl
    have hXl := HLN.out
    obtain ⟨A, c, hvv, -⟩ := HD.out.nd
    rw [List.length_take, Nat.min_eq_left hj] at hvv
    subst hvv
    by_cases hlt : j < X.length
    · have hlt' : (j : Int) < (X.length : Int) := by omega
      have HLT := hid hlt
      have HN := hid (node_any sa X (j : Int) wr (H.out.ext HD.out.bl))
      have hxj : X[j]? = some (nodeF X (j : Int)) := by
        unfold nodeF
        rw [if_pos (has_iff.2 ⟨by omega, by omega⟩), Int.toNat_natCast, List.getD, List.getElem?_eq_getElem hlt]; rfl
      have HE := hid (show nodeE X (j : Int) = 0 by unfold nodeE; rw [if_pos (has_iff.2 ⟨by omega, by omega⟩)])
      rw [HE.out] at HN
      have HXJ := hid hxj
      clear hxj hlt HE
      generalize nodeF X (j : Int) = x at *
      obtain ⟨xo, xn, xs, xl⟩ := x
      dsimp only at HN
      go_wp2_with fail
      refine HN.out.mono ?_
      rintro e w2 ⟨A2, c2, rfl, hrow, hb⟩
      have D2 := hid (HD.out.ext hb)
      have HQ := hid (show In1 w2 (.slice A2 xl.length c2) xl from by
        obtain ⟨A', c', e', hs⟩ := SlA.owned hrow
        injection e' with e1 e2 e3
        subst e1; subst e3
        exact ⟨_, _, rfl, hs⟩)
      have HQN := hid (show ∀ b, (Value.slice A2 xl.length c2).ownBlock = some b → (Value.slice A j c).ownBlock ≠ some b from fun b hb' hv' => by
        have h1 := (hrow.lt b hb').1
        have h2 := (HD.out.row.lt b hv').2
        omega)
      have D3 := hid ((D2.out.ext ((Below.refl _ _).alloc (Nat.le_refl _) (.cells #[.int .i64 xo, .int .i64 xn, .string xs, .slice A2 xl.length c2] 88))).ext ((Below.refl _ _).alloc (Nat.le_refl _) (.cells #[.int .i64 xo, .int .i64 xn, .string xs, .slice A2 xl.length c2] 88)))
      have HQ3 := hid (show In1 ((w2.alloc (.cells #[.int .i64 xo, .int .i64 xn, .string xs, .slice A2 xl.length c2] 88)).alloc (.cells #[.int .i64 xo, .int .i64 xn, .string xs, .slice A2 xl.length c2] 88)) (.slice A2 xl.length c2) xl from (HQ.out.ext ((Below.refl _ _).alloc (Nat.le_refl _) _)).ext ((Below.refl _ _).alloc (Nat.le_refl _) _))
      have HOW := hid (show ((w2.alloc (.cells #[.int .i64 xo, .int .i64 xn, .string xs, .slice A2 xl.length c2] 88)).alloc (.cells #[.int .i64 xo, .int .i64 xn, .string xs, .slice A2 xl.length c2] 88)).ownsRow W.heap.size 88 4 (.slice A j c) j (nds (X.take j) qs) from by
        have := D3.out.row
        rwa [List.length_take, Nat.min_eq_left hj] at this)
      have hsz := D3.out.bl.size
      have hj5 : j ≤ 100000 := by omega
      have hones : ∀ u ∈ [Value.int .i64 xo, .int .i64 xn, .string xs, .slice A2 xl.length c2], u.oneCell' = true := fun u hu => by
        simp only [List.mem_cons, List.mem_nil_iff, or_false] at hu
        rcases hu with rfl | rfl | rfl | rfl <;> rfl
      have HSL := hid (show SlA ((w2.alloc (.cells #[.int .i64 xo, .int .i64 xn, .string xs, .slice A2 xl.length c2] 88)).alloc (.cells #[.int .i64 xo, .int .i64 xn, .string xs, .slice A2 xl.length c2] 88)) 4 (some ⟨w2.heap.size + 1, 0, none⟩) 1 1 [.int .i64 xo, .int .i64 xn, .string xs, .slice A2 xl.length c2] from by
        have := sla_lit (w := w2.alloc (.cells #[.int .i64 xo, .int .i64 xn, .string xs, .slice A2 xl.length c2] 88)) (T := 88) #[.int .i64 xo, .int .i64 xn, .string xs, .slice A2 xl.length c2] 4 rfl (by unfold maxLen; simp)
        rw [show (w2.alloc (.cells #[.int .i64 xo, .int .i64 xn, .string xs, .slice A2 xl.length c2] 88)).heap.size = w2.heap.size + 1 by simp] at this
        exact this)
      have hm1 : j + 1 ≤ maxLen := by unfold maxLen; omega
      have hm2 : (j + 1) * 56 ≤ 140737488355328 := by omega
      clear hrow hb HN HD D2
      go_wp2_with (at_builtin; refine wpList_append_sl _ rfl _ _ 47 rfl W.heap.size 88 i0 (.agg #[.int .i64 0, .int .i64 0, .string ⟨#[]⟩, .slice none 0 0]) 4 56 Tryz.underlying47 hi hz0 hz1 hz2 rfl (by decide) (.slice A j c) j (nds (X.take j) qs) rfl HOW.out _ 1 1 [.int .i64 xo, .int .i64 xn, .string xs, .slice A2 xl.length c2] rfl HSL.out hones hm1 hm2 hsz ?_; intro v5 w5 own5 gr5 loc5; have HO5 := hid own5; have HG5 := hid gr5; have HL5 := hid loc5; clear own5 gr5 loc5)
      have HDN := hid (D3.out.push (x := ⟨xo, xn, xs, xl⟩) (q := .slice A2 xl.length c2) HG5.out (by rw [List.length_take, Nat.min_eq_left hj]; exact HO5.out) HL5.out HQ3.out fun _ => HQN.out)
      go_roundw
      case rel => exact ⟨j + 1, v5, _, by go_num, by have := HLT.out; omega, rfl, hid (by rw [take_one HXJ.out]; exact HDN.out)⟩
      case measure => have := HLT.out; simp [intOf]; omega
    · obtain rfl : j = X.length := by omega
      have hlt' : ¬ (X.length : Int) < (X.length : Int) := by omega
      obtain ⟨A', c', e', hn⟩ := HD.out.nd
      rw [List.take_length] at e' hn
      injection e' with e1 e2 e3
      subst e1; subst e3
      have HNN := hid hn
      clear hn e2
      go_wp2_with fail
      go_ret
      exact ⟨A, c, rfl, HNN.out, HD.out.bl⟩
end Go.Proofs.YtkgobglmkhkbbaaGreatDoor

/- law 11: same. -/
namespace Go.Proofs.YtkgobglmkhkbbaaGreatDoor
open Go.RowKit Go.KK Go.Shelf Go.Maps
set_option linter.unusedVariables false
set_option linter.unusedSimpArgs false

/-- Behind the boxes and the map of same. -/
structure SaP (w0 : World) (sa sb H mb : Nat) (X : List ND) (ep : List Int) (U : World) (M : List (Int × Int)) : Prop where
  a : ArV U 124 sa X
  b : ArV U 104 sb X
  x : ∀ k u, ((ep.map (Value.int .i64)).toArray)[k]? = some u → U.cell? ⟨H, k, none⟩ = some u
  y : ∀ k u, ((ep.map (Value.int .i64)).toArray)[k]? = some u → U.cell? ⟨H + 1, k, none⟩ = some u
  m : MtP U mb M
  bl : Below w0.heap.size w0 U
  hm : w0.heap.size ≤ mb
section
variable {w0 U U' : World} {sa sb H mb : Nat} {X : List ND} {ep : List Int} {M M' : List (Int × Int)}
theorem SaP.ext (h : SaP w0 sa sb H mb X ep U M) (hb : Below U.heap.size U U') : SaP w0 sa sb H mb X ep U' M :=
  ⟨h.a.ext hb, h.b.ext hb, fun k u hk => (hb.cell (p := ⟨H, k, none⟩) (block_lt_of_cell (h.x k u hk))).trans (h.x k u hk), fun k u hk => (hb.cell (p := ⟨H + 1, k, none⟩) (block_lt_of_cell (h.y k u hk))).trans (h.y k u hk), h.m.block (hb.block _ h.m.lt), h.bl.trans (hb.mono h.bl.size), h.hm⟩
/-- A call that turns the map alone. -/
theorem SaP.turn (h : SaP w0 sa sb H mb X ep U M) (ht : Turn (fun b => b = mb) U U') (hm : MtP U' mb M') : SaP w0 sa sb H mb X ep U' M' :=
  ⟨h.a.keep (ht.block sa (by obtain ⟨A, c, m, h0, -, -⟩ := h.a.parts; exact block_lt_of_cell h0) (by obtain ⟨A, c, m, h0, -, -⟩ := h.a.parts; exact h.m.ne h0)) fun b o u hc => h.m.keep ht hc, h.b.keep (ht.block sb (by obtain ⟨A, c, m, h0, -, -⟩ := h.b.parts; exact block_lt_of_cell h0) (by obtain ⟨A, c, m, h0, -, -⟩ := h.b.parts; exact h.m.ne h0)) fun b o u hc => h.m.keep ht hc,
    fun k u hk => h.m.keep ht (h.x k u hk), fun k u hk => h.m.keep ht (h.y k u hk), hm, h.bl.trans (ht.below (fun b e => e ▸ h.hm) h.bl.size), h.hm⟩
end
set_option maxHeartbeats 8000000 in
set_option maxRecDepth 100000 in
theorem sla_at {w : World} {b n c : Nat} {l : List Int} (h : SlA w 1 (some ⟨b, 0, none⟩) n c (l.map (.int .i64))) {j : Nat} (hj : j < n) : ∃ z, l[j]? = some z ∧ w.cell? ⟨b, j, none⟩ = some (.int .i64 z) := by
  obtain ⟨b', o', z, e, hz, hc⟩ := h.elemI hj
  injection e with e
  injection e with e1 e2
  subst e1; subst e2
  exact ⟨z, hz, by simpa using hc⟩
theorem inL_mem {ep : List Int} (h : ep.length = 11) {a : Int} (ha : a ∈ inL ep) : a ∈ ep := by
  obtain ⟨e0, e1, e2, e3, e4, e5, e6, e7, e8, e9, e10, rfl⟩ := len11 h
  have ha' : a ∈ [e0, e1, e2, e3, e4, e5, e6, e7, e8, e10] := ha
  simp only [List.mem_cons, List.mem_nil_iff, or_false] at ha'
  rcases ha' with rfl | rfl | rfl | rfl | rfl | rfl | rfl | rfl | rfl | rfl <;> simp
set_option maxHeartbeats 8000000 in
set_option maxRecDepth 100000 in
theorem same11_any (sa sb : Nat) (X : List ND) (ep : List Int) (e : Int) (W : World) (ha : ArV W 124 sa X) (hb : ArV W 104 sb X) (okX : Okay X) (hsz : W.heap.size = W.heap.size) (h11 : ep.length = 11) (hx : e = 0 → ∀ a ∈ ep, hasB X a = true) (hz : e ≠ 0 → ep = epZ) :
    Calls Tryz.prog 24 #[.pointer (some ⟨sa, 0, none⟩), .pointer (some ⟨sb, 0, none⟩), epV ep, .int .i64 e, epV ep, .int .i64 e] W fun en w' => en = .returned (.bool true) ∧ Below W.heap.size W w' := by
  have HA := hid ha; have HB := hid hb
  by_cases he : e = 0
  rotate_left
  · have hne : (e != 0) = true := bne_iff_ne.2 he
    have hee : (e == e) = true := beq_self_eq_true e
    have hez := hz he
    subst hez
    have HBL := hid (show Below W.heap.size W ((W.alloc (.cells #[.int .i64 0, .int .i64 0, .int .i64 0, .int .i64 0, .int .i64 0, .int .i64 0, .int .i64 0, .int .i64 0, .int .i64 0, .int .i64 0, .int .i64 0] 30)).alloc (.cells #[.int .i64 0, .int .i64 0, .int .i64 0, .int .i64 0, .int .i64 0, .int .i64 0, .int .i64 0, .int .i64 0, .int .i64 0, .int .i64 0, .int .i64 0] 30)) from ((Below.refl _ _).alloc (Nat.le_refl _) _).alloc (by simp) _)
    clear he hx hz ha hb hsz h11
    show Calls Tryz.prog 24 #[.pointer (some ⟨sa, 0, none⟩), .pointer (some ⟨sb, 0, none⟩), .agg #[.int .i64 0, .int .i64 0, .int .i64 0, .int .i64 0, .int .i64 0, .int .i64 0, .int .i64 0, .int .i64 0, .int .i64 0, .int .i64 0, .int .i64 0], .int .i64 e, .agg #[.int .i64 0, .int .i64 0, .int .i64 0, .int .i64 0, .int .i64 0, .int .i64 0, .int .i64 0, .int .i64 0, .int .i64 0, .int .i64 0, .int .i64 0], .int .i64 e] W _
    go_enter Tryz.func24, Tryz.ntmps24
    go_wp2_with fail
    go_ret
    exact ⟨rfl, HBL.out⟩
  · subst he
    have HX := hid (hx rfl)
    have HLN := hid ha.ok.len
    have HOK := hid okX
    have hmm := @run_makeMap Tryz.prog
    clear hx hz
    have HS0 := hid (show SaP W sa sb W.heap.size (W.heap.size + 2) X ep (((W.alloc (.cells (ep.map (Value.int .i64)).toArray 30)).alloc (.cells (ep.map (Value.int .i64)).toArray 30)).alloc (.map #[] 0)) [] from by
      have b1 : Below W.heap.size W (W.alloc (.cells (ep.map (Value.int .i64)).toArray 30)) := (Below.refl _ _).alloc (Nat.le_refl _) _
      have b2 : Below W.heap.size W ((W.alloc (.cells (ep.map (Value.int .i64)).toArray 30)).alloc (.cells (ep.map (Value.int .i64)).toArray 30)) := b1.alloc (by simp) _
      have b3 : Below W.heap.size W (((W.alloc (.cells (ep.map (Value.int .i64)).toArray 30)).alloc (.cells (ep.map (Value.int .i64)).toArray 30)).alloc (.map #[] 0)) := b2.alloc (by simp; omega) _
      have m := MtP.new ((W.alloc (.cells (ep.map (Value.int .i64)).toArray 30)).alloc (.cells (ep.map (Value.int .i64)).toArray 30))
      have hz1 : (W.alloc (.cells (ep.map (Value.int .i64)).toArray 30)).heap.size = W.heap.size + 1 := by simp
      have hz2 : ((W.alloc (.cells (ep.map (Value.int .i64)).toArray 30)).alloc (.cells (ep.map (Value.int .i64)).toArray 30)).heap.size = W.heap.size + 2 := by simp
      rw [hz2] at m
      have g0 := heap_alloc_new W (.cells (ep.map (Value.int .i64)).toArray 30)
      have g1 := heap_alloc_new (W.alloc (.cells (ep.map (Value.int .i64)).toArray 30)) (.cells (ep.map (Value.int .i64)).toArray 30)
      rw [hz1] at g1
      refine ⟨ha.ext b3, hb.ext b3, fun k u hk => ?_, fun k u hk => ?_, m, b3, by omega⟩
      · have g := ((((Below.refl (W.alloc (.cells (ep.map (Value.int .i64)).toArray 30)).heap.size _).alloc (Nat.le_refl _) (.cells (ep.map (Value.int .i64)).toArray 30)).alloc (by simp) (.map #[] 0)).block W.heap.size (by simp)).trans g0
        rw [cell_of_row _ W.heap.size k _ _ (0, 0) g]; exact hk
      · have g := (((Below.refl ((W.alloc (.cells (ep.map (Value.int .i64)).toArray 30)).alloc (.cells (ep.map (Value.int .i64)).toArray 30)).heap.size _).alloc (Nat.le_refl _) (.map #[] 0)).block (W.heap.size + 1) (by simp)).trans g1
        rw [cell_of_row _ (W.heap.size + 1) k _ _ (0, 0) g]; exact hk)
    clear ha hb HA HB hsz
    have HIN := hid (fun U => inner_any ep U h11)
    have HRIN := hid (fun U => rinner_any ep U h11)
    have HEV := hid (show ∀ a ∈ inL ep, hasB X a = true from fun a ha => HX.out a (inL_mem h11 ha))
    have hext : hasB X (ep.getD 9 0) = true := HX.out _ (by rw [List.getD, List.getElem?_eq_getElem (by omega)]; exact List.getElem_mem _)
    have HEXT := hid hext
    have HILN := hid (show (inL ep).length = 10 from rfl)
    have h9 : ((ep.map (Value.int .i64)).toArray)[9]? = some (.int .i64 (ep.getD 9 0)) := by rw [List.getElem?_toArray, List.getElem?_map, List.getD, List.getElem?_eq_getElem (by omega)]; rfl
    have H9 := hid h9
    clear hext h9 HX
    obtain ⟨e0, e1, e2, e3, e4, e5, e6, e7, e8, e9, e10, rfl⟩ := len11 h11
    clear h11
    unfold epV at HIN HRIN ⊢
    go_enter Tryz.func24, Tryz.ntmps24
    go_upto_region 4 with fail
    refine forget (R := fun U => SaP W sa sb W.heap.size (W.heap.size + 2) X [e0, e1, e2, e3, e4, e5, e6, e7, e8, e9, e10] U []) ?_ HS0.out
    clear HS0
    rintro V hS
    have HS := hid hS
    have x0 : V.cell? ⟨W.heap.size, 0, none⟩ = some (.int .i64 e0) := hS.x 0 _ rfl
    have x1 : V.cell? ⟨W.heap.size, 1, none⟩ = some (.int .i64 e1) := hS.x 1 _ rfl
    have x2 : V.cell? ⟨W.heap.size, 2, none⟩ = some (.int .i64 e2) := hS.x 2 _ rfl
    have x3 : V.cell? ⟨W.heap.size, 3, none⟩ = some (.int .i64 e3) := hS.x 3 _ rfl
    have x4 : V.cell? ⟨W.heap.size, 4, none⟩ = some (.int .i64 e4) := hS.x 4 _ rfl
    have x5 : V.cell? ⟨W.heap.size, 5, none⟩ = some (.int .i64 e5) := hS.x 5 _ rfl
    have x6 : V.cell? ⟨W.heap.size, 6, none⟩ = some (.int .i64 e6) := hS.x 6 _ rfl
    have x7 : V.cell? ⟨W.heap.size, 7, none⟩ = some (.int .i64 e7) := hS.x 7 _ rfl
    have x8 : V.cell? ⟨W.heap.size, 8, none⟩ = some (.int .i64 e8) := hS.x 8 _ rfl
    have x9 : V.cell? ⟨W.heap.size, 9, none⟩ = some (.int .i64 e9) := hS.x 9 _ rfl
    have x10 : V.cell? ⟨W.heap.size, 10, none⟩ = some (.int .i64 e10) := hS.x 10 _ rfl
    clear hS
    go_wp2_with fail
    refine (HIN.out V).mono ?_
    rintro en V1 ⟨b1, rfl, -, -, hs1, hb1⟩
    have HS1 := hid (HS.out.ext hb1)
    have HR1 := hid hs1
    have hS := HS1.out
    have y0 : V1.cell? ⟨W.heap.size + 1, 0, none⟩ = some (.int .i64 e0) := hS.y 0 _ rfl
    have y1 : V1.cell? ⟨W.heap.size + 1, 1, none⟩ = some (.int .i64 e1) := hS.y 1 _ rfl
    have y2 : V1.cell? ⟨W.heap.size + 1, 2, none⟩ = some (.int .i64 e2) := hS.y 2 _ rfl
    have y3 : V1.cell? ⟨W.heap.size + 1, 3, none⟩ = some (.int .i64 e3) := hS.y 3 _ rfl
    have y4 : V1.cell? ⟨W.heap.size + 1, 4, none⟩ = some (.int .i64 e4) := hS.y 4 _ rfl
    have y5 : V1.cell? ⟨W.heap.size + 1, 5, none⟩ = some (.int .i64 e5) := hS.y 5 _ rfl
    have y6 : V1.cell? ⟨W.heap.size + 1, 6, none⟩ = some (.int .i64 e6) := hS.y 6 _ rfl
    have y7 : V1.cell? ⟨W.heap.size + 1, 7, none⟩ = some (.int .i64 e7) := hS.y 7 _ rfl
    have y8 : V1.cell? ⟨W.heap.size + 1, 8, none⟩ = some (.int .i64 e8) := hS.y 8 _ rfl
    have y9 : V1.cell? ⟨W.heap.size + 1, 9, none⟩ = some (.int .i64 e9) := hS.y 9 _ rfl
    have y10 : V1.cell? ⟨W.heap.size + 1, 10, none⟩ = some (.int .i64 e10) := hS.y 10 _ rfl
    clear hs1 hb1 HS hS
    go_wp2_with fail
    refine (HRIN.out V1).mono ?_
    rintro en V2 ⟨b2, rfl, -, -, hs2, hb2⟩
    have HS2 := hid (HS1.out.ext hb2)
    have HR2 := hid hs2
    have HR3 := hid (HR1.out.ext hb2)
    clear hs2 hb2 HS1 HR1 HIN HRIN
    go_upto_region 6 with fail
    have H9X := HEXT.out
    have HEX := hid (show hasB X e9 = true from H9X)
    clear H9X HEXT H9
    go_cut [54] from 38 to 54 (fun v U => v = .bool false ∧ ∃ M, SaP W sa sb W.heap.size (W.heap.size + 2) X [e0, e1, e2, e3, e4, e5, e6, e7, e8, e9, e10] U M ∧ SlA U 1 (some ⟨b1, 0, none⟩) 10 10 ((inL [e0, e1, e2, e3, e4, e5, e6, e7, e8, e9, e10]).map (.int .i64)) ∧ SlA U 1 (some ⟨b2, 0, none⟩) 10 10 ((inL [e0, e1, e2, e3, e4, e5, e6, e7, e8, e9, e10]).map (.int .i64)))
    case first =>
      have HPK := hid (fun (U : World) (M : List (Int × Int)) (h : SaP W sa sb W.heap.size (W.heap.size + 2) X [e0, e1, e2, e3, e4, e5, e6, e7, e8, e9, e10] U M) => (show U.cell? ⟨W.heap.size, 9, none⟩ = some (.int .i64 e9) ∧ U.cell? ⟨W.heap.size + 1, 9, none⟩ = some (.int .i64 e9) from ⟨h.x 9 _ rfl, h.y 9 _ rfl⟩))
      have HS3 := hid (HS2.out.ext (below_drew (Below.refl _ _)))
      have HRR := hid (And.intro (HR3.out.ext (below_drew (Below.refl _ _))) (HR2.out.ext (below_drew (Below.refl _ _))))
      clear HEV HR3 HR2
      go_region_held3 (fun U => U.cell? ⟨W.heap.size, 9, none⟩ = some (.int .i64 e9) ∧ U.cell? ⟨W.heap.size + 1, 9, none⟩ = some (.int .i64 e9)) (first | exact HPK.out _ _ HS2.out | exact HPK.out _ _ HS3.out | exact HPK.out _ _ HS4.out | exact HPK.out _ _ HS5.out | go_keep) (first
        | (go_at_call 27; refine (dump_any sa X _ HS3.out.a).mono ?_; rintro e4 w4 ⟨A4, c4, rfl, n4, bl4⟩; have HS4 := hid (HS3.out.ext bl4); have HR4 := hid (And.intro (HRR.out.1.ext bl4) (HRR.out.2.ext bl4)); have HBI := hid (bisim_any HLN.out HOK.out (bs_same HOK.out HEX.out) HS4.out.b n4 HS4.out.m); clear n4 bl4)
        | (go_at_call 26; refine HBI.out.mono ?_; rintro e5 w5 ⟨rfl, ⟨M5, m5, -⟩, t5⟩; have HS5 := hid (HS4.out.turn t5 m5); have S5 := hid (And.intro HS5.out (And.intro (HR4.out.1.keep fun b o u hc => HS4.out.m.keep t5 hc) (HR4.out.2.keep fun b o u hc => HS4.out.m.keep t5 hc))); clear m5 t5))
      all_goals (go_wp2_with fail; go_meet; exact ⟨rfl, _, S5.out⟩)
    obtain ⟨hcv, M, hS, hr1, hr2⟩ := hcut
    subst hcv
    have HS := hid hS; have HR1 := hid hr1; have HR2 := hid hr2
    clear hS hr1 hr2 HS2 HR3
    go_wp2_with fail
    refine (dump_any sa X wc HS.out.a).mono ?_
    rintro e6 w6 ⟨A6, c6, rfl, n6, bl6⟩
    have HS6 := hid (HS.out.ext bl6)
    have HN6 := hid n6
    have HA6 := hid (HR1.out.ext bl6)
    have HB6 := hid (HR2.out.ext bl6)
    clear HS HR1 HR2 n6 bl6
    go_wp2_with fail
    go_loopw [59] (fun v wr => ∃ (j : Nat) (M : List (Int × Int)), v = .int .i64 j ∧ j ≤ 10 ∧ SaP W sa sb W.heap.size (W.heap.size + 2) X [e0, e1, e2, e3, e4, e5, e6, e7, e8, e9, e10] wr M ∧ SlA wr 1 (some ⟨b1, 0, none⟩) 10 10 ((inL [e0, e1, e2, e3, e4, e5, e6, e7, e8, e9, e10]).map (.int .i64)) ∧ SlA wr 1 (some ⟨b2, 0, none⟩) 10 10 ((inL [e0, e1, e2, e3, e4, e5, e6, e7, e8, e9, e10]).map (.int .i64)) ∧ NdA wr A6 X.length c6 X) (fun v _ => 10 - (intOf v).toNat)
    case atStart => exact ⟨0, M, rfl, by omega, HS6.out, HA6.out, HB6.out, HN6.out⟩
    case round =>
      clear HS6 HN6 HA6 HB6 HEX
      obtain ⟨j, M, hv, hj, hS, h1, h2, hn⟩ := hrel
      have HS := hid hS; have H1 := hid h1; have H2 := hid h2; have HN := hid hn
      clear hS h1 h2 hn
      by_cases hlt : j < 10
      · subst hv
        have hlt' : (j : Int) < 10 := by omega
        have HLT := hid hlt
        obtain ⟨z, hz, cz1⟩ := sla_at H1.out hlt
        obtain ⟨z2, hz2, cz2⟩ := sla_at H2.out hlt
        obtain rfl : z = z2 := Option.some.inj (hz.symm.trans hz2)
        have hzb := HEV.out z (List.mem_of_getElem? hz)
        have HDR := hid (HS.out.ext (below_drew (Below.refl _ _)))
        have HBI := hid (bisim_any HLN.out HOK.out (bs_same HOK.out hzb) HDR.out.b (HN.out.ext (below_drew (Below.refl _ _))) HDR.out.m)
        clear hz hz2 hzb hlt
        go_wp2_with fail
        go_still_tail 11, (by kernel_rfl)
        go_wp2_with fail
        refine HBI.out.mono ?_
        rintro e5 w5 ⟨rfl, ⟨M5, m5, -⟩, t5⟩
        have HF := hid (show SaP W sa sb W.heap.size (W.heap.size + 2) X [e0, e1, e2, e3, e4, e5, e6, e7, e8, e9, e10] w5 M5 ∧ SlA w5 1 (some ⟨b1, 0, none⟩) 10 10 ((inL [e0, e1, e2, e3, e4, e5, e6, e7, e8, e9, e10]).map (.int .i64)) ∧ SlA w5 1 (some ⟨b2, 0, none⟩) 10 10 ((inL [e0, e1, e2, e3, e4, e5, e6, e7, e8, e9, e10]).map (.int .i64)) ∧ NdA w5 A6 X.length c6 X from
          ⟨HDR.out.turn t5 m5, (H1.out.ext (below_drew (Below.refl _ _))).keep fun b o u hc => HDR.out.m.keep t5 hc, (H2.out.ext (below_drew (Below.refl _ _))).keep fun b o u hc => HDR.out.m.keep t5 hc, (HN.out.ext (below_drew (Below.refl _ _))).keep fun b o u hc => HDR.out.m.keep t5 hc⟩)
        clear m5 t5 HBI HS H1 H2 HN HDR cz1 cz2
        go_wp2_with fail
        go_roundw
        case rel => exact ⟨j + 1, M5, by go_num, by have := HLT.out; omega, HF.out⟩
        case measure => have := HLT.out; simp [intOf]; omega
      · obtain rfl : j = 10 := by omega
        have hv' : u59 = .int .i64 10 := hv
        clear hv
        subst hv'
        have HF := hid HS.out.bl
        clear HS H1 H2 HN hlt hj
        go_wp2_with fail
        go_ret
        exact ⟨rfl, HF.out⟩
end Go.Proofs.YtkgobglmkhkbbaaGreatDoor

/- schedule's law: ScheduleJoins walked. -/
namespace Go.KK
open Go.RowKit
set_option linter.unusedVariables false
set_option linter.unusedSimpArgs false
theorem nx_err {xs : List ND} {i c x : Int} {l : List Int} (h : (nxF xs i c x l).2.2 ≠ 0) : (nxF xs i c x l).2.1 = epZ := by
  unfold nxF at h ⊢
  by_cases h0 : (jnF xs i c x).2.2 = 0
  · rw [if_pos h0] at h ⊢
    by_cases h1 : (pskF (jnF xs i c x).1 l).2.2 = 0
    · rw [if_pos h1] at h ⊢
      unfold begF at h ⊢
      by_cases h2 : (bgF (pskF (jnF xs i c x).1 l).1 (jnF xs i c x).2.1 (pskF (jnF xs i c x).1 l).2.1 x).2.2 = 0
      · rw [if_pos h2] at h; exact absurd rfl h
      · rw [if_neg h2]
    · rw [if_neg h1]
  · rw [if_neg h0]
theorem nx_j {xs : List ND} {i c x : Int} {l : List Int} (h : (nxF xs i c x l).2.2 = 0) : (nxF xs i c x l).2.1.getD 0 0 = (jnF xs i c x).2.1 := by
  obtain ⟨h0, h1, h2⟩ := nx_parts h
  rw [h2] at h ⊢
  unfold begF at h ⊢
  by_cases h3 : (bgF (pskF (jnF xs i c x).1 l).1 (jnF xs i c x).2.1 (pskF (jnF xs i c x).1 l).2.1 x).2.2 = 0
  · rw [if_pos h3]; rfl
  · rw [if_neg h3] at h; exact absurd h h3
/-- The law: the epoch again, by its joiner secret and the shared ones. -/
theorem jn_law {xs : List ND} {i c x : Int} {l : List Int} (ok : Okay xs) (h : (nxF xs i c x l).2.2 = 0) : ∃ p, pskF (nxF xs i c x l).1 l = ((nxF xs i c x l).1, p, 0) ∧ begF (nxF xs i c x l).1 ((nxF xs i c x l).2.1.getD 0 0) p x = ((nxF xs i c x l).1, (nxF xs i c x l).2.1, 0) ∧ nxF (nxF xs i c x l).1 i c x l = ((nxF xs i c x l).1, (nxF xs i c x l).2.1, 0) ∧ hasB (nxF xs i c x l).1 ((nxF xs i c x l).2.1.getD 0 0) = true ∧ hasB (nxF xs i c x l).1 p = true := by
  have := nx_again (m := []) h (by rw [List.append_nil]; exact nx_ok xs i c x l ok)
  rw [List.append_nil] at this
  have hj : hasB (nxF xs i c x l).1 ((nxF xs i c x l).2.1.getD 0 0) = true := by
    obtain ⟨u, p, a, h1, h2, ⟨t, h3, h4⟩, -⟩ := (nx_at h).go
    exact h4.has
  have hp : hasB (nxF xs i c x l).1 (pskF (jnF xs i c x).1 l).2.1 = true := by
    have := (sb_psk l).has (nxF xs i c x l).1 (by show (pskF (nxF xs i c x l).1 l).2.2 = 0; rw [this.1])
    try dsimp only at this
    rename_i h0
    rw [h0.1] at this
    exact this
  rw [nx_j h] at hj ⊢
  exact ⟨_, this.1, this.2.1, this.2.2, hj, hp⟩
end Go.KK
namespace Go.Proofs.YtkgobglmkhkbbaaGreatDoor
open Go.RowKit Go.KK Go.Shelf Go.Maps

set_option maxHeartbeats 4000000 in
set_option maxRecDepth 100000 in
theorem joins_go (i c x : Int) (A : Option Addr) (n cc : Nat) (l : List Int) (w : World) (hi : I64 i) (hc : I64 c) (hx : I64 x) (hl : SlA w 1 A n cc (l.map (.int .i64))) (hli : ∀ i ∈ l, I64 i) (hT : Tb w.heap.size w) :
    Calls Tryz.prog 3 #[.int .i64 i, .int .i64 c, .int .i64 x, .slice A n cc] w fun e w' => e = .returned (.bool true) ∧ Below w.heap.size w w' := by
  have HL := hid hl; have HT := hid hT
  have HLI := hid hli
  have HLV := hid (live_any w hT)
  clear hl hT hli
  go_enter Tryz.func3, Tryz.ntmps3
  go_wp2_with fail
  refine HLV.out.mono ?_
  rintro e w1 ⟨rfl, b1⟩
  have HB1 := hid b1
  have HT1 := hid (show Tb w1.heap.size w1 from Tb.up (HT.out.on b1) b1.size)
  have HL1 := hid (HL.out.ext b1)
  clear b1 HLV HT HL
  by_cases hn : 50 < n
  · have hn1 : (50 : Int) < (n : Int) := by omega
    clear hn
    go_wp2_with fail
    go_ret
    exact ⟨rfl, HB1.out⟩
  have hn1 : ¬ (50 : Int) < (n : Int) := by omega
  have hn50 : n ≤ 50 := by omega
  clear hn
  have HBA := hid (show Below w1.heap.size w1 (w1.alloc (.cells #[.int .i64 i, .int .i64 c, .int .i64 x] 3)) from (Below.refl _ _).alloc (Nat.le_refl _) _)
  have HBY := hid (beyond_any 10 (some ⟨w1.heap.size, 0, none⟩) 3 3 [i, c, x] (w1.alloc (.cells #[.int .i64 i, .int .i64 c, .int .i64 x] 3)) (sla_row #[.int .i64 i, .int .i64 c, .int .i64 x] (by unfold maxLen; simp)) (by omega))
  go_wp2_with fail
  refine HBY.out.mono ?_
  rintro e w2 ⟨⟨b, rfl⟩, hw⟩
  subst hw
  clear HBY
  rcases b with _ | _
  rotate_left
  · go_wp2_with fail
    go_ret
    exact ⟨rfl, HB1.out.trans (HBA.out.mono HB1.out.size)⟩
  have HB2 := hid (HB1.out.trans (HBA.out.mono HB1.out.size))
  have HT2 := hid (show Tb (w1.alloc (.cells #[.int .i64 i, .int .i64 c, .int .i64 x] 3)).heap.size (w1.alloc (.cells #[.int .i64 i, .int .i64 c, .int .i64 x] 3)) from Tb.up (HT1.out.on HBA.out) HBA.out.size)
  have HL2 := hid (HL1.out.ext HBA.out)
  clear HB1 HT1 HL1 HBA
  generalize w1.alloc (.cells #[.int .i64 i, .int .i64 c, .int .i64 x] 3) = w2 at *
  go_wp2_with fail
  refine (beyond_any 10 A n cc l _ HL2.out (by omega)).mono ?_
  rintro e w3 ⟨⟨b, rfl⟩, hw⟩
  subst hw
  rcases b with _ | _
  rotate_left
  · go_wp2_with fail
    go_ret
    exact ⟨rfl, HB2.out⟩
  clear hn1
  go_wp2_with fail
  refine (two_any w3 HT2.out).mono ?_
  rintro e w4 ⟨sa, sb, Z, Z', rfl, htw⟩
  have LC := hid htw.la
  clear htw
  have HLW := hid (fun h => jn_law (xs := atoms 10) (i := i) (c := c) (x := x) (l := l) LC.out.ar.ok h)
  have HER := hid (fun h => nx_err (xs := atoms 10) (i := i) (c := c) (x := x) (l := l) h)
  have h11 := nx_elen (atoms 10) i c x l
  have HN1 := hid (nx_any LC.out HT2.out hi hc hx (SlM.of_in HL2.out LC.out) (by omega) HLI.out)
  generalize nxF (atoms 10) i c x l = r1 at *
  obtain ⟨X, el, er⟩ := r1
  try dsimp only at h11
  obtain ⟨e0, e1, e2, e3, e4, e5, e6, e7, e8, e9, e10, rfl⟩ := len11 h11
  clear h11
  unfold EpS epV at HN1
  go_wp2_with fail
  refine HN1.out.mono ?_
  rintro e w5 ⟨Z5, rfl, l5, -⟩
  have L5 := hid l5
  clear l5 LC HN1
  by_cases he : er = 0
  rotate_left
  · have hz := HER.out he
    injection hz with z0 hz; injection hz with z1 hz; injection hz with z2 hz; injection hz with z3 hz; injection hz with z4 hz; injection hz with z5 hz; injection hz with z6 hz; injection hz with z7 hz; injection hz with z8 hz; injection hz with z9 hz; injection hz with z10 hz
    subst z0; subst z1; subst z2; subst z3; subst z4; subst z5; subst z6; subst z7; subst z8; subst z9; subst z10
    have hne : (er != 0) = true := bne_iff_ne.2 he
    have HBF := hid (HB2.out.trans ((L5.out.alloc (.cells #[.int .i64 0, .int .i64 0, .int .i64 0, .int .i64 0, .int .i64 0, .int .i64 0, .int .i64 0, .int .i64 0, .int .i64 0, .int .i64 0, .int .i64 0] 30)).bl.mono HB2.out.size))
    clear he hz HLW HER
    go_wp2_with fail
    go_ret
    exact ⟨rfl, HBF.out⟩
  · subst he
    obtain ⟨pp, q1, q2, q3, q4, q5⟩ := HLW.out rfl
    try dsimp only at q1 q2 q3 q4 q5
    have he0 : I64 e0 := by have a := has_iff.1 (show hasB X e0 = true from q4); have b := L5.out.ar.ok.len; exact ⟨by omega, by omega⟩
    have hpp : I64 pp := by have a := has_iff.1 q5; have b := L5.out.ar.ok.len; exact ⟨by omega, by omega⟩
    have L6 := hid (L5.out.alloc (.cells #[.int .i64 e0, .int .i64 e1, .int .i64 e2, .int .i64 e3, .int .i64 e4, .int .i64 e5, .int .i64 e6, .int .i64 e7, .int .i64 e8, .int .i64 e9, .int .i64 e10] 30))
    have HE6 := hid (heap_alloc_new w5 (.cells #[.int .i64 e0, .int .i64 e1, .int .i64 e2, .int .i64 e3, .int .i64 e4, .int .i64 e5, .int .i64 e6, .int .i64 e7, .int .i64 e8, .int .i64 e9, .int .i64 e10] 30))
    have HZ6 := hid (show ¬ Z5 w5.heap.size from fun hz => by have := L5.out.ar.zlt _ hz; omega)
    have HPS := hid (l_psk L6.out HT2.out (SlM.of_in HL2.out L6.out) (by omega) HLI.out)
    rw [q1] at HPS
    have HQ2 := hid q2; have HQ3 := hid q3
    clear q1 q2 q3 q4 q5 HLW HER L5
    go_wp2_with fail
    refine HPS.out.mono ?_
    rintro e w7 ⟨Z7, rfl, l7, m7⟩
    have L7 := hid l7
    have HE7 := hid (Mv.cellE HE6.out m7 HZ6.out)
    have HZ7 := hid (show ¬ Z7 w5.heap.size from fun hz => (m7.n _ hz).elim HZ6.out fun h => by have := (Array.getElem?_eq_some_iff.1 HE6.out).1; omega)
    have HBG := hid (beg_any l7 HT2.out he0 hpp hx)
    rw [show begF X e0 pp x = (X, [e0, e1, e2, e3, e4, e5, e6, e7, e8, e9, e10], 0) from HQ2.out] at HBG
    unfold EpS epV at HBG
    have y0 : w7.cell? ⟨w5.heap.size, 0, none⟩ = some (.int .i64 e0) := by rw [cell_of_row w7 w5.heap.size 0 _ _ (0, 0) HE7.out]; rfl
    clear l7 m7 HPS HE6 HZ6 L6
    go_wp2_with fail
    refine HBG.out.mono ?_
    rintro e w8 ⟨Z8, rfl, l8, m8⟩
    have L8 := hid (l8.alloc (.cells #[.int .i64 e0, .int .i64 e1, .int .i64 e2, .int .i64 e3, .int .i64 e4, .int .i64 e5, .int .i64 e6, .int .i64 e7, .int .i64 e8, .int .i64 e9, .int .i64 e10] 30))
    have M8 := hid (Mv.alloc Z8 w8 (.cells #[.int .i64 e0, .int .i64 e1, .int .i64 e2, .int .i64 e3, .int .i64 e4, .int .i64 e5, .int .i64 e6, .int .i64 e7, .int .i64 e8, .int .i64 e9, .int .i64 e10] 30))
    have HE8 := hid (Mv.cellE HE7.out m8 HZ7.out)
    have HZ8 := hid (show ¬ Z8 w5.heap.size from fun hz => (m8.n _ hz).elim HZ7.out fun h => by have := (Array.getElem?_eq_some_iff.1 HE7.out).1; omega)
    have HF8 := hid (Mv.cellE HE8.out M8.out HZ8.out)
    have HG8 := hid (heap_alloc_new w8 (.cells #[.int .i64 e0, .int .i64 e1, .int .i64 e2, .int .i64 e3, .int .i64 e4, .int .i64 e5, .int .i64 e6, .int .i64 e7, .int .i64 e8, .int .i64 e9, .int .i64 e10] 30))
    have HY8 := hid (show ¬ Z8 w8.heap.size from fun hz => by have := l8.ar.zlt _ hz; omega)
    have HNB := hid (nx_any L8.out HT2.out hi hc hx (SlM.of_in HL2.out L8.out) (by omega) HLI.out)
    rw [HQ3.out] at HNB
    unfold EpS epV at HNB
    clear l8 m8 HBG HE7 HZ7 L7 HE8
    go_wp2_with fail
    refine HNB.out.mono ?_
    rintro e w9 ⟨Z9, rfl, l9, m9⟩
    have M9 := hid (Mv.alloc Z9 w9 (.cells #[.int .i64 e0, .int .i64 e1, .int .i64 e2, .int .i64 e3, .int .i64 e4, .int .i64 e5, .int .i64 e6, .int .i64 e7, .int .i64 e8, .int .i64 e9, .int .i64 e10] 30))
    have HE9 := hid (Mv.cellE HF8.out m9 HZ8.out)
    have HZ9 := hid (show ¬ Z9 w5.heap.size from fun hz => (m9.n _ hz).elim HZ8.out fun h => by have := (Array.getElem?_eq_some_iff.1 HF8.out).1; omega)
    have HG9 := hid (Mv.cellE HG8.out m9 HY8.out)
    have HY9 := hid (show ¬ Z9 w8.heap.size from fun hz => (m9.n _ hz).elim HY8.out fun h => by have := (Array.getElem?_eq_some_iff.1 HG8.out).1; omega)
    have HFA := hid (Mv.cellE HE9.out M9.out HZ9.out)
    have HGA := hid (Mv.cellE HG9.out M9.out HY9.out)
    have HBF := hid (HB2.out.trans ((l9.alloc (.cells #[.int .i64 e0, .int .i64 e1, .int .i64 e2, .int .i64 e3, .int .i64 e4, .int .i64 e5, .int .i64 e6, .int .i64 e7, .int .i64 e8, .int .i64 e9, .int .i64 e10] 30)).bl.mono HB2.out.size))
    clear l9 m9 HNB L8
    have r0 : (w9.alloc (.cells #[.int .i64 e0, .int .i64 e1, .int .i64 e2, .int .i64 e3, .int .i64 e4, .int .i64 e5, .int .i64 e6, .int .i64 e7, .int .i64 e8, .int .i64 e9, .int .i64 e10] 30)).cell? ⟨w5.heap.size, 0, none⟩ = some (.int .i64 e0) := by rw [cell_of_row (w9.alloc (.cells #[.int .i64 e0, .int .i64 e1, .int .i64 e2, .int .i64 e3, .int .i64 e4, .int .i64 e5, .int .i64 e6, .int .i64 e7, .int .i64 e8, .int .i64 e9, .int .i64 e10] 30)) w5.heap.size 0 _ _ (0, 0) HFA.out]; rfl
    have r1 : (w9.alloc (.cells #[.int .i64 e0, .int .i64 e1, .int .i64 e2, .int .i64 e3, .int .i64 e4, .int .i64 e5, .int .i64 e6, .int .i64 e7, .int .i64 e8, .int .i64 e9, .int .i64 e10] 30)).cell? ⟨w5.heap.size, 1, none⟩ = some (.int .i64 e1) := by rw [cell_of_row (w9.alloc (.cells #[.int .i64 e0, .int .i64 e1, .int .i64 e2, .int .i64 e3, .int .i64 e4, .int .i64 e5, .int .i64 e6, .int .i64 e7, .int .i64 e8, .int .i64 e9, .int .i64 e10] 30)) w5.heap.size 1 _ _ (0, 0) HFA.out]; rfl
    have r2 : (w9.alloc (.cells #[.int .i64 e0, .int .i64 e1, .int .i64 e2, .int .i64 e3, .int .i64 e4, .int .i64 e5, .int .i64 e6, .int .i64 e7, .int .i64 e8, .int .i64 e9, .int .i64 e10] 30)).cell? ⟨w5.heap.size, 2, none⟩ = some (.int .i64 e2) := by rw [cell_of_row (w9.alloc (.cells #[.int .i64 e0, .int .i64 e1, .int .i64 e2, .int .i64 e3, .int .i64 e4, .int .i64 e5, .int .i64 e6, .int .i64 e7, .int .i64 e8, .int .i64 e9, .int .i64 e10] 30)) w5.heap.size 2 _ _ (0, 0) HFA.out]; rfl
    have r3 : (w9.alloc (.cells #[.int .i64 e0, .int .i64 e1, .int .i64 e2, .int .i64 e3, .int .i64 e4, .int .i64 e5, .int .i64 e6, .int .i64 e7, .int .i64 e8, .int .i64 e9, .int .i64 e10] 30)).cell? ⟨w5.heap.size, 3, none⟩ = some (.int .i64 e3) := by rw [cell_of_row (w9.alloc (.cells #[.int .i64 e0, .int .i64 e1, .int .i64 e2, .int .i64 e3, .int .i64 e4, .int .i64 e5, .int .i64 e6, .int .i64 e7, .int .i64 e8, .int .i64 e9, .int .i64 e10] 30)) w5.heap.size 3 _ _ (0, 0) HFA.out]; rfl
    have r4 : (w9.alloc (.cells #[.int .i64 e0, .int .i64 e1, .int .i64 e2, .int .i64 e3, .int .i64 e4, .int .i64 e5, .int .i64 e6, .int .i64 e7, .int .i64 e8, .int .i64 e9, .int .i64 e10] 30)).cell? ⟨w5.heap.size, 4, none⟩ = some (.int .i64 e4) := by rw [cell_of_row (w9.alloc (.cells #[.int .i64 e0, .int .i64 e1, .int .i64 e2, .int .i64 e3, .int .i64 e4, .int .i64 e5, .int .i64 e6, .int .i64 e7, .int .i64 e8, .int .i64 e9, .int .i64 e10] 30)) w5.heap.size 4 _ _ (0, 0) HFA.out]; rfl
    have r5 : (w9.alloc (.cells #[.int .i64 e0, .int .i64 e1, .int .i64 e2, .int .i64 e3, .int .i64 e4, .int .i64 e5, .int .i64 e6, .int .i64 e7, .int .i64 e8, .int .i64 e9, .int .i64 e10] 30)).cell? ⟨w5.heap.size, 5, none⟩ = some (.int .i64 e5) := by rw [cell_of_row (w9.alloc (.cells #[.int .i64 e0, .int .i64 e1, .int .i64 e2, .int .i64 e3, .int .i64 e4, .int .i64 e5, .int .i64 e6, .int .i64 e7, .int .i64 e8, .int .i64 e9, .int .i64 e10] 30)) w5.heap.size 5 _ _ (0, 0) HFA.out]; rfl
    have r6 : (w9.alloc (.cells #[.int .i64 e0, .int .i64 e1, .int .i64 e2, .int .i64 e3, .int .i64 e4, .int .i64 e5, .int .i64 e6, .int .i64 e7, .int .i64 e8, .int .i64 e9, .int .i64 e10] 30)).cell? ⟨w5.heap.size, 6, none⟩ = some (.int .i64 e6) := by rw [cell_of_row (w9.alloc (.cells #[.int .i64 e0, .int .i64 e1, .int .i64 e2, .int .i64 e3, .int .i64 e4, .int .i64 e5, .int .i64 e6, .int .i64 e7, .int .i64 e8, .int .i64 e9, .int .i64 e10] 30)) w5.heap.size 6 _ _ (0, 0) HFA.out]; rfl
    have r7 : (w9.alloc (.cells #[.int .i64 e0, .int .i64 e1, .int .i64 e2, .int .i64 e3, .int .i64 e4, .int .i64 e5, .int .i64 e6, .int .i64 e7, .int .i64 e8, .int .i64 e9, .int .i64 e10] 30)).cell? ⟨w5.heap.size, 7, none⟩ = some (.int .i64 e7) := by rw [cell_of_row (w9.alloc (.cells #[.int .i64 e0, .int .i64 e1, .int .i64 e2, .int .i64 e3, .int .i64 e4, .int .i64 e5, .int .i64 e6, .int .i64 e7, .int .i64 e8, .int .i64 e9, .int .i64 e10] 30)) w5.heap.size 7 _ _ (0, 0) HFA.out]; rfl
    have r8 : (w9.alloc (.cells #[.int .i64 e0, .int .i64 e1, .int .i64 e2, .int .i64 e3, .int .i64 e4, .int .i64 e5, .int .i64 e6, .int .i64 e7, .int .i64 e8, .int .i64 e9, .int .i64 e10] 30)).cell? ⟨w5.heap.size, 8, none⟩ = some (.int .i64 e8) := by rw [cell_of_row (w9.alloc (.cells #[.int .i64 e0, .int .i64 e1, .int .i64 e2, .int .i64 e3, .int .i64 e4, .int .i64 e5, .int .i64 e6, .int .i64 e7, .int .i64 e8, .int .i64 e9, .int .i64 e10] 30)) w5.heap.size 8 _ _ (0, 0) HFA.out]; rfl
    have r9 : (w9.alloc (.cells #[.int .i64 e0, .int .i64 e1, .int .i64 e2, .int .i64 e3, .int .i64 e4, .int .i64 e5, .int .i64 e6, .int .i64 e7, .int .i64 e8, .int .i64 e9, .int .i64 e10] 30)).cell? ⟨w5.heap.size, 9, none⟩ = some (.int .i64 e9) := by rw [cell_of_row (w9.alloc (.cells #[.int .i64 e0, .int .i64 e1, .int .i64 e2, .int .i64 e3, .int .i64 e4, .int .i64 e5, .int .i64 e6, .int .i64 e7, .int .i64 e8, .int .i64 e9, .int .i64 e10] 30)) w5.heap.size 9 _ _ (0, 0) HFA.out]; rfl
    have r10 : (w9.alloc (.cells #[.int .i64 e0, .int .i64 e1, .int .i64 e2, .int .i64 e3, .int .i64 e4, .int .i64 e5, .int .i64 e6, .int .i64 e7, .int .i64 e8, .int .i64 e9, .int .i64 e10] 30)).cell? ⟨w5.heap.size, 10, none⟩ = some (.int .i64 e10) := by rw [cell_of_row (w9.alloc (.cells #[.int .i64 e0, .int .i64 e1, .int .i64 e2, .int .i64 e3, .int .i64 e4, .int .i64 e5, .int .i64 e6, .int .i64 e7, .int .i64 e8, .int .i64 e9, .int .i64 e10] 30)) w5.heap.size 10 _ _ (0, 0) HFA.out]; rfl
    have t0 : (w9.alloc (.cells #[.int .i64 e0, .int .i64 e1, .int .i64 e2, .int .i64 e3, .int .i64 e4, .int .i64 e5, .int .i64 e6, .int .i64 e7, .int .i64 e8, .int .i64 e9, .int .i64 e10] 30)).cell? ⟨w8.heap.size, 0, none⟩ = some (.int .i64 e0) := by rw [cell_of_row (w9.alloc (.cells #[.int .i64 e0, .int .i64 e1, .int .i64 e2, .int .i64 e3, .int .i64 e4, .int .i64 e5, .int .i64 e6, .int .i64 e7, .int .i64 e8, .int .i64 e9, .int .i64 e10] 30)) w8.heap.size 0 _ _ (0, 0) HGA.out]; rfl
    have t1 : (w9.alloc (.cells #[.int .i64 e0, .int .i64 e1, .int .i64 e2, .int .i64 e3, .int .i64 e4, .int .i64 e5, .int .i64 e6, .int .i64 e7, .int .i64 e8, .int .i64 e9, .int .i64 e10] 30)).cell? ⟨w8.heap.size, 1, none⟩ = some (.int .i64 e1) := by rw [cell_of_row (w9.alloc (.cells #[.int .i64 e0, .int .i64 e1, .int .i64 e2, .int .i64 e3, .int .i64 e4, .int .i64 e5, .int .i64 e6, .int .i64 e7, .int .i64 e8, .int .i64 e9, .int .i64 e10] 30)) w8.heap.size 1 _ _ (0, 0) HGA.out]; rfl
    have t2 : (w9.alloc (.cells #[.int .i64 e0, .int .i64 e1, .int .i64 e2, .int .i64 e3, .int .i64 e4, .int .i64 e5, .int .i64 e6, .int .i64 e7, .int .i64 e8, .int .i64 e9, .int .i64 e10] 30)).cell? ⟨w8.heap.size, 2, none⟩ = some (.int .i64 e2) := by rw [cell_of_row (w9.alloc (.cells #[.int .i64 e0, .int .i64 e1, .int .i64 e2, .int .i64 e3, .int .i64 e4, .int .i64 e5, .int .i64 e6, .int .i64 e7, .int .i64 e8, .int .i64 e9, .int .i64 e10] 30)) w8.heap.size 2 _ _ (0, 0) HGA.out]; rfl
    have t3 : (w9.alloc (.cells #[.int .i64 e0, .int .i64 e1, .int .i64 e2, .int .i64 e3, .int .i64 e4, .int .i64 e5, .int .i64 e6, .int .i64 e7, .int .i64 e8, .int .i64 e9, .int .i64 e10] 30)).cell? ⟨w8.heap.size, 3, none⟩ = some (.int .i64 e3) := by rw [cell_of_row (w9.alloc (.cells #[.int .i64 e0, .int .i64 e1, .int .i64 e2, .int .i64 e3, .int .i64 e4, .int .i64 e5, .int .i64 e6, .int .i64 e7, .int .i64 e8, .int .i64 e9, .int .i64 e10] 30)) w8.heap.size 3 _ _ (0, 0) HGA.out]; rfl
    have t4 : (w9.alloc (.cells #[.int .i64 e0, .int .i64 e1, .int .i64 e2, .int .i64 e3, .int .i64 e4, .int .i64 e5, .int .i64 e6, .int .i64 e7, .int .i64 e8, .int .i64 e9, .int .i64 e10] 30)).cell? ⟨w8.heap.size, 4, none⟩ = some (.int .i64 e4) := by rw [cell_of_row (w9.alloc (.cells #[.int .i64 e0, .int .i64 e1, .int .i64 e2, .int .i64 e3, .int .i64 e4, .int .i64 e5, .int .i64 e6, .int .i64 e7, .int .i64 e8, .int .i64 e9, .int .i64 e10] 30)) w8.heap.size 4 _ _ (0, 0) HGA.out]; rfl
    have t5 : (w9.alloc (.cells #[.int .i64 e0, .int .i64 e1, .int .i64 e2, .int .i64 e3, .int .i64 e4, .int .i64 e5, .int .i64 e6, .int .i64 e7, .int .i64 e8, .int .i64 e9, .int .i64 e10] 30)).cell? ⟨w8.heap.size, 5, none⟩ = some (.int .i64 e5) := by rw [cell_of_row (w9.alloc (.cells #[.int .i64 e0, .int .i64 e1, .int .i64 e2, .int .i64 e3, .int .i64 e4, .int .i64 e5, .int .i64 e6, .int .i64 e7, .int .i64 e8, .int .i64 e9, .int .i64 e10] 30)) w8.heap.size 5 _ _ (0, 0) HGA.out]; rfl
    have t6 : (w9.alloc (.cells #[.int .i64 e0, .int .i64 e1, .int .i64 e2, .int .i64 e3, .int .i64 e4, .int .i64 e5, .int .i64 e6, .int .i64 e7, .int .i64 e8, .int .i64 e9, .int .i64 e10] 30)).cell? ⟨w8.heap.size, 6, none⟩ = some (.int .i64 e6) := by rw [cell_of_row (w9.alloc (.cells #[.int .i64 e0, .int .i64 e1, .int .i64 e2, .int .i64 e3, .int .i64 e4, .int .i64 e5, .int .i64 e6, .int .i64 e7, .int .i64 e8, .int .i64 e9, .int .i64 e10] 30)) w8.heap.size 6 _ _ (0, 0) HGA.out]; rfl
    have t7 : (w9.alloc (.cells #[.int .i64 e0, .int .i64 e1, .int .i64 e2, .int .i64 e3, .int .i64 e4, .int .i64 e5, .int .i64 e6, .int .i64 e7, .int .i64 e8, .int .i64 e9, .int .i64 e10] 30)).cell? ⟨w8.heap.size, 7, none⟩ = some (.int .i64 e7) := by rw [cell_of_row (w9.alloc (.cells #[.int .i64 e0, .int .i64 e1, .int .i64 e2, .int .i64 e3, .int .i64 e4, .int .i64 e5, .int .i64 e6, .int .i64 e7, .int .i64 e8, .int .i64 e9, .int .i64 e10] 30)) w8.heap.size 7 _ _ (0, 0) HGA.out]; rfl
    have t8 : (w9.alloc (.cells #[.int .i64 e0, .int .i64 e1, .int .i64 e2, .int .i64 e3, .int .i64 e4, .int .i64 e5, .int .i64 e6, .int .i64 e7, .int .i64 e8, .int .i64 e9, .int .i64 e10] 30)).cell? ⟨w8.heap.size, 8, none⟩ = some (.int .i64 e8) := by rw [cell_of_row (w9.alloc (.cells #[.int .i64 e0, .int .i64 e1, .int .i64 e2, .int .i64 e3, .int .i64 e4, .int .i64 e5, .int .i64 e6, .int .i64 e7, .int .i64 e8, .int .i64 e9, .int .i64 e10] 30)) w8.heap.size 8 _ _ (0, 0) HGA.out]; rfl
    have t9 : (w9.alloc (.cells #[.int .i64 e0, .int .i64 e1, .int .i64 e2, .int .i64 e3, .int .i64 e4, .int .i64 e5, .int .i64 e6, .int .i64 e7, .int .i64 e8, .int .i64 e9, .int .i64 e10] 30)).cell? ⟨w8.heap.size, 9, none⟩ = some (.int .i64 e9) := by rw [cell_of_row (w9.alloc (.cells #[.int .i64 e0, .int .i64 e1, .int .i64 e2, .int .i64 e3, .int .i64 e4, .int .i64 e5, .int .i64 e6, .int .i64 e7, .int .i64 e8, .int .i64 e9, .int .i64 e10] 30)) w8.heap.size 9 _ _ (0, 0) HGA.out]; rfl
    have t10 : (w9.alloc (.cells #[.int .i64 e0, .int .i64 e1, .int .i64 e2, .int .i64 e3, .int .i64 e4, .int .i64 e5, .int .i64 e6, .int .i64 e7, .int .i64 e8, .int .i64 e9, .int .i64 e10] 30)).cell? ⟨w8.heap.size, 10, none⟩ = some (.int .i64 e10) := by rw [cell_of_row (w9.alloc (.cells #[.int .i64 e0, .int .i64 e1, .int .i64 e2, .int .i64 e3, .int .i64 e4, .int .i64 e5, .int .i64 e6, .int .i64 e7, .int .i64 e8, .int .i64 e9, .int .i64 e10] 30)) w8.heap.size 10 _ _ (0, 0) HGA.out]; rfl
    go_wp2_with fail
    go_ret
    exact ⟨rfl, HBF.out⟩
end Go.Proofs.YtkgobglmkhkbbaaGreatDoor

