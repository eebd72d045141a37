import Derived.Test.YtkgobglmkhkbbaaGreatDoorZ17
import Derived.Test.YtkgobglmkhkbbaaGreatDoorZ14
/- law 12: dump, same. -/
namespace Go.Proofs.YtkgobglmkhkbbaaGreatDoor
open Go.RowKit Go.KK Go.Shelf Go.Maps
set_option linter.unusedVariables false
set_option linter.unusedSimpArgs false

theorem infoND : (Tryz.prog.info? 88).map (fun i => (i.zero, i.size, i.bytes)) = some (some (.agg #[.int .i64 0, .int .i64 0, .string ⟨#[]⟩, .slice none 0 0]), 4, 56) := by kernel_rfl
theorem sla_lit {w : World} {T : TypeId} (vs : Array Value) (size : Nat) (hs : vs.size = size) (hm : vs.size ≤ maxLen) : SlA (w.alloc (.cells vs T)) size (some ⟨w.heap.size, 0, none⟩) 1 1 vs.toList :=
  ⟨Nat.le_refl _, by unfold maxLen; omega, by simp [hs], (sla_row (w := w) (T := T) vs hm).cells⟩
/-- A row of nodes that the call has made, so far. -/
structure DmP (W U : World) (v : Value) (xs : List ND) (qs : List Value) : Prop where
  row : U.ownsRow W.heap.size 88 4 v xs.length (nds xs qs)
  ql : qs.length = xs.length
  rd : ∀ (j : Nat) x q, xs[j]? = some x → qs[j]? = some q → In1 U q x.l
  own : ∀ (j : Nat) x q b, xs[j]? = some x → qs[j]? = some q → x.l ≠ [] → q.ownBlock = some b → v.ownBlock ≠ some b
  bl : Below W.heap.size W U
section
variable {W U U' : World} {v v' q : Value} {xs : List ND} {qs : List Value} {x : ND}
theorem DmP.ext (h : DmP W U v xs qs) (hb : Below U.heap.size U U') : DmP W U' v xs qs :=
  ⟨own_ext h.row hb, h.ql, fun j x q hx hq => (h.rd j x q hx hq).ext hb, h.own, h.bl.trans (hb.mono h.bl.size)⟩
theorem In1.lt (h : In1 U q x.l) (hn : x.l ≠ []) {b : Nat} (hb : q.ownBlock = some b) : b < U.heap.size := by
  obtain ⟨A, c, rfl, hs⟩ := h
  obtain ⟨b1, o1, z, rfl, -, hc⟩ := hs.elemI (k := 0) (List.length_pos_iff.2 hn)
  have e : b1 = b := by simpa [Value.ownBlock] using hb
  subst e
  exact block_lt_of_cell hc
theorem DmP.push (h : DmP W U v xs qs) (hg : U.grownBy U' v.ownBlock) (hr : U'.ownsRow W.heap.size 88 4 v' (xs.length + 1) (nds xs qs ++ x.cells q)) (hv : v'.ownBlock = v.ownBlock ∨ v'.ownBlock = some U.heap.size) (hq : In1 U q x.l) (hqn : x.l ≠ [] → ∀ b, q.ownBlock = some b → v.ownBlock ≠ some b) : DmP W U' v' (xs ++ [x]) (qs ++ [q]) := by
  have hne : ∀ (y : ND) (p : Value) b, In1 U p y.l → y.l ≠ [] → p.ownBlock = some b → v.ownBlock ≠ some b → v'.ownBlock ≠ some b := fun y p b hi hn hb hvb => by
    rcases hv with e | e
    · rw [e]; exact hvb
    · rw [e]; intro k; injection k with k; have := In1.lt hi hn hb; omega
  have hk : ∀ (y : ND) (p : Value), In1 U p y.l → (∀ b, y.l ≠ [] → p.ownBlock = some b → v.ownBlock ≠ some b) → In1 U' p y.l := fun y p hi ho => hi.kept fun b hn hb => hg.block b (In1.lt hi hn hb) (fun e => ho b hn hb e.symm)
  refine ⟨by rw [nds_snoc h.ql, List.length_append]; exact hr, by simp [h.ql], fun j y p hy hp => ?_, fun j y p b hy hp hn hb => ?_, h.bl.grown hg h.bl.size fun b e => (h.row.lt b e).1⟩
  all_goals
    rcases Nat.lt_or_ge j xs.length with hj | hj
    · rw [List.getElem?_append_left hj] at hy
      rw [List.getElem?_append_left (by rw [h.ql]; exact hj)] at hp
      first
        | exact hk y p (h.rd j y p hy hp) fun b hn hb => h.own j y p b hy hp hn hb
        | exact hne y p b (h.rd j y p hy hp) hn hb (h.own j y p b hy hp hn hb)
    · rw [List.getElem?_append_right hj] at hy
      rw [List.getElem?_append_right (by rw [h.ql]; exact hj), h.ql] at hp
      rcases hk' : j - xs.length with _ | k
      · rw [hk'] at hy hp
        injection hy with hy; injection hp with hp
        subst hy; subst hp
        first
          | exact hk _ _ hq fun b hn hb => hqn hn b hb
          | exact hne _ _ b hq hn hb (hqn hn b hb)
      · rw [hk'] at hy; simp at hy
theorem DmP.nd (h : DmP W U v xs qs) : ∃ A c, v = .slice A xs.length c ∧ NdA U A xs.length c xs := by
  obtain ⟨A, c, rfl, hs⟩ := SlA.owned h.row
  exact ⟨A, c, rfl, qs, h.ql, hs, h.rd⟩
end
set_option maxHeartbeats 4000000 in
set_option maxRecDepth 100000 in
theorem dump_any (sa : Nat) (X : List ND) (W : World) (h : ArV W 124 sa X) :
    Calls Tryz.prog 86 #[.pointer (some ⟨sa, 0, none⟩)] W fun e w' => ∃ A c, e = .returned (.slice A X.length c) ∧ NdA w' A X.length c X ∧ Below W.heap.size W w' := by
  obtain ⟨i0, hi, hz0, hz1, hz2⟩ := info_parts infoND
  have H := hid h; have HLN := hid h.ok.len
  clear h
  go_enter Tryz.func86, Tryz.ntmps86
  go_wp2_with fail
  refine (len_any sa X W H.out).mono ?_
  rintro e w1 ⟨rfl, hw0⟩
  have hw := hw0.symm
  clear hw0
  subst hw
  go_wp2_with fail
  go_loopw [9, 3] (fun i l wr => ∃ (j : Nat) (v : Value) (qs : List Value), i = .int .i64 j ∧ j ≤ X.length ∧ l = v ∧ Hid (DmP W wr v (X.take j) qs)) (fun i _ _ => X.length - (intOf i).toNat)
  case atStart => exact ⟨0, _, [], rfl, Nat.zero_le _, rfl, hid ⟨World.ownsRow_nil _ _ _ _, rfl, fun j x q h => by simp at h, fun j x q b h => by simp at h, Below.refl _ _⟩⟩
  case round =>
    obtain ⟨j, v, qs, hv, hj, hl, HD⟩ := hrel
    subst hv; subst hl
    have hXl := HLN.out
    obtain ⟨A, c, hvv, -⟩ := HD.out.nd
    rw [List.length_take, Nat.min_eq_left hj] at hvv
    subst hvv
    by_cases hlt : j < X.length
    · have hlt' : (j : Int) < (X.length : Int) := by omega
      have HLT := hid hlt
      have HN := hid (node_any sa X (j : Int) wr (H.out.ext HD.out.bl))
      have hxj : X[j]? = some (nodeF X (j : Int)) := by
        unfold nodeF
        rw [if_pos (has_iff.2 ⟨by omega, by omega⟩), Int.toNat_natCast, List.getD, List.getElem?_eq_getElem hlt]; rfl
      have HE := hid (show nodeE X (j : Int) = 0 by unfold nodeE; rw [if_pos (has_iff.2 ⟨by omega, by omega⟩)])
      rw [HE.out] at HN
      have HXJ := hid hxj
      clear hxj hlt HE
      generalize nodeF X (j : Int) = x at *
      obtain ⟨xo, xn, xs, xl⟩ := x
      dsimp only at HN
      go_wp2_with fail
      refine HN.out.mono ?_
      rintro e w2 ⟨A2, c2, rfl, hrow, hb⟩
      have D2 := hid (HD.out.ext hb)
      have HQ := hid (show In1 w2 (.slice A2 xl.length c2) xl from by
        obtain ⟨A', c', e', hs⟩ := SlA.owned hrow
        injection e' with e1 e2 e3
        subst e1; subst e3
        exact ⟨_, _, rfl, hs⟩)
      have HQN := hid (show ∀ b, (Value.slice A2 xl.length c2).ownBlock = some b → (Value.slice A j c).ownBlock ≠ some b from fun b hb' hv' => by
        have h1 := (hrow.lt b hb').1
        have h2 := (HD.out.row.lt b hv').2
        omega)
      have D3 := hid ((D2.out.ext ((Below.refl _ _).alloc (Nat.le_refl _) (.cells #[.int .i64 xo, .int .i64 xn, .string xs, .slice A2 xl.length c2] 88))).ext ((Below.refl _ _).alloc (Nat.le_refl _) (.cells #[.int .i64 xo, .int .i64 xn, .string xs, .slice A2 xl.length c2] 88)))
      have HQ3 := hid (show In1 ((w2.alloc (.cells #[.int .i64 xo, .int .i64 xn, .string xs, .slice A2 xl.length c2] 88)).alloc (.cells #[.int .i64 xo, .int .i64 xn, .string xs, .slice A2 xl.length c2] 88)) (.slice A2 xl.length c2) xl from (HQ.out.ext ((Below.refl _ _).alloc (Nat.le_refl _) _)).ext ((Below.refl _ _).alloc (Nat.le_refl _) _))
      have HOW := hid (show ((w2.alloc (.cells #[.int .i64 xo, .int .i64 xn, .string xs, .slice A2 xl.length c2] 88)).alloc (.cells #[.int .i64 xo, .int .i64 xn, .string xs, .slice A2 xl.length c2] 88)).ownsRow W.heap.size 88 4 (.slice A j c) j (nds (X.take j) qs) from by
        have := D3.out.row
        rwa [List.length_take, Nat.min_eq_left hj] at this)
      have hsz := D3.out.bl.size
      have hj5 : j ≤ 100000 := by omega
      have hones : ∀ u ∈ [Value.int .i64 xo, .int .i64 xn, .string xs, .slice A2 xl.length c2], u.oneCell' = true := fun u hu => by
        simp only [List.mem_cons, List.mem_nil_iff, or_false] at hu
        rcases hu with rfl | rfl | rfl | rfl <;> rfl
      have HSL := hid (show SlA ((w2.alloc (.cells #[.int .i64 xo, .int .i64 xn, .string xs, .slice A2 xl.length c2] 88)).alloc (.cells #[.int .i64 xo, .int .i64 xn, .string xs, .slice A2 xl.length c2] 88)) 4 (some ⟨w2.heap.size + 1, 0, none⟩) 1 1 [.int .i64 xo, .int .i64 xn, .string xs, .slice A2 xl.length c2] from by
        have := sla_lit (w := w2.alloc (.cells #[.int .i64 xo, .int .i64 xn, .string xs, .slice A2 xl.length c2] 88)) (T := 88) #[.int .i64 xo, .int .i64 xn, .string xs, .slice A2 xl.length c2] 4 rfl (by unfold maxLen; simp)
        rw [show (w2.alloc (.cells #[.int .i64 xo, .int .i64 xn, .string xs, .slice A2 xl.length c2] 88)).heap.size = w2.heap.size + 1 by simp] at this
        exact this)
      have hm1 : j + 1 ≤ maxLen := by unfold maxLen; omega
      have hm2 : (j + 1) * 56 ≤ 140737488355328 := by omega
      clear hrow hb HN HD D2
      go_wp2_with (at_builtin; refine wpList_append_sl _ rfl _ _ 47 rfl W.heap.size 88 i0 (.agg #[.int .i64 0, .int .i64 0, .string ⟨#[]⟩, .slice none 0 0]) 4 56 Tryz.underlying47 hi hz0 hz1 hz2 rfl (by decide) (.slice A j c) j (nds (X.take j) qs) rfl HOW.out _ 1 1 [.int .i64 xo, .int .i64 xn, .string xs, .slice A2 xl.length c2] rfl HSL.out hones hm1 hm2 hsz ?_; intro v5 w5 own5 gr5 loc5; have HO5 := hid own5; have HG5 := hid gr5; have HL5 := hid loc5; clear own5 gr5 loc5)
      have HDN := hid (D3.out.push (x := ⟨xo, xn, xs, xl⟩) (q := .slice A2 xl.length c2) HG5.out (by rw [List.length_take, Nat.min_eq_left hj]; exact HO5.out) HL5.out HQ3.out fun _ => HQN.out)
      go_roundw
      case rel => exact ⟨j + 1, v5, _, by go_num, by have := HLT.out; omega, rfl, hid (by rw [take_one HXJ.out]; exact HDN.out)⟩
      case measure => have := HLT.out; simp [intOf]; omega
    · obtain rfl : j = X.length := by omega
      have hlt' : ¬ (X.length : Int) < (X.length : Int) := by omega
      obtain ⟨A', c', e', hn⟩ := HD.out.nd
      rw [List.take_length] at e' hn
      injection e' with e1 e2 e3
      subst e1; subst e3
      have HNN := hid hn
      clear hn e2
      go_wp2_with fail
      go_ret
      exact ⟨A, c, rfl, HNN.out, HD.out.bl⟩
set_option maxHeartbeats 4000000 in
set_option maxRecDepth 100000 in
/-- same, of one answer of two arenas that hold the same nodes. -/
theorem same_any (sa sb : Nat) (X : List ND) (x e : Int) (W : World) (ha : ArV W 124 sa X) (hb : ArV W 104 sb X) (hx : e = 0 → hasB X x = true) (hz : e ≠ 0 → x = 0) :
    Calls Tryz.prog 48 #[.pointer (some ⟨sa, 0, none⟩), .pointer (some ⟨sb, 0, none⟩), .int .i64 x, .int .i64 e, .int .i64 x, .int .i64 e] W fun en w' => en = .returned (.bool true) ∧ Below W.heap.size W w' := by
  have HA := hid ha; have HB := hid hb
  by_cases he : e = 0
  rotate_left
  · have hne : (e != 0) = true := bne_iff_ne.2 he
    have hxz : (x == 0) = true := beq_iff_eq.2 (hz he)
    have hee : (e == e) = true := beq_self_eq_true e
    clear he hx hz ha hb
    go_enter Tryz.func48, Tryz.ntmps48
    go_wp2_with fail
    go_ret
    exact ⟨rfl, Below.refl _ _⟩
  · subst he
    have HX := hid (hx rfl)
    have HLN := hid ha.ok.len
    have hmm := @run_makeMap Tryz.prog
    clear hx hz ha hb
    go_enter Tryz.func48, Tryz.ntmps48
    go_wp2_with fail
    refine (dump_any sa X W HA.out).mono ?_
    rintro en w1 ⟨A, c, rfl, hn, hb1⟩
    have HN := hid (hn.ext ((Below.refl w1.heap.size w1).alloc (Nat.le_refl _) (.map #[] 0)))
    have HB1 := hid hb1
    have HY := hid (HB.out.ext (hb1.alloc hb1.size (.map #[] 0)))
    have HBI := hid (bisim_any (M := []) HLN.out HA.out.ok (bs_same HA.out.ok HX.out) HY.out HN.out (MtP.new w1))
    clear hn hb1
    go_wp2_with fail
    refine HBI.out.mono ?_
    rintro en w2 ⟨rfl, -, ht⟩
    have HF := hid (HB1.out.trans ((ht.below (B := w1.heap.size) (fun b e => by rw [e]; exact Nat.le_refl _) (by simp) |> fun k => (((Below.refl w1.heap.size w1).alloc (Nat.le_refl _) (.map #[] 0)).trans k)).mono HB1.out.size))
    clear ht HBI
    go_wp2_with fail
    go_ret
    exact ⟨rfl, HF.out⟩
end Go.Proofs.YtkgobglmkhkbbaaGreatDoor

/- transcript's law: TranscriptMakes walked. -/
namespace Go.KK
open Go.RowKit
set_option linter.unusedVariables false
set_option linter.unusedSimpArgs false

theorem mk_zero {xs : List ND} {x : ND} (h : (mk xs x).2.2 ≠ 0) : (mk xs x).2.1 = 0 := by
  have h : makE xs x ≠ 0 := h
  show makI xs x = 0
  unfold makE at h
  unfold makI
  by_cases hm : mayB xs x = true
  · rw [if_pos hm] at h ⊢
    by_cases hx : x ∈ xs
    · rw [if_pos hx] at h; exact absurd rfl h
    · rw [if_neg hx] at h ⊢
      by_cases hl : 100000 ≤ xs.length
      · rw [if_pos hl]
      · rw [if_neg hl] at h; exact absurd rfl h
  · rw [if_neg hm]
theorem bd_zero {r : Rs} {f : List ND → Int → Rs} (hf : ∀ xs i, (f xs i).2.2 ≠ 0 → (f xs i).2.1 = 0) (h : (bdF r f).2.2 ≠ 0) : (bdF r f).2.1 = 0 := by
  unfold bdF at h ⊢
  by_cases he : r.2.2 = 0
  · rw [if_pos he] at h ⊢; exact hf _ _ h
  · rw [if_neg he]
theorem hs_zero {xs : List ND} {l : List Int} (h : (hsF xs l).2.2 ≠ 0) : (hsF xs l).2.1 = 0 := bd_zero (fun _ _ h => mk_zero h) h
theorem ct_zero {xs : List ND} {id ep tr cf ex : Int} (h : (ctF xs id ep tr cf ex).2.2 ≠ 0) : (ctF xs id ep tr cf ex).2.1 = 0 := by
  by_cases hp : 0 ≤ ep
  · rw [ct_pos hp] at h ⊢
    exact bd_zero (fun _ _ h => bd_zero (fun _ _ h => mk_zero h) h) h
  · unfold ctF; rw [if_neg hp]
end Go.KK
namespace Go.Proofs.YtkgobglmkhkbbaaGreatDoor
open Go.RowKit Go.KK Go.Shelf Go.Maps

set_option maxHeartbeats 8000000 in
set_option maxRecDepth 100000 in
theorem makes_go (x y z ep u v : Int) (w : World) (hx : I64 x) (hy : I64 y) (hz : I64 z) (hep : I64 ep) (hu : I64 u) (hv : I64 v) (hT : Tb w.heap.size w) (hE : EvS w.heap.size w) :
    Calls Tryz.prog 11 #[.int .i64 x, .int .i64 y, .int .i64 z, .int .i64 ep, .int .i64 u, .int .i64 v] w fun e w' => e = .returned (.bool true) ∧ Below w.heap.size w w' := by
  have HLV := hid (live12_any w hT hE)
  have HT := hid hT
  clear hT hE
  go_enter Tryz.func11, Tryz.ntmps11
  go_wp2_with fail
  refine HLV.out.mono ?_
  rintro e w1 ⟨rfl, b1⟩
  have HBY := hid (beyond_any 10 (some ⟨w1.heap.size, 0, none⟩) 5 5 [x, y, z, u, v] (w1.alloc (.cells #[.int .i64 x, .int .i64 y, .int .i64 z, .int .i64 u, .int .i64 v] 3)) (sla_row #[.int .i64 x, .int .i64 y, .int .i64 z, .int .i64 u, .int .i64 v] (by unfold maxLen; simp)) (by omega))
  have HB1 := hid (b1.alloc b1.size (.cells #[.int .i64 x, .int .i64 y, .int .i64 z, .int .i64 u, .int .i64 v] 3))
  have HT1 := hid (Tb.up (HT.out.on HB1.out) HB1.out.size)
  clear b1 HLV HT
  go_wp2_with fail
  refine HBY.out.mono ?_
  rintro e w2 ⟨⟨b, rfl⟩, hw⟩
  subst hw
  clear HBY
  rcases b with _ | _
  rotate_left
  · go_wp2_with fail
    go_ret
    exact ⟨rfl, HB1.out⟩
  go_wp2_with fail
  generalize w1.alloc (.cells #[.int .i64 x, .int .i64 y, .int .i64 z, .int .i64 u, .int .i64 v] 3) = w2 at *
  refine (two12_any w2 HT1.out).mono ?_
  rintro e w3 ⟨sa, sb, Z, Z', rfl, htw⟩
  have T0 := hid (Tx.of htw)
  clear htw
  obtain ⟨R1, hR1⟩ : ∃ R : Rs, R = hsF (atoms 10) [x, y, z] := ⟨_, rfl⟩
  have HA := hid (l_cf T0.out.a HT1.out hx hy hz)
  rw [← hR1] at HA
  go_wp2_with fail
  refine HA.out.mono ?_
  rintro e w4 ⟨ZA1, rfl, la, ma⟩
  have TA1 := hid (T0.out.onA la ma)
  clear la ma HA T0
  have HB := hid (q_cf TA1.out.b hx hy hz)
  rw [← hR1] at HB
  have HH1 := hid (show R1.2.2 = 0 → hasB R1.1 R1.2.1 = true from fun e => by rw [hR1] at e ⊢; exact (sb_hs [x, y, z]).has (atoms 10) e)
  have HZ1 := hid (show R1.2.2 ≠ 0 → R1.2.1 = 0 from fun e => by rw [hR1] at e ⊢; exact hs_zero e)
  have HR1 := hid hR1
  clear hR1
  go_wp2_with fail
  refine HB.out.mono ?_
  rintro e w5 ⟨ZB1, rfl, lb, mb⟩
  have TB1 := hid (TA1.out.onB lb mb)
  clear lb mb HB TA1
  go_wp2_with fail
  refine (same_any sa sb R1.1 R1.2.1 R1.2.2 _ TB1.out.a.ar.vw TB1.out.b.ar.vw HH1.out HZ1.out).mono ?_
  rintro e w6 ⟨rfl, bs⟩
  have T1 := hid (TB1.out.ext bs)
  clear bs TB1
  obtain ⟨R2, hR2⟩ : ∃ R : Rs, R = tgF R1.1 x y := ⟨_, rfl⟩
  have HA := hid (l_tg T1.out.a HT1.out hx hy)
  rw [← hR2] at HA
  go_wp2_with fail
  refine HA.out.mono ?_
  rintro e w7 ⟨ZA2, rfl, la, ma⟩
  have TA2 := hid (T1.out.onA la ma)
  clear la ma HA T1
  have HB := hid (q_tg TA2.out.b hx hy)
  rw [← hR2] at HB
  have HH2 := hid (show R2.2.2 = 0 → hasB R2.1 R2.2.1 = true from fun e => by rw [hR2] at e ⊢; exact (sb_tg x y).has R1.1 e)
  have HZ2 := hid (show R2.2.2 ≠ 0 → R2.2.1 = 0 from fun e => by rw [hR2] at e ⊢; exact mk_zero e)
  have HR2 := hid hR2
  clear hR2
  go_wp2_with fail
  refine HB.out.mono ?_
  rintro e w8 ⟨ZB2, rfl, lb, mb⟩
  have TB2 := hid (TA2.out.onB lb mb)
  clear lb mb HB TA2
  go_wp2_with fail
  refine (same_any sa sb R2.1 R2.2.1 R2.2.2 _ TB2.out.a.ar.vw TB2.out.b.ar.vw HH2.out HZ2.out).mono ?_
  rintro e w9 ⟨rfl, bs⟩
  have T2 := hid (TB2.out.ext bs)
  clear bs TB2
  obtain ⟨R3, hR3⟩ : ∃ R : Rs, R = hsF R2.1 [x, y] := ⟨_, rfl⟩
  have HA := hid (l_im T2.out.a HT1.out hx hy)
  rw [← hR3] at HA
  go_wp2_with fail
  refine HA.out.mono ?_
  rintro e w10 ⟨ZA3, rfl, la, ma⟩
  have TA3 := hid (T2.out.onA la ma)
  clear la ma HA T2
  have HB := hid (q_im TA3.out.b hx hy)
  rw [← hR3] at HB
  have HH3 := hid (show R3.2.2 = 0 → hasB R3.1 R3.2.1 = true from fun e => by rw [hR3] at e ⊢; exact (sb_hs [x, y]).has R2.1 e)
  have HZ3 := hid (show R3.2.2 ≠ 0 → R3.2.1 = 0 from fun e => by rw [hR3] at e ⊢; exact hs_zero e)
  have HR3 := hid hR3
  clear hR3
  go_wp2_with fail
  refine HB.out.mono ?_
  rintro e w11 ⟨ZB3, rfl, lb, mb⟩
  have TB3 := hid (TA3.out.onB lb mb)
  clear lb mb HB TA3
  go_wp2_with fail
  refine (same_any sa sb R3.1 R3.2.1 R3.2.2 _ TB3.out.a.ar.vw TB3.out.b.ar.vw HH3.out HZ3.out).mono ?_
  rintro e w12 ⟨rfl, bs⟩
  have T3 := hid (TB3.out.ext bs)
  clear bs TB3
  obtain ⟨R4, hR4⟩ : ∃ R : Rs, R = ctF R3.1 x ep y u v := ⟨_, rfl⟩
  have HA := hid (l_ct T3.out.a HT1.out hx hep hy hu hv)
  rw [← hR4] at HA
  go_wp2_with fail
  refine HA.out.mono ?_
  rintro e w13 ⟨ZA4, rfl, la, ma⟩
  have TA4 := hid (T3.out.onA la ma)
  clear la ma HA T3
  have HB := hid (q_ct TA4.out.b hx hep hy hu hv)
  rw [← hR4] at HB
  have HH4 := hid (show R4.2.2 = 0 → hasB R4.1 R4.2.1 = true from fun e => by rw [hR4] at e ⊢; exact (sb_ct x ep y u v).has R3.1 e)
  have HZ4 := hid (show R4.2.2 ≠ 0 → R4.2.1 = 0 from fun e => by rw [hR4] at e ⊢; exact ct_zero e)
  have HR4 := hid hR4
  clear hR4
  go_wp2_with fail
  refine HB.out.mono ?_
  rintro e w14 ⟨ZB4, rfl, lb, mb⟩
  have TB4 := hid (TA4.out.onB lb mb)
  clear lb mb HB TA4
  obtain ⟨R5, hR5⟩ : ∃ R : Rs, R = mk R4.1 (txN ⟨#[]⟩) := ⟨_, rfl⟩
  have HA := hid (l_start TB4.out.a HT1.out )
  rw [← hR5] at HA
  go_wp2_with fail
  refine HA.out.mono ?_
  rintro e w15 ⟨ZA5, rfl, la, ma⟩
  have TA5 := hid (TB4.out.onA la ma)
  clear la ma HA TB4
  have HB := hid (q_text TA5.out.b ⟨#[]⟩)
  rw [← hR5] at HB
  have HH5 := hid (show R5.2.2 = 0 → hasB R5.1 R5.2.1 = true from fun e => by rw [hR5] at e ⊢; exact (sb_tx ⟨#[]⟩).has R4.1 e)
  have HZ5 := hid (show R5.2.2 ≠ 0 → R5.2.1 = 0 from fun e => by rw [hR5] at e ⊢; exact mk_zero e)
  have HR5 := hid hR5
  clear hR5
  go_wp2_with fail
  refine HB.out.mono ?_
  rintro e w16 ⟨ZB5, rfl, lb, mb⟩
  have TB5 := hid (TA5.out.onB lb mb)
  clear lb mb HB TA5
  have HX4 := hid (show R4.2.2 = 0 → hasB R5.1 R4.2.1 = true from fun e => by
    obtain ⟨m, hm⟩ := mak_pre R4.1 (txN ⟨#[]⟩)
    have e5 : R5.1 = R4.1 ++ m := by rw [HR5.out]; exact hm
    rw [e5]
    exact has_ext (HH4.out e) m)
  go_wp2_with fail
  refine (same_any sa sb R5.1 R4.2.1 R4.2.2 _ TB5.out.a.ar.vw TB5.out.b.ar.vw HX4.out HZ4.out).mono ?_
  rintro e w17 ⟨rfl, bs⟩
  have T4 := hid (TB5.out.ext bs)
  clear bs TB5
  go_wp2_with fail
  refine (same_any sa sb R5.1 R5.2.1 R5.2.2 _ T4.out.a.ar.vw T4.out.b.ar.vw HH5.out HZ5.out).mono ?_
  rintro e w18 ⟨rfl, bs⟩
  have T5 := hid (T4.out.ext bs)
  clear bs T4
  have HBF := hid (HB1.out.trans (T5.out.a.bl.mono HB1.out.size))
  go_wp2_with fail
  go_ret
  exact ⟨rfl, HBF.out⟩
end Go.Proofs.YtkgobglmkhkbbaaGreatDoor

