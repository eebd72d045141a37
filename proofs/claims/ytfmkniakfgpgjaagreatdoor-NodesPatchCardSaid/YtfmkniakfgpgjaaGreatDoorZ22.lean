import Derived.Test.YtfmkniakfgpgjaaGreatDoorZ21
/- nodes' law: NodesPatch walked. -/
namespace Go.Proofs.YtfmkniakfgpgjaaGreatDoor
open Go.RowKit Go.KK Go.Shelf Go.Maps
set_option linter.unusedVariables false
set_option linter.unusedSimpArgs false

theorem xp_uniq {Y : List ND} (ok : Okay Y) {a b x : Int} {ep : List Int} {lab : ByteArray} (h : XpAt Y a ep lab x) (k : XpAt Y b ep lab x) : a = b := by
  obtain ⟨y, h1, h2⟩ := h
  obtain ⟨z, k1, k2⟩ := k
  have := h1.uniq ok k1
  subst this
  exact h2.uniq ok k2
/-- Of two trees that were locked, of which a leaf at one place is other. -/
theorem patch_law {X Y1 Y2 : List ND} (ok : Okay Y2) {ep : List Int} {cx ex1 ex2 : Int} {t : List TN} {i : Nat} {y : TN} {l1 l2 : List Int} (hi : i < t.length) (hy : y.k = 1) (h1 : Lkd X ep cx t Y2 l1 ex1) (h2 : Lkd Y1 ep cx (t.set i y) Y2 l2 ex2) :
    (chF l1 l2 == [(i : Int)]) = !sameN (t.getD i tn0) y := by
  have e := xp_uniq ok h1.xp h2.xp
  subst e
  have hl2 : l2.length = t.length := by rw [h2.ll, List.length_set]
  have hc := ch_one (x := l1) (y := l2) (i := i) (by rw [h1.ll, hl2]) (by rw [h1.ll]; exact hi) (fun j hj hne => by
    rw [h1.ll] at hj
    have a := h1.at' j hj
    have b := h2.at' j (by rw [List.length_set]; exact hj)
    rw [show (t.set i y).getD j tn0 = t.getD j tn0 by rw [List.getD_eq_getElem?_getD, List.getD_eq_getElem?_getD, List.getElem?_set_ne (by omega)]] at b
    exact lock_uniq ok a b)
  have a := h1.at' i hi
  have b := h2.at' i (by rw [List.length_set]; exact hi)
  rw [show (t.set i y).getD i tn0 = y by rw [List.getD_eq_getElem?_getD, List.getElem?_set_self hi]; rfl] at b
  rw [hc]
  by_cases he : l1.getD i 0 = l2.getD i 0
  · rw [if_pos he]
    rw [he] at a
    have := lock_leaf a b hy
    rw [this, sameN_eq.2 rfl]
    rfl
  · rw [if_neg he]
    have : sameN (t.getD i tn0) y = false := by
      rcases hs : sameN (t.getD i tn0) y with _ | _
      · rfl
      · rw [sameN_eq.1 hs] at a
        exact absurd (lock_uniq ok a b) he
    rw [this]
    simp
def withL (m ch : List Int) (j : Nat) : List Int := (ch.take j).map fun x => m.getD x.toNat 0
theorem with_step {m ch : List Int} {j : Nat} {x : Int} (h : ch[j]? = some x) : withL m ch (j + 1) = withL m ch j ++ [m.getD x.toNat 0] := by
  unfold withL
  rw [List.take_add_one, h, List.map_append]; rfl
/-- A leaf stored into a copy. -/
theorem cp_put {base : Nat} {wr : World} {v : Value} {xs : List TN} {rs : List Value} {Z : Nat → Prop} (h : CpS base wr v xs rs) {i : Nat} (hi : i < xs.length) (y : TN) (hu : y.u = []) (hz : ∀ b, Z b → b < base) :
    ∃ g cap, v = .slice (some ⟨g, 0, none⟩) xs.length cap ∧ base ≤ g ∧ g < wr.heap.size ∧ (∀ d, wr.frozen? ⟨g, d, none⟩ = false) ∧ (∀ d, d < 6 → ∃ u, wr.cell? ⟨g, i * 6 + d, none⟩ = some u) ∧
      Fx ((((((wr.setCell ⟨g, i * 6, none⟩ (.int .i64 y.k)).setCell ⟨g, i * 6 + 1, none⟩ (.int .i64 y.i)).setCell ⟨g, i * 6 + 2, none⟩ (.int .i64 y.e)).setCell ⟨g, i * 6 + 3, none⟩ (.int .i64 y.s)).setCell ⟨g, i * 6 + 4, none⟩ (.int .i64 y.h)).setCell ⟨g, i * 6 + 5, none⟩ (.slice none 0 0)) Z
        (fun V => TrQ V (some ⟨g, 0, none⟩) xs.length cap (xs.set i y) (rs.set i (.slice none 0 0))) := by
  rcases h.row.2 with ⟨_, e⟩ | ⟨g, cap, cur, e, hbg, hg, _⟩
  · omega
  · subst e
    have r0 := (h.row.stored (i * 6) (.int .i64 y.k)).1
    have r1 := (r0.stored (i * 6 + 1) (.int .i64 y.i)).1
    have r2 := (r1.stored (i * 6 + 2) (.int .i64 y.e)).1
    have r3 := (r2.stored (i * 6 + 3) (.int .i64 y.s)).1
    have r4 := (r3.stored (i * 6 + 4) (.int .i64 y.h)).1
    have r5 := (r4.stored (i * 6 + 5) (.slice none 0 0)).1
    rw [ncs_set h.ql hi y (.slice none 0 0)] at r5
    refine ⟨g, cap, rfl, hbg, (Array.getElem?_eq_some_iff.1 hg).1, fun d => h.row.frozenAt d, fun d hd => ?_, ?_⟩
    · have hlen : (ncs xs rs).length = xs.length * 6 := ncs_len h.ql
      have := h.row.cells (g := g) rfl (i * 6 + d) _ (List.getElem?_eq_getElem (by rw [hlen]; omega))
      rw [add_lit, Nat.zero_add] at this
      exact ⟨_, this⟩
    · refine ⟨fun b => b = g ∨ ∃ (j : Nat) (x : TN) (q : Value), j ≠ i ∧ xs[j]? = some x ∧ rs[j]? = some q ∧ q.ownBlock = some b, fun b hb => ?_, fun V hV => ?_⟩
      · rcases hb with rfl | ⟨j, x, q, hji, hx, hq, hb⟩
        · exact ⟨fun hz' => by have := hz b hz'; omega, r5.lt b rfl |>.2⟩
        · obtain ⟨o1, o2⟩ := h.new j x q hx hq
          have := o1.lt b hb
          exact ⟨fun hz' => by have := hz b hz'; omega, by simp; exact this.2⟩
      · refine ⟨by simp [h.ql], (SlA.of_own (own_block r5 (fun b hb => hV b (.inl (own_g hb))))).2, fun j x q hx hq => ?_⟩
        by_cases hji : j = i
        · subst hji
          rw [List.getElem?_set_self hi] at hx
          rw [List.getElem?_set_self (by rw [h.ql]; exact hi)] at hq
          injection hx with hx; injection hq with hq
          subst hx; subst hq
          rw [hu]
          exact ⟨none, 0, rfl, SlA.nil _ _⟩
        · rw [List.getElem?_set_ne (by omega)] at hx hq
          obtain ⟨o1, o2⟩ := h.new j x q hx hq
          have o3 : V.ownsRow base 3 1 q x.u.length (x.u.map (.int .i64)) := own_block o1 fun b hb => by
            rw [hV b (.inr ⟨j, x, q, hji, hx, hq, hb⟩)]
            have hbg2 : b ≠ g := fun e => by
              rcases o2 with o2 | o2
              · rw [o2] at hb; cases hb
              · exact o2 (by rw [hb, e]; rfl)
            rw [heap_setCell_other _ ⟨g, i * 6 + 5, none⟩ b _ hbg2, heap_setCell_other _ ⟨g, i * 6 + 4, none⟩ b _ hbg2, heap_setCell_other _ ⟨g, i * 6 + 3, none⟩ b _ hbg2, heap_setCell_other _ ⟨g, i * 6 + 2, none⟩ b _ hbg2, heap_setCell_other _ ⟨g, i * 6 + 1, none⟩ b _ hbg2, heap_setCell_other _ ⟨g, i * 6, none⟩ b _ hbg2]
          obtain ⟨A2, c2, rfl, hs2⟩ := SlA.owned o3
          exact ⟨A2, c2, rfl, hs2⟩
/-- One node's cells. -/
theorem trq_cells {V : World} {b o n c : Nat} {t : List TN} {qs : List Value} (h : TrQ V (some ⟨b, o, none⟩) n c t qs) {j : Nat} {x : TN} {q : Value} (hx : t[j]? = some x) (hq : qs[j]? = some q) :
    V.cell? ⟨b, o + j * 6, none⟩ = some (.int .i64 x.k) ∧ V.cell? ⟨b, o + j * 6 + 1, none⟩ = some (.int .i64 x.i) ∧ V.cell? ⟨b, o + j * 6 + 2, none⟩ = some (.int .i64 x.e) ∧ V.cell? ⟨b, o + j * 6 + 3, none⟩ = some (.int .i64 x.s) ∧ V.cell? ⟨b, o + j * 6 + 4, none⟩ = some (.int .i64 x.h) ∧ V.cell? ⟨b, o + j * 6 + 5, none⟩ = some q := by
  have go : ∀ k (u : Value), k < 6 → (x.cells q)[k]? = some u → V.cell? ⟨b, o + j * 6 + k, none⟩ = some u := fun k u hk hu => by
    obtain ⟨b', o', e, hc⟩ := h.s.cells (j * 6 + k) u ((ncs_get hx hq hk).trans hu)
    injection e with e
    injection e with e1 e2
    subst e1; subst e2
    rw [Nat.add_assoc]; exact hc
  exact ⟨go 0 _ (by decide) rfl, go 1 _ (by decide) rfl, go 2 _ (by decide) rfl, go 3 _ (by decide) rfl, go 4 _ (by decide) rfl, go 5 _ (by decide) rfl⟩
theorem trq_q {V : World} {A : Option Addr} {n c : Nat} {t : List TN} {qs : List Value} (h : TrQ V A n c t qs) {j : Nat} (hj : j < n) : ∃ b o x A' c', A = some ⟨b, o, none⟩ ∧ t[j]? = some x ∧ qs[j]? = some (.slice A' x.u.length c') ∧ ∀ V', TrQ V' A n c t qs → SlA V' 1 A' x.u.length c' (x.u.map (.int .i64)) := by
  obtain ⟨b, off, x, A', c', e, hx, d0, d1, d2, d3, d4, d5, hs⟩ := h.at hj
  have hn := h.tr.len
  have hq : qs[j]? = some (qs[j]'(by rw [h.ql, hn]; exact hj)) := List.getElem?_eq_getElem _
  subst e
  have := (trq_cells h hx hq).2.2.2.2.2
  rw [d5] at this
  injection this with this
  rw [← this] at hq
  exact ⟨b, off, x, A', c', rfl, hx, hq, hs⟩
theorem la_put6 {w0 W : World} {Z : Nat → Prop} {sa g : Nat} {xs : List ND} (h : LA w0 W Z sa xs) (hz : ¬ Z g) (hb : w0.heap.size ≤ g) (o0 o1 o2 o3 o4 o5 : Nat) (v0 v1 v2 v3 v4 v5 : Value) :
    LA w0 ((((((W.setCell ⟨g, o0, none⟩ v0).setCell ⟨g, o1, none⟩ v1).setCell ⟨g, o2, none⟩ v2).setCell ⟨g, o3, none⟩ v3).setCell ⟨g, o4, none⟩ v4).setCell ⟨g, o5, none⟩ v5) Z sa xs :=
  (((((h.put1 (o := o0) v0 hz hb).put1 (o := o1) v1 hz hb).put1 (o := o2) v2 hz hb).put1 (o := o3) v3 hz hb).put1 (o := o4) v4 hz hb).put1 (o := o5) v5 hz hb
theorem Fx.app_set6 {W W2 : World} {Z : Nat → Prop} {P : World → Prop} (h : Fx W Z P) (hb : Below W.heap.size W W2) {g : Nat} (hg : W.heap.size ≤ g) (o0 o1 o2 o3 o4 o5 : Nat) (v0 v1 v2 v3 v4 v5 : Value) :
    Fx ((((((W2.setCell ⟨g, o0, none⟩ v0).setCell ⟨g, o1, none⟩ v1).setCell ⟨g, o2, none⟩ v2).setCell ⟨g, o3, none⟩ v3).setCell ⟨g, o4, none⟩ v4).setCell ⟨g, o5, none⟩ v5) Z P :=
  (((((((h.zk hg).ext hb).mv (Mv.set Z W2 g o0 v0)).mv (Mv.set Z _ g o1 v1)).mv (Mv.set Z _ g o2 v2)).mv (Mv.set Z _ g o3 v3)).mv (Mv.set Z _ g o4 v4)).mv (Mv.set Z _ g o5 v5) |>.unz
set_option maxHeartbeats 8000000 in
set_option maxRecDepth 100000 in
theorem patch_go (A : Option Addr) (n c : Nat) (l : List Int) (B : Option Addr) (m d : Nat) (l' : List Int) (C : Option Addr) (p f : Nat) (t : List TN) (i : Int) (w : World) (hl : SlA w 1 A n c (l.map (.int .i64))) (hl' : SlA w 1 B m d (l'.map (.int .i64))) (ht : Tr w C p f t) (hti : ∀ m ∈ t, TnI m) (hT : Tb w.heap.size w) :
    Calls Tryz.prog 6 #[.slice A n c, .slice B m d, .slice C p f, .int .i64 i] w fun e w' => e = .returned (.bool true) ∧ Below w.heap.size w w' := by
  have HT := hid hT; have HTR := hid ht; have HTI := hid hti; have HL := hid hl; have HL' := hid hl'
  have HTL := hid ht.len; have HLN := hid hl.lenI; have HLM := hid hl'.lenI
  have hnc := ht.nc
  have hnm : p ≤ 9223372036854775807 := by have := hnc.1; have := hnc.2; unfold maxLen at *; omega
  have HLV := hid (live22_any w hT)
  clear hT ht hti hnc hl hl'
  go_enter Tryz.func6, Tryz.ntmps6
  go_wp2_with fail
  refine HLV.out.mono ?_
  rintro e w1 ⟨rfl, b1⟩
  have HB1 := hid b1
  have HTR1 := hid (HTR.out.ext b1); have HL1 := hid (HL.out.ext b1); have HM1 := hid (HL'.out.ext b1)
  have HFW := hid (nfew_any (some ⟨w1.heap.size, 0, none⟩) 1 1 [.slice C p f] [t] (w1.alloc (.cells #[.slice C p f] 22)) (SlA.lit1 _) rfl (by decide) (fun j v xs hv hx => by
    rcases j with _ | j
    · injection hv with hv; injection hx with hx; subst hv; subst hx
      exact ⟨C, p, f, rfl, HTR1.out.alloc _⟩
    · simp at hv))
  have HB1a := hid (HB1.out.alloc HB1.out.size (.cells #[.slice C p f] 22))
  clear b1 HLV
  by_cases h200 : 200 < n
  · have h200' : (200 : Int) < (n : Int) := by omega
    go_wp2_with fail
    go_ret
    exact ⟨rfl, HB1.out⟩
  have h200' : ¬ (200 : Int) < (n : Int) := by omega
  have hd1 : decide ((200 : Int) < (n : Int)) = false := decide_eq_false h200'
  by_cases g200 : 200 < m
  · have g200' : (200 : Int) < (m : Int) := by omega
    go_wp2_with fail
    go_ret
    exact ⟨rfl, HB1.out⟩
  have g200' : ¬ (200 : Int) < (m : Int) := by omega
  have hd2 : decide ((200 : Int) < (m : Int)) = false := decide_eq_false g200'
  have hn200 : n ≤ 200 := by omega
  have hm200 : m ≤ 200 := by omega
  clear h200 g200
  rcases hfw : [t].all fewN with _ | _
  · rw [hfw] at HFW
    clear hfw
    go_wp2_with fail
    refine HFW.out.mono ?_
    rintro e w2 ⟨rfl, b2⟩
    have HB2 := hid (HB1a.out.trans (b2.mono HB1a.out.size))
    clear b2 HFW
    go_wp2_with fail
    go_ret
    exact ⟨rfl, HB2.out⟩
  rw [hfw] at HFW
  have HU := hid (fewN_u (List.all_eq_true.1 hfw t (by simp)))
  clear hfw
  by_cases h70 : 70 < p
  · have h70' : (70 : Int) < (p : Int) := by omega
    go_wp2_with fail
    refine HFW.out.mono ?_
    rintro e w2 ⟨rfl, b2⟩
    have HB2 := hid (HB1a.out.trans (b2.mono HB1a.out.size))
    clear b2 HFW
    go_wp2_with fail
    go_ret
    exact ⟨rfl, HB2.out⟩
  have h70' : ¬ (70 : Int) < (p : Int) := by omega
  have hd3 : decide ((70 : Int) < (p : Int)) = false := decide_eq_false h70'
  have hp70 : p ≤ 70 := by omega
  clear h70
  go_wp2_with fail
  refine HFW.out.mono ?_
  rintro e w2 ⟨rfl, b2⟩
  have bb := ((Below.refl w1.heap.size w1).alloc (Nat.le_refl _) (.cells #[.slice C p f] 22)).trans (b2.mono (by simp))
  have HB2 := hid (HB1.out.trans (bb.mono HB1.out.size))
  have HTR2 := hid (HTR1.out.ext bb); have HL2 := hid (HL1.out.ext bb); have HM2 := hid (HM1.out.ext bb)
  clear b2 bb HFW HB1 HB1a HTR1 HTR HL1 HM1 HL HL'
  clear h200' g200' h70' hd1 hd2 hd3
  -- what changed
  have HCH := hid (changed_any A n c l B m d l' w2 HL2.out HM2.out (by omega) (by omega))
  have HCL := hid (show (chF l l').length ≤ 200 from Nat.le_trans (chL_le l l' _) (by rw [HLN.out, HLM.out]; omega))
  go_wp2_with fail
  refine HCH.out.mono ?_
  rintro e w3 ⟨v3, rfl, o3, b3⟩
  obtain ⟨A3, c3, rfl, s3⟩ := SlA.owned o3
  have HB3 := hid (HB2.out.trans (b3.mono HB2.out.size)); have HS3 := hid s3
  have HTR3 := hid (HTR2.out.ext b3); have HL3 := hid (HL2.out.ext b3); have HM3 := hid (HM2.out.ext b3)
  clear o3 s3 b3 HB2 HTR2 HL2 HM2 HCH
  have HRC := hid (rchanged_any A n c l B m d l' w3 HL3.out HM3.out (by omega) (by omega))
  go_wp2_with fail
  refine HRC.out.mono ?_
  rintro e w4 ⟨v4, rfl, o4, b4⟩
  obtain ⟨A4, c4, rfl, s4⟩ := SlA.owned o4
  have HSI := hid (same_ints _ _ _ (chF l l') _ _ _ (chF l l') w4 (HS3.out.ext b4) s4 (by have := HCL.out; omega) (by have := HCL.out; omega))
  rw [beq_self_eq_true] at HSI
  have HB4 := hid (HB3.out.trans (b4.mono HB3.out.size)); have HS4 := hid (HS3.out.ext b4)
  have HTR4 := hid (HTR3.out.ext b4); have HL4 := hid (HL3.out.ext b4); have HM4 := hid (HM3.out.ext b4)
  clear o4 s4 b4 HB3 HTR3 HL3 HM3 HS3 HRC
  go_wp2_with fail
  refine HSI.out.mono ?_
  rintro e w5 ⟨rfl, q5, rfl⟩
  have HB5 := hid (below_drewN HB4.out q5); have HS5 := hid (HS4.out.drewN q5)
  have HTR5 := hid (HTR4.out.drewN q5); have HL5 := hid (HL4.out.drewN q5); have HM5 := hid (HM4.out.drewN q5)
  generalize w4.drewN q5 = w5 at *
  clear HB4 HTR4 HL4 HM4 HS4 HSI
  go_upto_if 63 with fail
  go_cut [11, 13, 14, 15] from 59 to 92 (fun _ _ _ _ W => Below w5.heap.size w5 W)
  case first =>
    by_cases hnm2 : n = m
    · subst hnm2
      have HPC := hid (pat_ch (l := l) (m := l') (by rw [HLN.out, HLM.out]))
      have HIN := hid (show ∀ x ∈ chF l l', 0 ≤ x ∧ x < (n : Int) from fun x hx => by
        obtain ⟨k, rfl, hk, -⟩ := ch_mem.1 hx
        rw [HLN.out, HLM.out] at hk
        omega)
      obtain ⟨i0, hi0, hz0, hz1, hz2⟩ := info_parts Tryz.infoInt
      generalize chF l l' = ch at *
      go_wp2_with fail
      go_loopw [66, 11, 13] (fun v vo _ wr => ∃ j : Nat, v = .int .i64 j ∧ j ≤ ch.length ∧ wr.ownsRow w5.heap.size 3 1 vo j ((withL l' ch j).map (.int .i64)) ∧ Below w5.heap.size w5 wr) (fun v _ _ _ => ch.length - (intOf v).toNat)
      case atStart => exact ⟨0, rfl, Nat.zero_le _, World.ownsRow_nil _ _ _ _, Below.refl _ _⟩
      case round =>
        obtain ⟨j, hv, hj, ho, hb⟩ := hrel
        subst hv
        have HO := hid ho; have HB := hid hb
        clear ho hb
        have hcl := HCL.out
        by_cases hlt : j < ch.length
        · have hlt' : (j : Int) < (ch.length : Int) := by omega
          obtain ⟨b, off, x, rfl, hx, hcx⟩ := (HS5.out.ext HB.out).elemI hlt
          obtain ⟨hx0, hxn⟩ := HIN.out x (List.mem_of_getElem? hx)
          obtain ⟨y, rfl⟩ := Int.eq_ofNat_of_zero_le hx0
          obtain ⟨b', off', z, rfl, hz, hcz⟩ := (HM5.out.ext HB.out).elemI (k := y) (by omega)
          have HTK := hid (with_step (m := l') hx)
          have HZ := hid (show l'.getD ((y : Int).toNat) 0 = z by rw [Int.toNat_natCast, List.getD_eq_getElem?_getD, hz]; rfl)
          have hy0 : ¬ (y : Int) < 0 := by omega
          have hyn : (y : Int) < (n : Int) := by omega
          clear hx hz
          have HO2 := hid (HO.out.alloc (.cells #[.int .i64 z] 3))
          have HBz := hid (HB.out.alloc HB.out.size (.cells #[.int .i64 z] 3))
          have HLT := hid (SlA.lit1 (w := wr) (T := 3) (.int .i64 z))
          go_wp2_with (first
            | (at_builtin; refine wpList_append_sl _ rfl _ _ 33 rfl w5.heap.size 3 i0 (.int .i64 0) 1 8 Tryz.underlying33 hi0 hz0 hz1 hz2 rfl (by decide) _ j _ rfl HO2.out _ 1 1 _ rfl HLT.out (one_int _ _) (by unfold maxLen; omega) (by omega) HBz.out.size ?_; intro v7 w7 own7 gr7 _; have HO7 := hid own7; have HB7 := hid (below_append HBz.out gr7 HO2.out (Nat.le_refl _) HBz.out.size); clear own7 gr7)
            | fail)
          go_roundw
          case rel =>
            refine ⟨v7, .int .i64 (y : Int), .int .i64 ((j : Int) + 1), ⟨j + 1, by go_num, by omega, ?_, HB7.out⟩, rfl, rfl, rfl⟩
            rw [HTK.out, List.map_append, HZ.out]
            exact HO7.out
          case measure => simp [intOf]; omega
        · obtain rfl : j = ch.length := by omega
          have HTK := hid (show withL l' ch ch.length = ch.map fun x => l'.getD x.toNat 0 by unfold withL; rw [List.take_length])
          rw [HTK.out] at HO
          obtain ⟨A7, c7, rfl, s7⟩ := SlA.owned HO.out
          have HPA := hid (patch_any A n c l _ _ _ ch _ _ _ _ wr (HL5.out.ext HB.out) (HS5.out.ext HB.out) s7 (by omega) (by omega) (by omega))
          rw [HPC.out] at HPA
          unfold PaS at HPA
          clear s7
          go_wp2_with fail
          refine HPA.out.mono ?_
          rintro e w8 ⟨v8, rfl, o8, b8⟩
          obtain ⟨A8, c8, rfl, s8⟩ := SlA.owned o8
          have HB8 := hid (HB.out.trans (b8.mono HB.out.size))
          have HSJ := hid (same_ints _ _ _ l' _ _ _ l' w8 s8 (HM5.out.ext HB8.out) (by rw [HLM.out]; omega) (by omega))
          rw [beq_self_eq_true] at HSJ
          clear o8 s8 b8
          go_wp2_with fail
          refine HSJ.out.mono ?_
          rintro e w9 ⟨rfl, q9, rfl⟩
          have HB9 := hid (below_drewN HB8.out q9)
          go_wp2_with fail
          go_meet
          case rel => exact HB9.out
    · have hnm3 : ((n : Int) == (m : Int)) = false := beq_eq_false_iff_ne.2 (by omega)
      go_wp2_with fail
      go_meet
      case rel => exact Below.refl _ _
  case rest =>
    have HB6 := hid (HB5.out.trans (hcut.mono HB5.out.size))
    have HTR6 := hid (HTR5.out.ext hcut); have HL6 := hid (HL5.out.ext hcut); have HM6 := hid (HM5.out.ext hcut)
    clear hcut HB5 HTR5 HL5 HM5 HS5
    have HPA := hid (patch_any A n c l B m d l' A n c l wc HL6.out HM6.out HL6.out (by omega) (by omega) (by omega))
    unfold PaS at HPA
    go_wp2_with fail
    refine HPA.out.mono ?_
    rintro e w7 ⟨v7, rfl, o7, b7⟩
    obtain ⟨A7, c7, rfl, s7⟩ := SlA.owned o7
    have HB7 := hid (HB6.out.trans (b7.mono HB6.out.size)); have HS7 := hid s7
    have HTR7 := hid (HTR6.out.ext b7); have HL7 := hid (HL6.out.ext b7); have HM7 := hid (HM6.out.ext b7)
    clear o7 s7 b7 HB6 HTR6 HL6 HM6 HPA
    have HPB := hid (rpatch_any A n c l B m d l' A n c l w7 HL7.out HM7.out HL7.out (by omega) (by omega) (by omega))
    unfold PaS at HPB
    have HPL := hid (show (patF l l' l).1.length ≤ 200 from by
      unfold patF
      split
      · exact Nat.zero_le _
      · show (ptS _ _ _ _).length ≤ 200
        rw [ptS_len, HLN.out]; exact hn200)
    generalize patF l l' l = pr at *
    obtain ⟨pl, pe⟩ := pr
    dsimp only at HPB HPL
    go_wp2_with fail
    refine HPB.out.mono ?_
    rintro e w8 ⟨v8, rfl, o8, b8⟩
    obtain ⟨A8, c8, rfl, s8⟩ := SlA.owned o8
    have HB8 := hid (HB7.out.trans (b8.mono HB7.out.size)); have HS8 := hid s8; have HS7b := hid (HS7.out.ext b8)
    have HTR8 := hid (HTR7.out.ext b8)
    clear o8 s8 b8 HB7 HTR7 HL7 HM7 HPB HS7
    have HSK := hid (fun (U : World) (hb : Below w8.heap.size w8 U) => same_ints _ _ _ pl _ _ _ pl U (HS7b.out.ext hb) (HS8.out.ext hb) (by have := HPL.out; omega) (by have := HPL.out; omega))
    rw [beq_self_eq_true] at HSK
    have HSK0 := hid (HSK.out w8 (Below.refl _ _))
    by_cases hp0 : p = 0
    · subst hp0
      go_wp2_with fail
      refine HSK0.out.mono ?_
      rintro e w9 ⟨rfl, q9, rfl⟩
      have HSK1 := hid (HSK.out (w8.drewN q9) (below_drewN (Below.refl _ _) q9))
      go_wp2_with fail
      refine HSK1.out.mono ?_
      rintro e w9 ⟨rfl, qa, rfl⟩
      have HB9 := hid (below_drewN HB8.out (q9 + qa))
      go_wp2_with fail
      go_ret
      exact ⟨rfl, HB9.out⟩
    have hp0' : ((p : Int) == 0) = false := beq_eq_false_iff_ne.2 (by omega)
    have hp1 : 0 < p := by omega
    clear hp0
    go_wp2_with fail
    refine HSK0.out.mono ?_
    rintro e w9 ⟨rfl, q9, rfl⟩
    have HB9 := hid (below_drewN HB8.out q9); have HTR9 := hid (HTR8.out.drewN q9)
    generalize w8.drewN q9 = w9 at *
    clear HB8 HTR8 HS8 HS7b HSK HSK0
    have HT9 := hid (show Tb w9.heap.size w9 from Tb.up (HT.out.on HB9.out) HB9.out.size)
    go_wp2_with fail
    refine (two22_any w9 HT9.out).mono ?_
    rintro e w3 ⟨sa, sb, Z, Z', X, ep, rfl, hE, htx⟩
    have HE := hid hE
    obtain ⟨e0, e1, e2, e3, e4, e5, e6, e7, e8, e9, e10, rfl⟩ := len11 hE.len
    have HP := hid (two_box htx.a (.cells #[.int .i64 e0, .int .i64 e1, .int .i64 e2, .int .i64 e3, .int .i64 e4, .int .i64 e5, .int .i64 e6, .int .i64 e7, .int .i64 e8, .int .i64 e9, .int .i64 e10] 29) (.cells #[.int .i64 e0, .int .i64 e1, .int .i64 e2, .int .i64 e3, .int .i64 e4, .int .i64 e5, .int .i64 e6, .int .i64 e7, .int .i64 e8, .int .i64 e9, .int .i64 e10] 29))
    clear hE htx
    unfold epV
    go_upto_region 22 with fail
    generalize w3.heap.size = b0 at *
    refine forget (R := fun V => LA w9 V Z sa X ∧ HasO (.cells #[.int .i64 e0, .int .i64 e1, .int .i64 e2, .int .i64 e3, .int .i64 e4, .int .i64 e5, .int .i64 e6, .int .i64 e7, .int .i64 e8, .int .i64 e9, .int .i64 e10] 29 (0, 0)) b0 V ∧ ¬ Z b0 ∧ w9.heap.size ≤ b0) ?_ HP.out
    clear HP
    rintro V ⟨hla, hbx, hzb, hwb⟩
    have HL := hid hla; have HB := hid hbx; have HZ := hid hzb
    clear hla hbx hzb hwb
    obtain ⟨qs, hqs⟩ := tr_trq HTR9.out
    have HFT := hid (fx_trq HL.out hqs)
    have HFB := hid (fx_has HB.out HZ.out)
    clear hqs HB HZ
    obtain ⟨i1, hi1, hie⟩ := md_in i hp1 (by omega)
    unfold mdF at hie
    have hnz : ¬ (p : Int) = 0 := by omega
    have HSH := hid (show Shorts t from fun j q hq => by have := HU.out q (List.mem_of_getElem? hq); omega)
    have HCP := hid (copy_any C p f t V HFT.out.here.tr (by omega) HSH.out)
    go_wp2_with fail
    refine HCP.out.mono ?_
    clear hie hnz
    rintro e w5 ⟨v5, rs, rfl, hcp, b5⟩
    have HL5 := hid (HL.out.ext b5); have HFT5 := hid (HFT.out.ext b5)
    obtain ⟨g, cap, rfl, hg, hgw, hfz, hcl, hfx⟩ := cp_put (Z := Z) hcp (i := i1) (by rw [HTL.out]; exact hi1) ⟨1, 9, 9, 8, 9, []⟩ rfl HL.out.ar.zlt
    have HFU := hid hfx
    have HB5 := hid b5; have HG := hid hg
    obtain ⟨u0, k0⟩ := hcl 0 (by decide); obtain ⟨u1, k1⟩ := hcl 1 (by decide); obtain ⟨u2, k2⟩ := hcl 2 (by decide); obtain ⟨u3, k3⟩ := hcl 3 (by decide); obtain ⟨u4, k4⟩ := hcl 4 (by decide); obtain ⟨u5, k5⟩ := hcl 5 (by decide)
    have f0 := hfz (i1 * 6); have f1 := hfz (i1 * 6 + 1); have f2 := hfz (i1 * 6 + 2); have f3 := hfz (i1 * 6 + 3); have f4 := hfz (i1 * 6 + 4); have f5 := hfz (i1 * 6 + 5)
    rw [Nat.add_zero] at k0
    rw [HTL.out] at HFU ⊢
    clear hg hgw hcl hfz hfx b5 hcp HCP
    go_upto_region 25 with fail
    have hzg : ¬ Z g := fun hz => by have := HL.out.ar.zlt _ hz; have := HG.out; omega
    have hwg : w9.heap.size ≤ g := by have := HL.out.bl.size; have := HG.out; omega
    have HP := hid (And.intro (la_put6 HL5.out hzg hwg (i1 * 6) (i1 * 6 + 1) (i1 * 6 + 2) (i1 * 6 + 3) (i1 * 6 + 4) (i1 * 6 + 5) (.int .i64 1) (.int .i64 9) (.int .i64 9) (.int .i64 8) (.int .i64 9) (.slice none 0 0))
      (And.intro (HFT.out.app_set6 HB5.out HG.out (i1 * 6) (i1 * 6 + 1) (i1 * 6 + 2) (i1 * 6 + 3) (i1 * 6 + 4) (i1 * 6 + 5) (.int .i64 1) (.int .i64 9) (.int .i64 9) (.int .i64 8) (.int .i64 9) (.slice none 0 0))
      (And.intro (HFB.out.app_set6 HB5.out HG.out (i1 * 6) (i1 * 6 + 1) (i1 * 6 + 2) (i1 * 6 + 3) (i1 * 6 + 4) (i1 * 6 + 5) (.int .i64 1) (.int .i64 9) (.int .i64 9) (.int .i64 8) (.int .i64 9) (.slice none 0 0)) HFU.out)))
    clear k0 k1 k2 k3 k4 k5 f0 f1 f2 f3 f4 f5 HL5 HFT5 HFU HFT HFB HL HB5 HG hzg hwg
    obtain ⟨yl, hyl⟩ : ∃ yl : TN, yl = ⟨1, 9, 9, 8, 9, []⟩ := ⟨_, rfl⟩
    rw [← hyl] at HP
    have HYK := hid (show yl.k = 1 by rw [hyl])
    have HYI := hid (show TnI yl ∧ yl.u.length ≤ 30 by
      subst hyl
      have h : ∀ i : Int, 0 ≤ i → i ≤ 100 → I64 i := fun i h0 h1 => ⟨by omega, by omega⟩
      exact ⟨⟨h _ (by decide) (by decide), h _ (by decide) (by decide), h _ (by decide) (by decide), h _ (by decide) (by decide), h _ (by decide) (by decide), fun i hi => by simp at hi⟩, by decide⟩)
    have HY := hid hyl
    clear hyl
    refine forget (R := fun U => LA w9 U Z sa X ∧ Fx U Z (fun V => TrQ V C p f t qs) ∧ Fx U Z (HasO (.cells #[.int .i64 e0, .int .i64 e1, .int .i64 e2, .int .i64 e3, .int .i64 e4, .int .i64 e5, .int .i64 e6, .int .i64 e7, .int .i64 e8, .int .i64 e9, .int .i64 e10] 29 (0, 0)) b0) ∧ Fx U Z (fun V => TrQ V (some ⟨g, 0, none⟩) p cap (t.set i1 yl) (rs.set i1 (.slice none 0 0)))) ?_ HP.out
    clear HP
    rintro U ⟨hla, hft, hfb, hfu⟩
    have HL := hid hla; have HFT := hid hft; have HFB := hid hfb; have HFU := hid hfu
    obtain ⟨k0, k1, k2, k3, k4, k5, k6, k7, k8, k9, k10⟩ := box11 hfb.here
    clear hla hft hfb hfu
    have HST := hid (show ∀ q ∈ t.set i1 yl, TnI q ∧ q.u.length ≤ 30 from fun q hq => by
      rcases List.mem_or_eq_of_mem_set hq with h | h
      · exact ⟨HTI.out q h, HU.out q h⟩
      · rw [h]; exact HYI.out)
    have HLK := hid (lock_any HL.out HT9.out HE.out.len HE.out.i5 (cx := 2) (i64_lit (by decide) (by decide)) HFT.out HTI.out (fun m hm => by have := HU.out m hm; omega) (by omega))
    rw [epV11] at HLK
    have HLKD := hid (fun h => lock_ok (X := X) (ep := [e0, e1, e2, e3, e4, e5, e6, e7, e8, e9, e10]) (cx := 2) (t := t) h)
    have HLEN := hid (lock_len (X := X) [e0, e1, e2, e3, e4, e5, e6, e7, e8, e9, e10] 2 t (k := 30) HU.out)
    generalize lockF X [e0, e1, e2, e3, e4, e5, e6, e7, e8, e9, e10] 2 t = r at *
    generalize beI X [e0, e1, e2, e3, e4, e5, e6, e7, e8, e9, e10] 2 = ex at *
    obtain ⟨Y, l1, er⟩ := r
    dsimp only at HLK HLKD HLEN
    go_wp2_with fail
    refine HLK.out.mono ?_
    rintro e w4 ⟨Z4, v, rfl, l4, m4, o4, z4⟩
    obtain ⟨A4, c4, rfl⟩ := own_shape o4
    have HL4 := hid l4
    have HFL4 := hid ((fx_own o4 z4).mono fun U hU => (SlA.of_own hU).2)
    have HFT4 := hid (HFT.out.mv m4); have HFB4 := hid (HFB.out.mv m4); have HFU4 := hid (HFU.out.mv m4)
    clear l4 o4 z4 m4 HLK HFT HFB HFU HL k0 k1 k2 k3 k4 k5 k6 k7 k8 k9 k10
    obtain ⟨k0, k1, k2, k3, k4, k5, k6, k7, k8, k9, k10⟩ := box11 HFB4.out.here
    have HLK := hid (lock_any HL4.out HT9.out HE.out.len HE.out.i5 (cx := 2) (i64_lit (by decide) (by decide)) HFU4.out (fun m hm => (HST.out m hm).1) (fun m hm => by have := (HST.out m hm).2; omega) (by omega))
    rw [epV11] at HLK
    have HLKE := hid (fun h => lock_ok (X := Y) (ep := [e0, e1, e2, e3, e4, e5, e6, e7, e8, e9, e10]) (cx := 2) (t := t.set i1 yl) h)
    have HEX := hid (lock_ext Y [e0, e1, e2, e3, e4, e5, e6, e7, e8, e9, e10] 2 (t.set i1 yl))
    generalize lockF Y [e0, e1, e2, e3, e4, e5, e6, e7, e8, e9, e10] 2 (t.set i1 yl) = r at *
    generalize beI Y [e0, e1, e2, e3, e4, e5, e6, e7, e8, e9, e10] 2 = ex2 at *
    obtain ⟨Y2, l2, er2⟩ := r
    dsimp only at HLK HLKE HEX
    go_wp2_with fail
    refine HLK.out.mono ?_
    rintro e w6 ⟨Z6, v, rfl, l6, m6, o6, z6⟩
    obtain ⟨A6, c6, rfl⟩ := own_shape o6
    have HL6 := hid l6
    have HFM6 := hid ((fx_own o6 z6).mono fun U hU => (SlA.of_own hU).2)
    have HFL6 := hid (HFL4.out.mv m6); have HFT6 := hid (HFT4.out.mv m6); have HFU6 := hid (HFU4.out.mv m6)
    clear l6 o6 z6 m6 HLK HFT4 HFB4 HFU4 HFL4 HL4 k0 k1 k2 k3 k4 k5 k6 k7 k8 k9 k10
    have HB6 := hid (HB9.out.trans (HL6.out.bl.mono HB9.out.size))
    by_cases her : er = 0
    rotate_left
    · have her' : (er != 0) = true := bne_iff_ne.2 her
      clear her
      go_wp2_with fail
      go_ret
      exact ⟨rfl, HB6.out⟩
    subst her
    by_cases her : er2 = 0
    rotate_left
    · have her' : (er2 != 0) = true := bne_iff_ne.2 her
      clear her
      go_wp2_with fail
      go_ret
      exact ⟨rfl, HB6.out⟩
    subst her
    obtain ⟨mx, rfl⟩ := HEX.out
    have HK1 := hid ((HLKD.out rfl).ext mx); have HK2 := hid (HLKE.out rfl)
    have HLW := hid (patch_law HL6.out.ar.ok (by rw [HTL.out]; exact hi1) HYK.out HK1.out HK2.out)
    have HLL1 := hid (show l1.length = p by rw [HK1.out.ll, HTL.out])
    have HLL2 := hid (show l2.length = p by rw [HK2.out.ll, List.length_set, HTL.out])
    clear HLKD HLKE HEX
    rw [HLL1.out] at HFL6 ⊢
    rw [HLL2.out] at HFM6 ⊢
    go_upto_region 29 with fail
    obtain ⟨bt, ot, x, At, ct, rfl, hx, hqx, hsx⟩ := trq_q HFT6.out.here hi1
    obtain ⟨bu, ou, y, Au, cu, hgu, hy, hqy, hsy⟩ := trq_q HFU6.out.here hi1
    injection hgu with hgu
    injection hgu with e1 e2
    subst e1; subst e2
    rw [List.getElem?_set_self (by rw [HTL.out]; exact hi1)] at hy
    injection hy with hy
    subst hy
    have HXT := hid (show t.getD i1 tn0 = x by rw [List.getD_eq_getElem?_getD, hx]; rfl)
    have F12 := hid ((HFT6.out.and HFU6.out).mono (Q := fun V => V.cell? ⟨bt, ot + i1 * 6, none⟩ = some (.int .i64 x.k) ∧ V.cell? ⟨bt, ot + i1 * 6 + 1, none⟩ = some (.int .i64 x.i) ∧ V.cell? ⟨bt, ot + i1 * 6 + 2, none⟩ = some (.int .i64 x.e) ∧ V.cell? ⟨bt, ot + i1 * 6 + 3, none⟩ = some (.int .i64 x.s) ∧ V.cell? ⟨bt, ot + i1 * 6 + 4, none⟩ = some (.int .i64 x.h) ∧ V.cell? ⟨bt, ot + i1 * 6 + 5, none⟩ = some (.slice At x.u.length ct) ∧ V.cell? ⟨g, i1 * 6, none⟩ = some (.int .i64 yl.k) ∧ V.cell? ⟨g, i1 * 6 + 1, none⟩ = some (.int .i64 yl.i) ∧ V.cell? ⟨g, i1 * 6 + 2, none⟩ = some (.int .i64 yl.e) ∧ V.cell? ⟨g, i1 * 6 + 3, none⟩ = some (.int .i64 yl.s) ∧ V.cell? ⟨g, i1 * 6 + 4, none⟩ = some (.int .i64 yl.h) ∧ V.cell? ⟨g, i1 * 6 + 5, none⟩ = some (.slice Au yl.u.length cu)) fun V hV => by
      obtain ⟨a0, a1, a2, a3, a4, a5⟩ := trq_cells hV.1 hx hqx
      obtain ⟨c0, c1, c2, c3, c4, c5⟩ := trq_cells hV.2 (List.getElem?_set_self (by rw [HTL.out]; exact hi1)) hqy
      rw [Nat.zero_add] at c0 c1 c2 c3 c4 c5
      exact ⟨a0, a1, a2, a3, a4, a5, c0, c1, c2, c3, c4, c5⟩)
    have HCF := hid (fun (W : World) (hb : Below w6.heap.size w6 W) => (changed_any A4 p c4 l1 A6 p c6 l2 W (HFL6.out.ext hb).here (HFM6.out.ext hb).here (by omega) (by omega)).mono (R' := fun e w' => ∃ v, e = .returned v ∧ w'.ownsRow W.heap.size 3 1 v (chF l1 l2).length ((chF l1 l2).map (.int .i64)) ∧ Below W.heap.size W w' ∧ Below w6.heap.size w6 w') fun e w' ⟨v, h1, h2, h3⟩ => ⟨v, h1, h2, h3, hb.trans (h3.mono hb.size)⟩)
    have HNF := hid (fun (W : World) (hb : Below w6.heap.size w6 W) => samenode_any x yl At ct Au cu W (hsx W (HFT6.out.ext hb).here) (hsy W (HFU6.out.ext hb).here) (by have := HU.out x (List.mem_of_getElem? hx); omega) (by have := HYI.out.2; omega) |>.mono (R' := fun e w' => e = .returned (.bool (sameN x yl)) ∧ Below W.heap.size W w' ∧ Below w6.heap.size w6 w') fun e w' ⟨h1, h3⟩ => ⟨h1, h3, hb.trans (h3.mono hb.size)⟩)
    have HIF := hid (fun (W : World) (A1 : Option Addr) (cc : Nat) (B1 : Option Addr) (h1 : SlA W 1 A1 (chF l1 l2).length cc ((chF l1 l2).map (.int .i64))) (h2 : SlA W 1 B1 1 1 [.int .i64 (i1 : Int)]) => same_ints A1 _ cc (chF l1 l2) B1 1 1 [(i1 : Int)] W h1 h2 (by have := chL_le l1 l2 (max l1.length l2.length); have h1 := HLL1.out; have h2 := HLL2.out; unfold chF; omega) (by omega))
    rw [HLW.out, HXT.out] at HIF
    generalize sameN x yl = bn at *
    generalize chF l1 l2 = ch at *
    have hx0 : (0 : Int) ≤ (i1 : Int) := by omega
    have hx1 : (i1 : Int) < (p : Int) := by omega
    have HB0 := hid (below_drew (Below.refl w6.heap.size w6))
    have HB0a := hid (below_drew ((Below.refl w6.heap.size w6).alloc (Nat.le_refl _) (.cells #[.int .i64 (i1 : Int)] 3)))
    have HL0 := hid (SlA.drew (SlA.lit1 (w := w6) (T := 3) (.int .i64 (i1 : Int))))
    clear hx hqx hqy hsx hsy
    go_region_held3 (fun V => V.cell? ⟨bt, ot + i1 * 6, none⟩ = some (.int .i64 x.k) ∧ V.cell? ⟨bt, ot + i1 * 6 + 1, none⟩ = some (.int .i64 x.i) ∧ V.cell? ⟨bt, ot + i1 * 6 + 2, none⟩ = some (.int .i64 x.e) ∧ V.cell? ⟨bt, ot + i1 * 6 + 3, none⟩ = some (.int .i64 x.s) ∧ V.cell? ⟨bt, ot + i1 * 6 + 4, none⟩ = some (.int .i64 x.h) ∧ V.cell? ⟨bt, ot + i1 * 6 + 5, none⟩ = some (.slice At x.u.length ct) ∧ V.cell? ⟨g, i1 * 6, none⟩ = some (.int .i64 yl.k) ∧ V.cell? ⟨g, i1 * 6 + 1, none⟩ = some (.int .i64 yl.i) ∧ V.cell? ⟨g, i1 * 6 + 2, none⟩ = some (.int .i64 yl.e) ∧ V.cell? ⟨g, i1 * 6 + 3, none⟩ = some (.int .i64 yl.s) ∧ V.cell? ⟨g, i1 * 6 + 4, none⟩ = some (.int .i64 yl.h) ∧ V.cell? ⟨g, i1 * 6 + 5, none⟩ = some (.slice Au yl.u.length cu)) (with_reducible first | exact F12.out.here | exact (F12.out.ext HBI.out).here | exact (F12.out.ext HBN.out).here | exact (F12.out.ext HBC.out).here | exact (F12.out.ext (HBN.out.alloc HBN.out.size _)).here | exact (F12.out.ext (HBC.out.alloc HBC.out.size _)).here | exact (F12.out.ext (HB0.out.alloc HB0.out.size _)).here | exact (F12.out.ext HB0.out).here | exact (F12.out.ext HB0a.out).here | go_keep) (first
      | (go_at_call 23; refine (HCF.out _ (by with_reducible first | exact HBI.out | exact HBN.out | exact HBC.out | exact HB0.out | exact HB0a.out | exact HBI.out.alloc HBI.out.size _ | exact HBN.out.alloc HBN.out.size _ | exact HBC.out.alloc HBC.out.size _ | exact HB0.out.alloc HB0.out.size _)).mono ?_; rintro e wa ⟨va, rfl, oa, bc, ba⟩; obtain ⟨Aa, ca, rfl, sla⟩ := SlA.owned oa; have HSC := hid sla; have HBC := hid ba; have HCc := hid bc; clear oa sla ba bc)
      | (go_at_call 28; refine (HNF.out _ (by with_reducible first | exact HBI.out | exact HBN.out | exact HBC.out | exact HB0.out | exact HB0a.out | exact HBI.out.alloc HBI.out.size _ | exact HBN.out.alloc HBN.out.size _ | exact HBC.out.alloc HBC.out.size _ | exact HB0.out.alloc HB0.out.size _)).mono ?_; rintro e wb ⟨rfl, bb, bd⟩; have HNn := hid bb; have HBN := hid bd; clear bb bd)
      | (go_at_call 19; refine (HIF.out _ _ _ _ (by with_reducible first | exact HSC.out | exact HSC.out.alloc _ | exact (HSC.out.alloc _).ext HNn.out | exact HSC.out.ext HNn.out | exact (HSC.out.ext HNn.out).alloc _) (by with_reducible first | exact HL0.out | exact HL0.out.ext HNn.out | exact HL0.out.ext HCc.out | exact (HL0.out.ext HNn.out).ext HCc.out | exact (HL0.out.ext HCc.out).ext HNn.out | exact SlA.lit1 _ | exact (SlA.lit1 _).ext HNn.out | exact (SlA.lit1 _).ext HCc.out | exact ((SlA.lit1 _).ext HNn.out).ext HCc.out | exact ((SlA.lit1 _).ext HCc.out).ext HNn.out)).mono ?_; rintro e wd ⟨rfl, qd, hwd⟩; have HBI := hid (show Below w6.heap.size w6 wd from by rw [hwd]; exact below_drewN (by with_reducible first | exact HBI.out | exact HBN.out | exact HBC.out | exact HB0.out | exact HB0a.out | exact HBI.out.alloc HBI.out.size _ | exact HBN.out.alloc HBN.out.size _ | exact HBC.out.alloc HBC.out.size _ | exact HB0.out.alloc HB0.out.size _) qd); subst hwd)
      | fail)
    all_goals
      go_wp2_with fail
      go_ret
      exact ⟨by simp, HB6.out.trans (Below.mono (by with_reducible first | exact HBI.out | exact HBN.out | exact HBC.out | exact HB0.out | exact HB0a.out | exact HBI.out.alloc HBI.out.size _ | exact HBN.out.alloc HBN.out.size _ | exact HBC.out.alloc HBC.out.size _ | exact HB0.out.alloc HB0.out.size _) HB6.out.size)⟩
end Go.Proofs.YtfmkniakfgpgjaaGreatDoor

