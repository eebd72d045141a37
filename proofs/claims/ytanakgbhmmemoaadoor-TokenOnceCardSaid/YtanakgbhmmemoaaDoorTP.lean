/- token's law: TokenOnce, the rounds of issuing. -/
import Derived.Test.YtanakgbhmmemoaaDoorTO
namespace Go.Proofs.YtanakgbhmmemoaaDoor
open Go.RowKit Go.KK Go.Shelf Go.Maps
set_option linter.unusedVariables false
set_option linter.unusedSimpArgs false

/-- Whom the i-th is for. -/
def whoG (x : Int) : Int := RowKit.wrap64 (1 + (RowKit.wrap64 (x.tmod 4 + 4)).tmod 4)
theorem whoG_in (x : Int) : 1 ≤ whoG x ∧ whoG x ≤ 4 := by
  have h1 : -4 < x.tmod 4 := Int.lt_tmod_of_pos x (by decide)
  have h2 : x.tmod 4 < 4 := Int.tmod_lt_of_pos x (by decide)
  unfold whoG
  rw [wrap_id (y := x.tmod 4 + 4) (by omega) (by omega)]
  have h3 : 0 ≤ (x.tmod 4 + 4).tmod 4 := Int.tmod_nonneg _ (by omega)
  have h4 : (x.tmod 4 + 4).tmod 4 < 4 := Int.tmod_lt_of_pos _ (by decide)
  rw [wrap_id (by omega) (by omega)]
  omega
theorem quo_in (x : Int) : 0 ≤ (RowKit.wrap64 (x.tmod 5 + 5)).tmod 5 ∧ (RowKit.wrap64 (x.tmod 5 + 5)).tmod 5 ≤ 4 := by
  have h1 : -5 < x.tmod 5 := Int.lt_tmod_of_pos x (by decide)
  have h2 : x.tmod 5 < 5 := Int.tmod_lt_of_pos x (by decide)
  rw [wrap_id (y := x.tmod 5 + 5) (by omega) (by omega)]
  have h3 : 0 ≤ (x.tmod 5 + 5).tmod 5 := Int.tmod_nonneg _ (by omega)
  have h4 : (x.tmod 5 + 5).tmod 5 < 5 := Int.tmod_lt_of_pos _ (by decide)
  omega
theorem o_new {q : Int} (h : 0 ≤ q) : newF (atoms 12) 0 q = (⟨0, q, [], []⟩, 0) := by
  unfold newF
  rw [has_iff.2 (show (0 : Int) ≤ 0 ∧ (0 : Int) < ((atoms 12).length : Nat) by rw [atoms_len]; decide), decide_eq_true h]
  rfl
/-- What there is behind j rounds. -/
structure OR (xs : List ND) (j : Nat) (q : Int) (ws : List Int) (g : List (Int × Int)) (D : MD) (ns ts : List Int) : Prop where
  x : OX xs j
  c : CG ws g
  d : CM D ws
  l : ws.length ≤ j
  q : ∀ v, (ws.count v : Int) ≤ q
  t : TK xs ns ts
  nl : ns.length ≤ j
theorem or_nil {q : Int} (h : 0 ≤ q) : OR (atoms 12) 0 q [] [] (.map []) [] [] := ⟨ox_atoms, cg_nil, cm_nil, Nat.le_refl _, fun v => by simpa using h, tk_nil _, Nat.le_refl _⟩
theorem OR.skip {xs : List ND} {j : Nat} {q : Int} {ws : List Int} {g : List (Int × Int)} {D : MD} {ns ts : List Int} (h : OR xs j q ws g D ns ts) (hj : j ≤ 25) : OR (oxC xs j) (j + 1) q ws g D ns ts := by
  refine ⟨ox_skip h.x (ox_ask h.x hj).2, h.c, h.d, Nat.le_succ_of_le h.l, h.q, ?_, Nat.le_succ_of_le h.nl⟩
  have e : oxC xs j = xs ++ ([atN (1000 + (j : Int))] ++ ([atN (2000 + (j : Int))] ++ [ndN 12 [(xs.length : Nat), ((xs.length + 1 : Nat) : Int)]])) := by
    unfold oxC oxB oxA; simp only [List.append_assoc]
  rw [e]
  exact h.t.app _
theorem OR.next {xs : List ND} {j : Nat} {q : Int} {ws : List Int} {g : List (Int × Int)} {D : MD} {ns ts : List Int} (h : OR xs j q ws g D ns ts) (hj : j ≤ 25) {who c : Int} (hw : 1 ≤ who ∧ who ≤ 4) (hq : ¬ q ≤ cntF g who) (hc : c = (ws.count who : Int) + 1) :
    OR (oxE xs j) (j + 1) q (ws ++ [who]) (incF g who) (D.put (.int .i64 who) (.lit (.int .i64 c))) (ns ++ [((xs.length : Nat) : Int)]) (ts ++ [((xs.length + 4 : Nat) : Int)]) := by
  have hD := (ox_iss (m := ⟨0, q, g, []⟩) h.x hj rfl hw hq).2
  refine ⟨ox_next h.x (ox_fin h.x hj hD).2, h.c.snoc who, h.d.put who hc, by simp; exact h.l, fun v => ?_, h.t.snoc j, by simp; exact h.nl⟩
  rw [List.count_append, List.count_singleton]
  have h1 := h.q v
  have h2 := h.c.c who
  by_cases hv : who = v
  · subst hv; simp; omega
  · rw [beq_eq_false_iff_ne.2 hv]; simp; exact h1
theorem OR.full {xs : List ND} {j : Nat} {q : Int} {ws : List Int} {g : List (Int × Int)} {D : MD} {ns ts : List Int} (h : OR xs j q ws g D ns ts) {who : Int} (hq : q ≤ cntF g who) : (ws.count who : Int) = q := by
  have h1 := h.q who
  have h2 := h.c.c who
  omega
theorem c5_made {w V : World} {sa bm : Nat} {X : List ND} {Z : Nat → Prop} {m : MT} (h : LA w V Z sa X) (hm : MB V Z w.heap.size bm m (.slice none 0 0) (.slice none 0 0)) : C5 w (V.alloc (.map #[] 0)) sa bm V.heap.size X Z m (.slice none 0 0) (.slice none 0 0) 0 (.map []) (.slice none 0 0) (.slice none 0 0) [] [] where
  la := h.alloc _
  m := hm.alloc _
  o := World.ownsMap_made _ _ _ _
  nz := fun hz => by have := h.ar.zlt _ hz; omega
  ne := by have := hm.lt; omega
  nb := fun b h => by rcases h with h | h <;> cases h
  mb0 := h.sz
  nr := World.ownsRow_nil _ _ _ _
  tr := World.ownsRow_nil _ _ _ _
  na := fun b h => by cases h
  ta := fun b h => by cases h
theorem mto_take {ws : List Int} {g : List (Int × Int)} {xs : List ND} {ns ts : List Int} {q : Int} (h : CG ws g) (t : TK xs ns ts) (i : Nat) (hw : ws.length ≤ 100) (hq : 0 ≤ q ∧ q ≤ 4) (hn : ns.length ≤ 25) (hx : xs.length ≤ 1000) : MtO ⟨0, q, g, ns.take i⟩ := by
  have h0 := h.mto (q := q) hw ⟨by omega, by omega⟩
  refine ⟨h0.k, h0.q, h0.s, h0.b, h0.n, t.r.sublist (List.take_sublist _ _), ?_, fun x hm => ?_⟩
  · show (ns.take i).length ≤ 1000
    rw [List.length_take]; omega
  · have h1 := t.n x (List.mem_of_mem_take hm)
    exact ⟨by omega, by omega⟩
/-- The world behind j rounds. -/
def OW (w wr : World) (sa bm mb : Nat) (q : Int) (j : Nat) (nv tv : Value) : Prop :=
  ∃ (xs : List ND) (Z : Nat → Prop) (gv pv : Value) (D : MD) (k : Nat) (ws : List Int) (g : List (Int × Int)) (ns ts : List Int), C5 w wr sa bm mb xs Z ⟨0, q, g, []⟩ gv pv k D nv tv ns ts ∧ OR xs j q ws g D ns ts ∧ k ≤ j
set_option maxHeartbeats 8000000 in
set_option maxRecDepth 100000 in
theorem once_go (A : Option Addr) (n c : Nat) (l : List Int) (quota : Int) (w : World) (hl : SlA w 1 A n c (l.map (.int .i64))) (hT : Tb w.heap.size w) (hq0 : I64 quota) : Calls Tryd.prog 4 #[.slice A n c, .int .i64 quota] w fun e w' => e = .returned (.bool true) ∧ Below w.heap.size w w' := by
  have hln := hl.lenI
  have HT := hid hT; have HL := hid hl
  have HLV := hid (live_any w hT)
  clear hT hl hq0
  by_cases hbig : 25 < n
  · have hb' : (25 : Int) < (n : Int) := by omega
    clear hbig
    go_enter Tryd.func4, Tryd.ntmps4
    go_wp2_with fail
    refine HLV.out.mono ?_
    rintro e w1 ⟨rfl, b1⟩
    have HB := hid b1
    clear b1
    go_wp2_with fail
    go_ret
    exact ⟨rfl, HB.out⟩
  have hb' : ¬ (25 : Int) < (n : Int) := by omega
  have hmm := @run_makeMap Tryd.prog
  obtain ⟨i0, hi, hz0, hz1, hz2⟩ := info_parts Tryd.infoInt
  have HQ := hid (quo_in quota)
  go_enter Tryd.func4, Tryd.ntmps4
  go_wp2_with fail
  refine HLV.out.mono ?_
  rintro e w1 ⟨rfl, b1⟩
  have HB := hid b1
  clear b1
  go_upto_region 5 with fail
  generalize (RowKit.wrap64 (quota.tmod 5 + 5)).tmod 5 = q at *
  go_wp2_with fail
  refine (two_any _ (Tb.up (HT.out.on HB.out) HB.out.size)).mono ?_
  rintro e w2 ⟨sa, sb, rfl, ht⟩
  obtain ⟨Z0, hl⟩ := LA.of_two ht
  have LX := hid (show LA w w2 Z0 sa (atoms 12) from ⟨hl.ar, fun b hb => Nat.le_trans HB.out.size (hl.z b hb), HB.out.trans (hl.bl.mono HB.out.size)⟩)
  have LC := LX
  clear hl ht LX HB
  go_wp2_with fail
  refine (l_newN LC.out (o_new HQ.out.1)).mono ?_
  rintro e u1 ⟨rfl, hl, hv⟩
  have LX := hid hl; clear LC hl hv; have LC := LX; clear LX
  go_upto_region 7 with fail
  have L2 := hid (LC.out.alloc (.cells #[.int .i64 0, .int .i64 q, .slice none 0 0, .slice none 0 0] 31))
  have M0 := hid (MB.new (m := ⟨0, q, [], []⟩) (MtR.mt u1 Z0 0 q) LC.out.ar.zlt LC.out.sz)
  clear LC; have LC := L2; clear L2
  change Hid (MB (u1.alloc (.cells #[.int .i64 0, .int .i64 q, .slice none 0 0, .slice none 0 0] 31)) _ _ u1.heap.size _ _ _) at M0
  generalize hbm : u1.heap.size = bm at *
  generalize u1.alloc (.cells #[.int .i64 0, .int .i64 q, .slice none 0 0, .slice none 0 0] 31) = V2 at *
  clear hbm
  go_upto_region 10 with fail
  have HOW := hid (show OW w (V2.alloc (.map #[] 0)) sa bm V2.heap.size q 0 (.slice none 0 0) (.slice none 0 0) from
    ⟨atoms 12, Z0, .slice none 0 0, .slice none 0 0, .map [], 0, [], [], [], [], c5_made LC.out M0.out, or_nil HQ.out.1, Nat.le_refl _⟩)
  generalize V2.heap.size = mb at *
  generalize V2.alloc (.map #[] 0) = V4 at *
  clear LC M0
  go_upto_region 13 with fail
  go_loopw [54, 11, 12] (fun v nv tv wr => ∃ j : Nat, v = .int .i64 j ∧ j ≤ n ∧ OW w wr sa bm mb q j nv tv) (fun v _ _ _ => n - (intOf v).toNat)
  case atStart => exact ⟨0, rfl, Nat.zero_le _, HOW.out⟩
  case round =>
    obtain ⟨j, hv, hj, xs, Z, gv, pv, D, kk, ws, g, ns, ts, hc5, hor, hkk⟩ := hrel
    subst hv
    have HC := hid hc5; have HR := hid hor; have HKK := hid hkk
    clear hc5 hor hkk
    by_cases hlt : j < n
    · obtain ⟨b, off, x, rfl, hx, hc0⟩ := HL.out.elemI hlt
      have hcx : wr.cell? ⟨b, off + j, none⟩ = some (.int .i64 x) := (HC.out.la.bl.cell (p := ⟨b, off + j, none⟩) (block_lt_of_cell hc0)).trans hc0
      clear hc0 hx
      have hlt' : (j : Int) < (n : Int) := by omega
      have hj25 : j ≤ 25 := by omega
      have HW0 := hid (whoG_in x)
      have hwd : Hid (RowKit.wrap64 (1 + (RowKit.wrap64 (x.tmod 4 + 4)).tmod 4) = whoG x) := hid rfl
      go_upto_region 16 with fail
      rw [hwd.out]
      generalize whoG x = who at *
      clear hwd
      have HWI := hid (show I64 who from ⟨by have := HW0.out; omega, by have := HW0.out; omega⟩)
      have HM := hid (ox_mkA HR.out.x hj25)
      have HX1 := hid (show I64 (1000 + (j : Int)) from ⟨by omega, by omega⟩)
      have HX2 := hid (show I64 (2000 + (j : Int)) from ⟨by omega, by omega⟩)
      have HAS := hid (ox_ask HR.out.x hj25).1
      have HOK := hid (HR.out.c.mto (q := q) (by have := HR.out.l; omega) ⟨by have := HQ.out; omega, by have := HQ.out; omega⟩)
      have HXL := hid (show I64 ((xs.length + 2 : Nat) : Int) from ⟨by omega, by have := HR.out.x.ln; omega⟩)
      have HKEY := hid (keyOf_int_mk (a := who) Tryd.underlying3 (wf64 (by have := HW0.out; omega) (by have := HW0.out; omega)))
      have HAT := hid (HR.out.d.a who)
      have HCN := hid (HR.out.c.c who)
      go_wp2_with fail
      refine (l_mke HC.out.la HT.out HX1.out HM.out.1 HM.out.2.1 HM.out.2.2.1).mono ?_
      rintro e u3 ⟨Z3, rfl, hl3, hv3⟩
      have HC3 := hid (HC.out.mv5 hl3 hv3)
      clear hl3 hv3 HC HM
      go_wp2_with fail
      refine (l_ask HC3.out.la HT.out HX2.out HAS.out).mono ?_
      rintro e u4 ⟨Z4, rfl, hl4, hv4⟩
      have HC4 := hid (HC3.out.mv5 hl4 hv4)
      clear hl4 hv4 HC3 HAS
      obtain ⟨k0, k1, k2, k3⟩ := HC4.out.m.cells
      by_cases hfull : q ≤ cntF g who
      · have HF := hid (ox_full (m := ⟨0, q, g, []⟩) HR.out.x hj25 HW0.out hfull)
        have HCQ := hid (HR.out.full hfull)
        clear hfull
        go_wp2_with fail
        refine (l_iss HC4.out.la HT.out HC4.out.m.mt HOK.out HXL.out HWI.out (m' := ⟨0, 0, [], []⟩) HF.out).mono ?_
        clear k0 k1 k2 k3
        rintro e u5 ⟨Z5, g5, p5, rfl, hl5, hv5, hm5, -⟩
        obtain ⟨a5, c5, b5, d5, rfl, rfl⟩ := hm5.sh 0 0 rfl rfl
        have HC5 := hid (HC4.out.mv5 hl5 hv5)
        clear hl5 hv5 hm5
        go_upto_region 21 with fail
        have HC6 := hid (HC5.out.ext5 ((Below.refl _ _).alloc (Nat.le_refl _) (.cells #[.int .i64 0, .int .i64 0, .slice a5 0 c5, .slice b5 0 d5] 31)))
        generalize u5.alloc (.cells #[.int .i64 0, .int .i64 0, .slice a5 0 c5, .slice b5 0 d5] 31) = V6 at *
        have hlk := look_eq HC6.out.o HAT.out HKEY.out (W := V6) rfl
        rw [HCQ.out] at hlk
        go_wp2_with fail
        go_roundw
        case rel => exact ⟨j + 1, by go_num, by omega, oxC xs j, Z5, gv, pv, D, kk, ws, g, ns, ts, HC6.out, HR.out.skip hj25, by have := HKK.out; omega⟩
        case measure => simp [intOf]; omega
      · have HF := hid (ox_iss (m := ⟨0, q, g, []⟩) HR.out.x hj25 rfl HW0.out hfull)
        have HFULL := hid hfull
        obtain ⟨cn, hcn⟩ : ∃ cn : Int, cn = (ws.count who : Int) := ⟨_, rfl⟩
        have hne : (cn == q) = false := beq_eq_false_iff_ne.2 (by rw [hcn]; have := HCN.out; omega)
        have hcb : 0 ≤ cn ∧ cn ≤ 25 := by
          have h2 := List.count_le_length (a := who) (l := ws)
          have h3 := HR.out.l
          omega
        have HCB := hid hcb
        have HCE := hid hcn
        rw [← hcn] at HAT
        clear hfull hcn hcb
        go_wp2_with fail
        refine (l_iss HC4.out.la HT.out HC4.out.m.mt HOK.out HXL.out HWI.out (m' := ⟨0, q, incF g who, []⟩) HF.out.1).mono ?_
        clear k0 k1 k2 k3
        rintro e u5 ⟨Z5, g5, p5, rfl, hl5, hv5, hm5, hn5⟩
        obtain ⟨a5, c5, b5, d5, rfl, rfl⟩ := hm5.sh _ _ rfl rfl
        have HC5 := hid (HC4.out.mv5 hl5 hv5)
        have MR := hid hm5
        have HN := hid (show ∀ b, (Value.slice a5 (incF g who).length c5).ownBlock = some b ∨ (Value.slice b5 0 d5).ownBlock = some b → b ≠ bm ∧ b ≠ mb ∧ u11.ownBlock ≠ some b ∧ u12.ownBlock ≠ some b from fun b hb => by
          have h1 := hn5 b hb
          have h2 := HC4.out.m.lt
          have h3 := map_lt HC4.out.o
          exact ⟨by omega, by omega, fun e => by have := (HC4.out.nr.lt b e).2; omega, fun e => by have := (HC4.out.tr.lt b e).2; omega⟩)
        clear hl5 hv5 hm5 hn5 HC4
        go_upto_region 21 with fail
        have HC6 := hid (HC5.out.ext5 ((Below.refl _ _).alloc (Nat.le_refl _) (.cells #[.int .i64 0, .int .i64 q, .slice a5 (incF g who).length c5, .slice b5 0 d5] 31)))
        have M6 := hid (MB.new (m := ⟨0, q, incF g who, []⟩) MR.out HC5.out.la.ar.zlt HC5.out.la.sz)
        change Hid (MB (u5.alloc (.cells #[.int .i64 0, .int .i64 q, .slice a5 (incF g who).length c5, .slice b5 0 d5] 31)) _ _ u5.heap.size _ _ _) at M6
        generalize hbo : u5.heap.size = bo at *
        generalize u5.alloc (.cells #[.int .i64 0, .int .i64 q, .slice a5 (incF g who).length c5, .slice b5 0 d5] 31) = V6 at *
        clear hbo HC5 MR
        have hlk := look_eq HC6.out.o HAT.out HKEY.out (W := V6) rfl
        have HFI := hid (ox_fin HR.out.x hj25 HF.out.2).1
        go_wp2_with fail
        refine (l_fin HC6.out.la HT.out HX2.out HFI.out).mono ?_
        clear hlk
        rintro e u7 ⟨Z7, rfl, hl7, hv7⟩
        have HC7 := hid (HC6.out.mv5 hl7 hv7)
        have M7 := hid (M6.out.mv hv7)
        clear hl7 hv7 HC6 M6
        obtain ⟨k0, k1, k2, k3⟩ := M7.out.cells
        obtain ⟨⟨z0, z1, z2, z3⟩, f0, f1, f2, f3⟩ := box4 HC7.out.m.row
        have HP := hid (HC7.out.put5 M7.out.mt HN.out)
        go_upto_region 28 with fail
        refine forget (R := fun W => C5 w W sa bm mb (oxE xs j) Z7 ⟨0, q, incF g who, []⟩ (.slice a5 (incF g who).length c5) (.slice b5 0 d5) kk D u11 u12 ns ts) ?_ HP.out
        clear HP HC7 M7 k0 k1 k2 k3 f0 f1 f2 f3 z0 z1 z2 z3
        intro W8 h8
        have HC8 := hid h8
        clear h8
        have HNL := hid HR.out.nl
        have HTL := hid (show ts.length = ns.length from HR.out.t.ln)
        go_wp2_with (first
          | (at_lookup; refine wpList_lookup_own_int _ rfl _ _ 56 rfl 3 3 .i64 lawI Tryd.underlying56 Tryd.underlying3 (zeroI _) mb _ D rfl HC8.out.o _ _ rfl HKEY.out ?_; intro cc hat hwc; have HCC := hid (litI_inj (HAT.out.symm.trans hat)); clear hat hwc)
          | (at_mapUpdate; refine wpList_mapUpdate_own _ rfl _ _ _ 56 rfl 3 3 lawI Tryd.underlying56 _ mb kk D rfl HC8.out.o (by have := HKK.out; unfold maxLen; omega) _ _ (.int .i64 who) rfl rfl HKEY.out (.lit (.int .i64 (RowKit.wrap64 (cc + 1)))) [] (plainElem_int Tryd.underlying3 (wrap64_wf _)) ?_; intro w9 ho9 hg9; have HC9 := hid (HC8.out.upd5 ho9 hg9); clear ho9 hg9)
          | (at_builtin; refine wpList_append_sl _ rfl _ _ 29 rfl w.heap.size 3 i0 (.int .i64 0) 1 8 Tryd.underlying29 hi hz0 hz1 hz2 rfl (by decide) u11 ns.length (ns.map (.int .i64)) rfl (HC9.out.nr.alloc _) _ 1 1 [.int .i64 (xs.length : Nat)] rfl (SlA.lit1 _) (one_int _ _) (by have := HNL.out; unfold maxLen; omega) (by have := HNL.out; omega) (by have := HC9.out.la.sz; simp; omega) ?_; intro v1 w10 own1 gr1 loc1; have HC10 := hid ((HC9.out.ext5 ((Below.refl _ _).alloc (Nat.le_refl _) _)).appN (rowI_snoc own1) gr1 loc1); clear own1 gr1 loc1)
          | (at_builtin; refine wpList_append_sl _ rfl _ _ 29 rfl w.heap.size 3 i0 (.int .i64 0) 1 8 Tryd.underlying29 hi hz0 hz1 hz2 rfl (by decide) u12 ts.length (ts.map (.int .i64)) rfl (HC10.out.tr.alloc _) _ 1 1 [.int .i64 ((xs.length + 4 : Nat) : Int)] rfl (SlA.lit1 _) (one_int _ _) (by have := HNL.out; have := HTL.out; unfold maxLen; omega) (by have := HNL.out; have := HTL.out; omega) (by have := HC10.out.la.sz; simp; omega) ?_; intro v2 w11 own2 gr2 loc2; have HC11 := hid ((HC10.out.ext5 ((Below.refl _ _).alloc (Nat.le_refl _) _)).appT (rowI_snoc own2) gr2 loc2); clear own2 gr2 loc2)
          | fail)
        go_roundw
        case rel =>
          refine ⟨j + 1, by go_num, by omega, oxE xs j, Z7, _, _, _, kk + 1, ws ++ [who], incF g who, ns ++ [((xs.length : Nat) : Int)], ts ++ [((xs.length + 4 : Nat) : Int)], HC11.out, HR.out.next hj25 HW0.out (by have := HFULL.out; omega) ?_, by have := HKK.out; omega⟩
          have h1 := HCC.out; have h2 := HCB.out; have h3 := HCE.out
          rw [wrap_id (by omega) (by omega)]; omega
        case measure => simp [intOf]; omega
    · obtain rfl : j = n := by omega
      have HNL := hid HR.out.nl
      have HXL := hid (show xs.length ≤ 1000 by have := HR.out.x.ln; omega)
      have HTK := hid HR.out.t
      have HCG := hid HR.out.c
      have HWL := hid HR.out.l
      obtain ⟨An, cn, rfl, -⟩ := SlA.owned HC.out.nr
      obtain ⟨At, ct, rfl, -⟩ := SlA.owned HC.out.tr
      have HTL := hid HTK.out.ln
      have hnl : ns.length ≤ 25 := by have := HNL.out; omega
      go_upto_region 33 with fail
      go_loopw [130] (fun v wq => ∃ (r : Nat) (gv pv : Value), v = .int .i64 r ∧ r ≤ 2 ∧ C5 w wq sa bm mb xs Z ⟨0, q, g, if r = 0 then [] else ns⟩ gv pv kk D (.slice An ns.length cn) (.slice At ts.length ct) ns ts) (fun v _ => 2 - (intOf v).toNat)
      case atStart => exact ⟨0, gv, pv, rfl, by omega, HC.out⟩
      case round =>
        clear HC HR
        obtain ⟨r, gv1, pv1, hv, hr, hc5⟩ := hrel
        subst hv
        have HC := hid hc5
        clear hc5
        rcases r with _ | _ | _ | r
        · replace HC : Hid (C5 w wr sa bm mb xs Z ⟨0, q, g, []⟩ gv1 pv1 kk D (.slice An ns.length cn) (.slice At ts.length ct) ns ts) := HC
          go_upto_region 35 with fail
          go_loopw [134] (fun v wq => ∃ (i : Nat) (gv pv : Value), v = .int .i64 i ∧ i ≤ ns.length ∧ C5 w wq sa bm mb xs Z ⟨0, q, g, ns.take i⟩ gv pv kk D (.slice An ns.length cn) (.slice At ts.length ct) ns ts) (fun v _ => ns.length - (intOf v).toNat)
          case atStart => exact ⟨0, _, _, rfl, Nat.zero_le _, HC.out⟩
          case round =>
            clear HC
            obtain ⟨i, gv2, pv2, hv, hi, hc5⟩ := hrel
            subst hv
            have HC := hid hc5
            clear hc5
            by_cases hli : i < ns.length
            · have hli' : (i : Int) < (ns.length : Int) := by omega
              have hlt2 : (i : Int) < (ts.length : Int) := by have := HTL.out; omega
              obtain ⟨bn, on, x, rfl, hx, -⟩ := (SlA.of_own HC.out.nr).2.elemI hli
              obtain ⟨bt, ot, y, rfl, hy, -⟩ := (SlA.of_own HC.out.tr).2.elemI (show i < ts.length by have := HTL.out; omega)
              have HXE := hid hx; have HYE := hid hy
              have HOK1 := hid (show MtO ⟨0, q, g, ns.take i⟩ from mto_take HCG.out HTK.out i (by have := HWL.out; omega) HQ.out hnl HXL.out)
              have HOK2 := hid (show MtO ⟨0, q, g, ns.take (i + 1)⟩ from mto_take HCG.out HTK.out (i + 1) (by have := HWL.out; omega) HQ.out hnl HXL.out)
              have HR1 := hid (tk_spend HTK.out hx hy q g)
              have HTKL := hid (show (ns.take (i + 1)).length = i + 1 by rw [List.length_take]; omega)
              have HR2 := hid (tk_spent HTK.out hx hy (Nat.lt_succ_self i) q g)
              clear hx hy
              have HCXa := hid (fun (W : World) (hb : Below wr.heap.size wr W) => HC.out.ext5 hb)
              have HSa := hid (fun (W : World) (hb : Below wr.heap.size wr W) => (show W.cell? ⟨bm, 0, none⟩ = some (.int .i64 0) ∧ W.cell? ⟨bm, 1, none⟩ = some (.int .i64 q) ∧ W.cell? ⟨bm, 2, none⟩ = some gv2 ∧ W.cell? ⟨bm, 3, none⟩ = some pv2 ∧ W.cell? ⟨bn, on + i, none⟩ = some (.int .i64 x) ∧ W.cell? ⟨bt, ot + i, none⟩ = some (.int .i64 y) from
                have h := (HCXa.out W hb).m.cells
                ⟨h.1, h.2.1, h.2.2.1, h.2.2.2, rowI_at (HCXa.out W hb).nr HXE.out, rowI_at (HCXa.out W hb).tr HYE.out⟩))
              have DZa := hid (Below.refl wr.heap.size wr)
              have D0a := hid (below_drew DZa.out)
              have DAa := hid (below_drew (DZa.out.alloc (Nat.le_refl _) (.cells #[.int .i64 0, .int .i64 0, .slice none 0 0, .slice none 0 0] 31)))
              have MZa := hid (show MB (wr.alloc (.cells #[.int .i64 0, .int .i64 0, .slice none 0 0, .slice none 0 0] 31)).drew Z w.heap.size wr.heap.size mt0 (.slice none 0 0) (.slice none 0 0) from (MB.new (m := mt0) (MtR.mt wr Z 0 0) HC.out.la.ar.zlt HC.out.la.sz).turn (F := fun _ => False) ⟨rfl, rfl, rfl, Nat.le_refl _, fun _ _ _ => rfl⟩ id (fun _ _ => id))
              obtain ⟨k0a, k1a, k2a, k3a, k4a, k5a⟩ := HSa.out _ DZa.out
              go_upto_region 37 with fail
              go_cut [26, 27] (fun v e W => ∃ (bv : Nat) (g9 p9 : Value), v = .pointer (some ⟨bv, 0, none⟩) ∧ e = .int .i64 0 ∧ SpO w W sa bm mb xs Z ⟨0, q, g, ns.take i⟩ gv2 pv2 kk D (.slice (some ⟨bn, on, none⟩) ns.length cn) (.slice (some ⟨bt, ot, none⟩) ts.length ct) ns ts bv ⟨0, q, g, ns.take (i + 1)⟩ g9 p9)
              case first =>
                go_region_held3 (fun W => W.cell? ⟨bm, 0, none⟩ = some (.int .i64 0) ∧ W.cell? ⟨bm, 1, none⟩ = some (.int .i64 q) ∧ W.cell? ⟨bm, 2, none⟩ = some gv2 ∧ W.cell? ⟨bm, 3, none⟩ = some pv2 ∧ W.cell? ⟨bn, on + i, none⟩ = some (.int .i64 x) ∧ W.cell? ⟨bt, ot + i, none⟩ = some (.int .i64 y)) (first | exact HSa.out _ D0a.out | exact HSa.out _ DZa.out | exact HSa.out _ DAa.out | exact HSa.out _ D5a.out | exact HSa.out _ D6a.out | exact HSa.out _ (D5a.out.alloc D5a.out.size _) | exact HSa.out _ (st4 D6a.out (Nat.le_refl _) _ _ _ _) | go_keep) (first
                  | (go_at_call 22; refine (l_spB (HCXa.out _ D0a.out).la (HCXa.out _ D0a.out).m.mt HOK1.out (m' := ⟨0, q, g, ns.take (i + 1)⟩) HR1.out).mono ?_; rintro e5 w5 ⟨g5, p5, rfl, b5, hm5, hn5⟩; obtain ⟨Ag5, cg5, Ap5, cp5, rfl, rfl⟩ := hm5.sh g.length (i + 1) rfl HTKL.out; have D5a := hid (D0a.out.trans (b5.mono D0a.out.size)); have N5a := hid hn5; have M5a := hid hm5; clear b5 hm5 hn5)
                  | (go_at_call 22; refine (l_spB (HCXa.out _ DAa.out).la (HCXa.out _ DAa.out).m.mt HOK1.out (m' := ⟨0, q, g, ns.take (i + 1)⟩) HR1.out).mono ?_; rintro e5 w5 ⟨g5, p5, rfl, b5, hm5, hn5⟩; obtain ⟨Ag5, cg5, Ap5, cp5, rfl, rfl⟩ := hm5.sh g.length (i + 1) rfl HTKL.out; have D6a := hid (DAa.out.trans (b5.mono DAa.out.size)); have Z6a := hid (MZa.out.ext b5); obtain ⟨⟨y0, y1, y2, y3⟩, fy0, fy1, fy2, fy3⟩ := box4 Z6a.out.row; have N6a := hid hn5; have M6a := hid hm5; clear b5 hm5 hn5))
                all_goals
                  go_wp2_with fail
                  go_meet
                  first
                    | with_reducible exact spo_a2 HC.out D5a.out M5a.out N5a.out (Nat.le_refl _)
                    | with_reducible exact spo_b2 HC.out D6a.out Z6a.out M6a.out N6a.out (by simp)
              case rest =>
                obtain ⟨bva, g9a, p9a, rfl, rfl, hspa⟩ := hcut
                have HC2 := hid hspa.c
                have HVa := hid hspa.m
                have HNa := hid hspa.n
                clear hspa k0a k1a k2a k3a k4a k5a HSa HCXa DZa D0a DAa MZa
                obtain ⟨Ag9, cg9, Ap9, cp9, rfl, rfl⟩ := HVa.out.mt.sh g.length (i + 1) rfl HTKL.out
                obtain ⟨k0, k1, k2, k3⟩ := HVa.out.cells
                obtain ⟨⟨z0, z1, z2, z3⟩, f0, f1, f2, f3⟩ := box4 HC2.out.m.row
                have HP := hid (HC2.out.put5 HVa.out.mt HNa.out)
                go_upto_region 40 with fail
                refine forget (R := fun W => C5 w W sa bm mb xs Z ⟨0, q, g, ns.take (i + 1)⟩ (.slice Ag9 g.length cg9) (.slice Ap9 (i + 1) cp9) kk D (.slice (some ⟨bn, on, none⟩) ns.length cn) (.slice (some ⟨bt, ot, none⟩) ts.length ct) ns ts) ?_ HP.out
                clear HP HC2 HVa HNa HC k0 k1 k2 k3 f0 f1 f2 f3 z0 z1 z2 z3
                intro W8 h8
                have HC8 := hid h8
                clear h8
                have HCXb := hid (fun (W : World) (hb : Below W8.heap.size W8 W) => HC8.out.ext5 hb)
                have HSb := hid (fun (W : World) (hb : Below W8.heap.size W8 W) => (show W.cell? ⟨bm, 0, none⟩ = some (.int .i64 0) ∧ W.cell? ⟨bm, 1, none⟩ = some (.int .i64 q) ∧ W.cell? ⟨bm, 2, none⟩ = some (.slice Ag9 g.length cg9) ∧ W.cell? ⟨bm, 3, none⟩ = some (.slice Ap9 (i + 1) cp9) ∧ W.cell? ⟨bn, on + i, none⟩ = some (.int .i64 x) ∧ W.cell? ⟨bt, ot + i, none⟩ = some (.int .i64 y) from
                  have h := (HCXb.out W hb).m.cells
                  ⟨h.1, h.2.1, h.2.2.1, h.2.2.2, rowI_at (HCXb.out W hb).nr HXE.out, rowI_at (HCXb.out W hb).tr HYE.out⟩))
                have DZb := hid (Below.refl W8.heap.size W8)
                have D0b := hid (below_drew DZb.out)
                have DAb := hid (below_drew (DZb.out.alloc (Nat.le_refl _) (.cells #[.int .i64 0, .int .i64 0, .slice none 0 0, .slice none 0 0] 31)))
                have MZb := hid (show MB (W8.alloc (.cells #[.int .i64 0, .int .i64 0, .slice none 0 0, .slice none 0 0] 31)).drew Z w.heap.size W8.heap.size mt0 (.slice none 0 0) (.slice none 0 0) from (MB.new (m := mt0) (MtR.mt W8 Z 0 0) HC8.out.la.ar.zlt HC8.out.la.sz).turn (F := fun _ => False) ⟨rfl, rfl, rfl, Nat.le_refl _, fun _ _ _ => rfl⟩ id (fun _ _ => id))
                obtain ⟨k0b, k1b, k2b, k3b, k4b, k5b⟩ := HSb.out _ DZb.out
                go_cut [28, 29] (fun v e W => (∃ bv : Nat, v = .pointer (some ⟨bv, 0, none⟩)) ∧ e = .int .i64 81 ∧ C5 w W sa bm mb xs Z ⟨0, q, g, ns.take (i + 1)⟩ (.slice Ag9 g.length cg9) (.slice Ap9 (i + 1) cp9) kk D (.slice (some ⟨bn, on, none⟩) ns.length cn) (.slice (some ⟨bt, ot, none⟩) ts.length ct) ns ts)
                case first =>
                  go_region_held3 (fun W => W.cell? ⟨bm, 0, none⟩ = some (.int .i64 0) ∧ W.cell? ⟨bm, 1, none⟩ = some (.int .i64 q) ∧ W.cell? ⟨bm, 2, none⟩ = some (.slice Ag9 g.length cg9) ∧ W.cell? ⟨bm, 3, none⟩ = some (.slice Ap9 (i + 1) cp9) ∧ W.cell? ⟨bn, on + i, none⟩ = some (.int .i64 x) ∧ W.cell? ⟨bt, ot + i, none⟩ = some (.int .i64 y)) (first | exact HSb.out _ D0b.out | exact HSb.out _ DZb.out | exact HSb.out _ DAb.out | exact HSb.out _ D5b.out | exact HSb.out _ D6b.out | exact HSb.out _ (D5b.out.alloc D5b.out.size _) | exact HSb.out _ (st4 D6b.out (Nat.le_refl _) _ _ _ _) | go_keep) (first
                    | (go_at_call 22; refine (l_spB (HCXb.out _ D0b.out).la (HCXb.out _ D0b.out).m.mt HOK2.out (m' := mt0) HR2.out).mono ?_; rintro e5 w5 ⟨g5, p5, rfl, b5, hm5, hn5⟩; obtain ⟨Ag5, cg5, Ap5, cp5, rfl, rfl⟩ := hm5.sh _ _ rfl rfl; have D5b := hid (D0b.out.trans (b5.mono D0b.out.size)); have N5b := hid hn5; have M5b := hid hm5; clear b5 hm5 hn5)
                    | (go_at_call 22; refine (l_spB (HCXb.out _ DAb.out).la (HCXb.out _ DAb.out).m.mt HOK2.out (m' := mt0) HR2.out).mono ?_; rintro e5 w5 ⟨g5, p5, rfl, b5, hm5, hn5⟩; obtain ⟨Ag5, cg5, Ap5, cp5, rfl, rfl⟩ := hm5.sh _ _ rfl rfl; have D6b := hid (DAb.out.trans (b5.mono DAb.out.size)); have Z6b := hid (MZb.out.ext b5); obtain ⟨⟨y0, y1, y2, y3⟩, fy0, fy1, fy2, fy3⟩ := box4 Z6b.out.row; have N6b := hid hn5; have M6b := hid hm5; clear b5 hm5 hn5))
                  all_goals
                    go_wp2_with fail
                    go_meet
                    first
                      | with_reducible exact spo_a3 HC8.out D5b.out M5b.out N5b.out (Nat.le_refl _)
                      | with_reducible exact spo_b3 HC8.out D6b.out Z6b.out M6b.out N6b.out (by simp)
                case rest =>
                  obtain ⟨⟨bvb, rfl⟩, rfl, hc9⟩ := hcut
                  have HC9 := hid hc9
                  clear hc9 k0b k1b k2b k3b k4b k5b HSb HCXb DZb D0b DAb MZb HC8
                  go_wp2_with fail
                  go_roundw
                  case rel => exact ⟨i + 1, _, _, by go_num, by omega, HC9.out⟩
                  case measure => simp [intOf]; omega
            · obtain rfl : i = ns.length := by omega
              replace HC : Hid (C5 w wr sa bm mb xs Z ⟨0, q, g, ns⟩ gv2 pv2 kk D (.slice An ns.length cn) (.slice At ts.length ct) ns ts) := by
                have h := HC.out
                rw [List.take_length] at h
                exact hid h
              obtain ⟨Ag7, cg7, Ap7, cp7, rfl, rfl, -, hs7⟩ := HC.out.m.mt
              have H7 := hid hs7.1
              clear hs7
              have HCXc := hid (fun (W : World) (hb : Below wr.heap.size wr W) => HC.out.ext5 hb)
              have HSc := hid (fun (W : World) (hb : Below wr.heap.size wr W) => (show W.cell? ⟨bm, 3, none⟩ = some (.slice Ap7 ns.length cp7) from (HCXc.out W hb).m.cells.2.2.2))
              have DZc := hid (Below.refl wr.heap.size wr)
              have D0c := hid (below_drew DZc.out)
              have HNS := hid (SlA.of_own HC.out.nr).2
              have HRI := hid (ris_id HTK.out.r)
              have k3c := HSc.out _ DZc.out
              have HN2 : ns.length ≤ 2147483648 := by omega
              go_upto_region 46 with fail
              go_cut [178] (fun v W => v = .bool false ∧ C5 w W sa bm mb xs Z ⟨0, q, g, ns⟩ (.slice Ag7 g.length cg7) (.slice Ap7 ns.length cp7) kk D (.slice An ns.length cn) (.slice At ts.length ct) ns ts)
              case first =>
                go_region_held3 (fun W => W.cell? ⟨bm, 3, none⟩ = some (.slice Ap7 ns.length cp7)) (first | exact HSc.out _ D0c.out | exact HSc.out _ DZc.out | exact HSc.out _ D5c.out | go_keep) (first
                  | (go_at_call 30; refine (rising_any An _ cn ns _ (HNS.out.ext D0c.out) (by omega)).mono ?_; rintro e5 w5 ⟨v5, rfl, own5, b5⟩; rw [HRI.out] at own5; obtain ⟨A5, c5, rfl, s5⟩ := SlA.owned own5; have S5 := hid s5; have D5c := hid (D0c.out.trans (b5.mono D0c.out.size)); clear own5 s5 b5)
                  | (go_at_call 29; refine (same_ints Ap7 _ cp7 ns A5 _ c5 ns _ (H7.out.ext D5c.out) S5.out HN2 HN2).mono ?_; rintro e6 w6 ⟨rfl, q6, rfl⟩; rw [show (ns == ns) = true from beq_self_eq_true _]; have D7c := hid (below_drewN D5c.out q6)))
                all_goals
                  go_wp2_with fail
                  go_meet
                  exact ⟨rfl, HCXc.out _ D7c.out⟩
              case rest =>
                obtain ⟨rfl, hc9⟩ := hcut
                have HC9 := hid hc9
                clear hc9
                go_wp2_with fail
                go_roundw
                case rel => exact ⟨1, _, _, by go_num, by omega, HC9.out⟩
                case measure => simp [intOf]
        · replace HC : Hid (C5 w wr sa bm mb xs Z ⟨0, q, g, ns⟩ gv1 pv1 kk D (.slice An ns.length cn) (.slice At ts.length ct) ns ts) := HC
          go_upto_region 35 with fail
          go_loopw [134] (fun v wq => ∃ (i : Nat) (gv pv : Value), v = .int .i64 i ∧ i ≤ ns.length ∧ C5 w wq sa bm mb xs Z ⟨0, q, g, ns⟩ gv pv kk D (.slice An ns.length cn) (.slice At ts.length ct) ns ts) (fun v _ => ns.length - (intOf v).toNat)
          case atStart => exact ⟨0, _, _, rfl, Nat.zero_le _, HC.out⟩
          case round =>
            clear HC
            obtain ⟨i, gv2, pv2, hv, hi, hc5⟩ := hrel
            subst hv
            have HC := hid hc5
            clear hc5
            by_cases hli : i < ns.length
            · have hli' : (i : Int) < (ns.length : Int) := by omega
              have hlt2 : (i : Int) < (ts.length : Int) := by have := HTL.out; omega
              obtain ⟨bn, on, x, rfl, hx, -⟩ := (SlA.of_own HC.out.nr).2.elemI hli
              obtain ⟨bt, ot, y, rfl, hy, -⟩ := (SlA.of_own HC.out.tr).2.elemI (show i < ts.length by have := HTL.out; omega)
              have HXE := hid hx; have HYE := hid hy
              have HOK1 := hid (show MtO ⟨0, q, g, ns⟩ from by have := mto_take HCG.out HTK.out ns.length (by have := HWL.out; omega) HQ.out hnl HXL.out; rwa [List.take_length] at this)
              have HR1 := hid (show spF xs ⟨0, q, g, ns⟩ x y = (mt0, 81) from by have := tk_spent HTK.out hx hy hli q g; rwa [List.take_length] at this)
              clear hx hy
              have HCXa := hid (fun (W : World) (hb : Below wr.heap.size wr W) => HC.out.ext5 hb)
              have HSa := hid (fun (W : World) (hb : Below wr.heap.size wr W) => (show W.cell? ⟨bm, 0, none⟩ = some (.int .i64 0) ∧ W.cell? ⟨bm, 1, none⟩ = some (.int .i64 q) ∧ W.cell? ⟨bm, 2, none⟩ = some gv2 ∧ W.cell? ⟨bm, 3, none⟩ = some pv2 ∧ W.cell? ⟨bn, on + i, none⟩ = some (.int .i64 x) ∧ W.cell? ⟨bt, ot + i, none⟩ = some (.int .i64 y) from
                have h := (HCXa.out W hb).m.cells
                ⟨h.1, h.2.1, h.2.2.1, h.2.2.2, rowI_at (HCXa.out W hb).nr HXE.out, rowI_at (HCXa.out W hb).tr HYE.out⟩))
              have DZa := hid (Below.refl wr.heap.size wr)
              have D0a := hid (below_drew DZa.out)
              have DAa := hid (below_drew (DZa.out.alloc (Nat.le_refl _) (.cells #[.int .i64 0, .int .i64 0, .slice none 0 0, .slice none 0 0] 31)))
              have MZa := hid (show MB (wr.alloc (.cells #[.int .i64 0, .int .i64 0, .slice none 0 0, .slice none 0 0] 31)).drew Z w.heap.size wr.heap.size mt0 (.slice none 0 0) (.slice none 0 0) from (MB.new (m := mt0) (MtR.mt wr Z 0 0) HC.out.la.ar.zlt HC.out.la.sz).turn (F := fun _ => False) ⟨rfl, rfl, rfl, Nat.le_refl _, fun _ _ _ => rfl⟩ id (fun _ _ => id))
              obtain ⟨k0a, k1a, k2a, k3a, k4a, k5a⟩ := HSa.out _ DZa.out
              go_upto_region 37 with fail
              go_cut [26, 27] (fun v e W => (∃ bv : Nat, v = .pointer (some ⟨bv, 0, none⟩)) ∧ e = .int .i64 81 ∧ C5 w W sa bm mb xs Z ⟨0, q, g, ns⟩ gv2 pv2 kk D (.slice (some ⟨bn, on, none⟩) ns.length cn) (.slice (some ⟨bt, ot, none⟩) ts.length ct) ns ts)
              case first =>
                go_region_held3 (fun W => W.cell? ⟨bm, 0, none⟩ = some (.int .i64 0) ∧ W.cell? ⟨bm, 1, none⟩ = some (.int .i64 q) ∧ W.cell? ⟨bm, 2, none⟩ = some gv2 ∧ W.cell? ⟨bm, 3, none⟩ = some pv2 ∧ W.cell? ⟨bn, on + i, none⟩ = some (.int .i64 x) ∧ W.cell? ⟨bt, ot + i, none⟩ = some (.int .i64 y)) (first | exact HSa.out _ D0a.out | exact HSa.out _ DZa.out | exact HSa.out _ DAa.out | exact HSa.out _ D5a.out | exact HSa.out _ D6a.out | exact HSa.out _ (D5a.out.alloc D5a.out.size _) | exact HSa.out _ (st4 D6a.out (Nat.le_refl _) _ _ _ _) | go_keep) (first
                  | (go_at_call 22; refine (l_spB (HCXa.out _ D0a.out).la (HCXa.out _ D0a.out).m.mt HOK1.out (m' := mt0) HR1.out).mono ?_; rintro e5 w5 ⟨g5, p5, rfl, b5, hm5, hn5⟩; obtain ⟨Ag5, cg5, Ap5, cp5, rfl, rfl⟩ := hm5.sh _ _ rfl rfl; have D5a := hid (D0a.out.trans (b5.mono D0a.out.size)); have N5a := hid hn5; have M5a := hid hm5; clear b5 hm5 hn5)
                  | (go_at_call 22; refine (l_spB (HCXa.out _ DAa.out).la (HCXa.out _ DAa.out).m.mt HOK1.out (m' := mt0) HR1.out).mono ?_; rintro e5 w5 ⟨g5, p5, rfl, b5, hm5, hn5⟩; obtain ⟨Ag5, cg5, Ap5, cp5, rfl, rfl⟩ := hm5.sh _ _ rfl rfl; have D6a := hid (DAa.out.trans (b5.mono DAa.out.size)); have Z6a := hid (MZa.out.ext b5); obtain ⟨⟨y0, y1, y2, y3⟩, fy0, fy1, fy2, fy3⟩ := box4 Z6a.out.row; have N6a := hid hn5; have M6a := hid hm5; clear b5 hm5 hn5))
                all_goals
                  go_wp2_with fail
                  go_meet
                  first
                    | with_reducible exact spo_a3 HC.out D5a.out M5a.out N5a.out (Nat.le_refl _)
                    | with_reducible exact spo_b3 HC.out D6a.out Z6a.out M6a.out N6a.out (by simp)
              case rest =>
                obtain ⟨⟨bva, rfl⟩, rfl, hc9⟩ := hcut
                have HC9 := hid hc9
                clear hc9 k0a k1a k2a k3a k4a k5a HSa HCXa DZa D0a DAa MZa HC
                go_wp2_with fail
                go_roundw
                case rel => exact ⟨i + 1, _, _, by go_num, by omega, HC9.out⟩
                case measure => simp [intOf]; omega
            · obtain rfl : i = ns.length := by omega
              obtain ⟨Ag7, cg7, Ap7, cp7, rfl, rfl, -, hs7⟩ := HC.out.m.mt
              have H7 := hid hs7.1
              clear hs7
              have HCXc := hid (fun (W : World) (hb : Below wr.heap.size wr W) => HC.out.ext5 hb)
              have HSc := hid (fun (W : World) (hb : Below wr.heap.size wr W) => (show W.cell? ⟨bm, 3, none⟩ = some (.slice Ap7 ns.length cp7) from (HCXc.out W hb).m.cells.2.2.2))
              have DZc := hid (Below.refl wr.heap.size wr)
              have D0c := hid (below_drew DZc.out)
              have HNS := hid (SlA.of_own HC.out.nr).2
              have HRI := hid (ris_id HTK.out.r)
              have k3c := HSc.out _ DZc.out
              have HN2 : ns.length ≤ 2147483648 := by omega
              go_upto_region 46 with fail
              go_cut [178] (fun v W => v = .bool false ∧ C5 w W sa bm mb xs Z ⟨0, q, g, ns⟩ (.slice Ag7 g.length cg7) (.slice Ap7 ns.length cp7) kk D (.slice An ns.length cn) (.slice At ts.length ct) ns ts)
              case first =>
                go_region_held3 (fun W => W.cell? ⟨bm, 3, none⟩ = some (.slice Ap7 ns.length cp7)) (first | exact HSc.out _ D0c.out | exact HSc.out _ DZc.out | exact HSc.out _ D5c.out | go_keep) (first
                  | (go_at_call 30; refine (rising_any An _ cn ns _ (HNS.out.ext D0c.out) (by omega)).mono ?_; rintro e5 w5 ⟨v5, rfl, own5, b5⟩; rw [HRI.out] at own5; obtain ⟨A5, c5, rfl, s5⟩ := SlA.owned own5; have S5 := hid s5; have D5c := hid (D0c.out.trans (b5.mono D0c.out.size)); clear own5 s5 b5)
                  | (go_at_call 29; refine (same_ints Ap7 _ cp7 ns A5 _ c5 ns _ (H7.out.ext D5c.out) S5.out HN2 HN2).mono ?_; rintro e6 w6 ⟨rfl, q6, rfl⟩; rw [show (ns == ns) = true from beq_self_eq_true _]; have D7c := hid (below_drewN D5c.out q6)))
                all_goals
                  go_wp2_with fail
                  go_meet
                  exact ⟨rfl, HCXc.out _ D7c.out⟩
              case rest =>
                obtain ⟨rfl, hc9⟩ := hcut
                have HC9 := hid hc9
                clear hc9
                go_wp2_with fail
                go_roundw
                case rel => exact ⟨2, _, _, by go_num, by omega, HC9.out⟩
                case measure => simp [intOf]
        · replace HC : Hid (C5 w wr sa bm mb xs Z ⟨0, q, g, ns⟩ gv1 pv1 kk D (.slice An ns.length cn) (.slice At ts.length ct) ns ts) := HC
          go_wp2_with fail
          go_ret
          exact ⟨rfl, HC.out.la.bl⟩
        · omega
end Go.Proofs.YtanakgbhmmemoaaDoor
