import Derived.Test.YtekfjcaihocmmaaGreatDoorY06
import Derived.Test.YtekfjcaihocmmaaGreatDoorY05
import Derived.Deep.QuietTactic
import Derived.BigQuiet
import Derived.Deep.RegionHeld3
/- layer 9: a parent's hash, and each node's. -/
namespace Go.Proofs.YtekfjcaihocmmaaGreatDoor
open Go.RowKit Go.KK Go.Shelf Go.Maps
set_option linter.unusedVariables false
set_option linter.unusedSimpArgs false

/-- The numbers of a node's list that are not left off, as far as the j-th. -/
theorem unF_take {n : TN} {wo : List Int} {j : Nat} {i : Int} (h : n.u[j]? = some i) : (n.u.take (j + 1)).filter (fun i => !wo.contains i) = (n.u.take j).filter (fun i => !wo.contains i) ++ (if wo.contains i then [] else [i]) := by
  rw [List.take_add_one, h, List.filter_append]
  cases hc : wo.contains i
  · simp only [Option.toList_some, List.filter_cons, List.filter_nil, hc]; rfl
  · simp only [Option.toList_some, List.filter_cons, List.filter_nil, hc]; rfl
theorem txS_snoc (S : KS) (u : List Int) (i : Int) : ∀ j, j ≤ u.length → txS S (u ++ [i]) j = txS S u j
  | 0, _ => rfl
  | j + 1, h => by
    rw [txS, txS, txS_snoc S u i j (by omega)]
    rw [List.getD_eq_getElem?_getD, List.getD_eq_getElem?_getD, List.getElem?_append_left (by omega)]
/-- All of a list's texts. -/
def txA (S : KS) (u : List Int) : KS × List Int := txS S u u.length
theorem txA_snoc (S : KS) (u : List Int) (i : Int) : txA S (u ++ [i]) = ((doF (txA S u).1 (txF (digB i))).1, (txA S u).2 ++ [(doF (txA S u).1 (txF (digB i))).2]) := by
  unfold txA
  rw [List.length_append, List.length_singleton, txS, txS_snoc S u i u.length (Nat.le_refl _)]
  rw [List.getD_eq_getElem?_getD, List.getElem?_append_right (Nat.le_refl _), Nat.sub_self]; rfl
theorem txA_len (S : KS) (u : List Int) : (txA S u).2.length = u.length := txS_len S u _
theorem txA_i64 {S : KS} {u : List Int} (ok : Okay S.x) : ∀ i ∈ (txA S u).2, I64 i := txS_i64 ok _
theorem txA_ok {S : KS} {u : List Int} (ok : Okay S.x) : Okay (txA S u).1.x := (txS_go S u _).ok ok
/-- A node's list, where all that is read lies. -/
theorem ndP_u {A : Option Addr} {n c x : Nat} {xs : List TN} {qs : List Value} {Aw : Option Addr} {nw cw : Nat} {wo : List Int} {V : World} {b off : Nat} {y : TN} {A' : Option Addr} {c' : Nat} (hA : A = some ⟨b, off, none⟩) (h : NdP A n c xs qs Aw nw cw wo V) (hy : xs[x]? = some y) (h5 : V.cell? ⟨b, off + x * 6 + 5, none⟩ = some (.slice A' y.u.length c')) :
    ∀ U, NdP A n c xs qs Aw nw cw wo U → SlA U 1 A' y.u.length c' (y.u.map (.int .i64)) := by
  intro U hU
  obtain ⟨hx, -⟩ := List.getElem?_eq_some_iff.1 hy
  have hq : qs[x]? = some (qs[x]'(by rw [h.1.1]; exact hx)) := List.getElem?_eq_getElem _
  obtain ⟨b1, o1, e, hc⟩ := h.1.2.1.cells (x * 6 + 5) _ ((ncs_get hy hq (by decide)).trans rfl)
  rw [hA] at e
  injection e with e
  injection e with e1 e2
  subst e1; subst e2
  rw [← Nat.add_assoc] at hc
  have e5 := h5.symm.trans hc
  injection e5 with e5
  obtain ⟨A2, c2, e6, hs⟩ := hU.1.2.2 x y _ hy hq
  rw [← e5] at e6
  injection e6 with f1 f2 f3
  subst f1; subst f3
  exact hs
theorem NM.drop {w0 W V : World} {Z Z' : Nat → Prop} {sa bk : Nat} {S' : KS} {v : Value} {l : List Int} {P : World → Prop} {bs : List (Nat × Obj)} (h : NM w0 W V Z Z' sa bk bs v l S' P) : NM w0 W V Z Z' sa bk bs (.slice none 0 0) [] S' P :=
  ⟨h.lk, h.bx, World.ownsRow_nil _ _ _ _, fun b hb => (by cases hb), h.fu, h.m, h.m0⟩
theorem ha_i {S : KS} (ok : Okay S.x) (l : List Int) : I64 (haM S l).2 := do_i (idx_i64 ((li_go S l).ok ok) _)
theorem tlC_ok {n : TN} {wo : List Int} {S : KS} {x : Nat} (ok : Okay S.x) : Okay (tlC n wo S x).1.x := by
  unfold tlC
  split
  · exact (tx_go _ _).ok ((tx_go _ _).ok ((tx_go _ _).ok ok))
  · exact (li_go _ _).ok ((tx_go _ _).ok ((tx_go _ _).ok ok))
theorem th_okay {xs : List TN} {wo : List Int} : ∀ {k : Nat} {S : KS} {x : Nat}, Okay S.x → Okay (thF xs wo k S x).1.x
  | 0, S, x, ok => (ha_go _ _).ok (tlC_ok ok)
  | k + 1, S, x, ok => (ha_go _ _).ok (th_okay (th_okay ((tp_go _ _ _).ok ok)))
theorem th_i {xs : List TN} {wo : List Int} : ∀ {k : Nat} {S : KS} {x : Nat}, Okay S.x → I64 (thF xs wo k S x).2
  | 0, S, x, ok => ha_i (tlC_ok ok) _
  | k + 1, S, x, ok => ha_i (th_okay (th_okay ((tp_go _ _ _).ok ok))) _
theorem kid_facts : ∀ x : Nat, x < 511 → lvl (x : Int) = 0 ∨ (x % 2 = 1 ∧ 2 ^ (lvl (x : Int) - 1) ≤ x ∧ lvl ((x - 2 ^ (lvl (x : Int) - 1) : Nat) : Int) = lvl (x : Int) - 1 ∧ lvl ((x + 2 ^ (lvl (x : Int) - 1) : Nat) : Int) = lvl (x : Int) - 1) := by decide +kernel
theorem lvl_kids (x : Nat) (hx : x < 511) (k : Nat) (hk : lvl (x : Int) = k + 1) : x % 2 = 1 ∧ 2 ^ k ≤ x ∧ lvl ((x - 2 ^ k : Nat) : Int) = k ∧ (x + 2 ^ k < 511 → lvl ((x + 2 ^ k : Nat) : Int) = k) := by
  rcases kid_facts x hx with h | ⟨h1, h2, h3, h4⟩
  · omega
  · rw [hk, Nat.add_sub_cancel] at h2 h3 h4
    exact ⟨h1, h2, h3, fun _ => h4⟩
section
variable {w0 W : World} {Z : Nat → Prop} {sa bk : Nat} {S : KS}
set_option maxHeartbeats 8000000 in
set_option maxRecDepth 100000 in
/-- A parent's own text and term. -/
theorem m_par (h : MK w0 W Z sa bk S) (hT : Tb w0.heap.size w0) (hTab : ∀ U, Below w0.heap.size w0 U → Tab U) {A : Option Addr} {n c x k : Nat} {xs : List TN} {qs : List Value} {Aw : Option Addr} {nw cw : Nat} {wo : List Int} (hf : Fx W (Zk Z bk) (NdP A n c xs qs Aw nw cw wo)) (hx : x < n) (hn : n ≤ 511) (ho : x % 2 = 1) (hk : lvl (x : Int) = k + 1) (hxk : 2 ^ k ≤ x) (hnw : nw ≤ 1000) (hw : ∀ y ∈ xs, TnI y) (hu : ∀ y ∈ xs, y.u.length ≤ 1000)
    (ihL : ∀ (S : KS) (W : World) (Z : Nat → Prop), MK w0 W Z sa bk S → Fx W (Zk Z bk) (NdP A n c xs qs Aw nw cw wo) → Calls Tryz.prog 140 #[.pointer (some ⟨bk, 0, none⟩), .slice A n c, .int .i64 ((x - 2 ^ k : Nat) : Int), .slice Aw nw cw] W (ThS w0 W Z sa bk (thF xs wo k S (x - 2 ^ k))))
    (ihR : ∀ (S : KS) (W : World) (Z : Nat → Prop), MK w0 W Z sa bk S → Fx W (Zk Z bk) (NdP A n c xs qs Aw nw cw wo) → Calls Tryz.prog 140 #[.pointer (some ⟨bk, 0, none⟩), .slice A n c, .int .i64 ((x + 2 ^ k : Nat) : Int), .slice Aw nw cw] W (ThS w0 W Z sa bk (thF xs wo k S (x + 2 ^ k)))) :
    Calls Tryz.prog 140 #[.pointer (some ⟨bk, 0, none⟩), .slice A n c, .int .i64 x, .slice Aw nw cw] W (ThS w0 W Z sa bk (thF xs wo (k + 1) S x)) := by
  have HT := hid hT; have HTB := hid hTab; have HIL := hid ihL; have HIR := hid ihR
  obtain ⟨i0, hi, hz0, hz1, hz2⟩ := info_parts Tryz.infoInt
  have hln := hf.here.tr.len
  obtain ⟨b, off, y, A', c', rfl, hy, c0, c1, c2, c3, c4, c5, hyu⟩ := hf.here.tr.at hx
  have hyF : tnF xs x = y := by
    have := tn_get (xs := xs) (x := x) (by omega)
    rw [hy] at this; exact (Option.some.inj this).symm
  have HYF := hid hyF
  obtain ⟨wk, wi, we, ws, wh, wu⟩ := hw y (List.mem_of_getElem? hy)
  have HWF := hid (show I64 y.e ∧ I64 y.h ∧ ∀ i ∈ y.u, I64 i from ⟨we, wh, wu⟩)
  have HUL := hid (hu y (List.mem_of_getElem? hy))
  have HN := hid ((NM.begin0 h hf).push (tnC y (.slice A' y.u.length c')))
  have hx2 : (x : Int) < (n : Int) := by omega
  have HLE := hid (show chE x = 0 from by unfold chE; rw [if_neg (by omega)])
  have HLF := hid (show lfN x = ((x - 2 ^ k : Nat) : Int) from by unfold lfN; rw [if_neg (by omega), hk, Nat.add_sub_cancel, Int.ofNat_sub hxk]; simp)
  have HRG := hid (show rgN x = ((x + 2 ^ k : Nat) : Int) from by unfold rgN; rw [if_neg (by omega), hk, Nat.add_sub_cancel]; simp)
  have HTH := hid (show thF xs wo (k + 1) S x = haM (thF xs wo k (thF xs wo k (tpD y wo S).1 (x - 2 ^ k)).1 (x + 2 ^ k)).1 [(tpA S).2, (tpD y wo S).2, (thF xs wo k (tpD y wo S).1 (x - 2 ^ k)).2, (thF xs wo k (thF xs wo k (tpD y wo S).1 (x - 2 ^ k)).1 (x + 2 ^ k)).2] from by rw [thF, hyF])
  have HSU := hid (ndP_u rfl hf.here hy c5)
  have hxn : x < 511 := by omega
  generalize x - 2 ^ k = xl at *
  generalize x + 2 ^ k = xr at *
  rw [HTH.out]
  clear h hT hTab hf hyF hw wk wi we ws wh wu ihL ihR hk hxk ho hu hyu HTH
  obtain ⟨yk, yi, ye, ys, yh, yu⟩ := y
  dsimp only at *
  go_enter Tryz.func140, Tryz.ntmps140
  go_upto_region 2 with fail
  generalize hb9 : W.heap.size = b9 at *
  refine forget (R := fun V => NM w0 W V Z Z sa bk [(b9, tnC ⟨yk, yi, ye, ys, yh, yu⟩ (.slice A' yu.length c'))] (.slice none 0 0) [] S (NdP (some ⟨b, off, none⟩) n c xs qs Aw nw cw wo)) ?_ HN.out
  clear HN c0 c1 c2 c3 c4 c5 hb9 hy
  intro V h
  have HC := hid h
  clear h
  have HOK := hid (show Okay (tpA S).1.x from (tx_go _ _).ok HC.out.lk.la.ar.ok)
  have HAI := hid (show I64 (tpA S).2 from tx_i HC.out.lk.la.ar.ok _)
  have HTX := hid (fun (U : World) (hb : Below w0.heap.size w0 U) => (show Tb U.heap.size U from Tb.up (HT.out.on hb) hb.size))
  have HL := hid (left6_any x V hxn (HTB.out _ HC.out.lk.la.bl))
  rw [HLE.out, HLF.out] at HL
  go_wp2_with fail
  refine HL.out.mono ?_
  rintro e w1 ⟨rfl, b1⟩
  have HC1 := hid (HC.out.ext b1)
  clear b1 HC HL
  have HM := hid (m_text HC1.out.lk HT.out lbNode)
  unfold lbNode at HM
  go_wp2_with fail
  refine HM.out.mono ?_
  rintro e w2 ⟨Z2, rfl, l2, m2⟩
  have HC2 := hid (HC1.out.mv l2 m2)
  clear l2 m2 HC1 HM
  replace HC2 : Hid (NM w0 W w2 Z Z2 sa bk [(b9, tnC ⟨yk, yi, ye, ys, yh, yu⟩ (.slice A' yu.length c'))] (.slice none 0 0) [] (tpA S).1 (NdP (some ⟨b, off, none⟩) n c xs qs Aw nw cw wo)) := HC2
  obtain ⟨k0, -, k2, -, k4, k5⟩ := tn6 (HC2.out.bx _ (List.mem_cons_self ..)).1
  dsimp only at k0 k2 k4 k5
  go_upto_if 75 with fail
  go_cut [16] (fun v U => v = .int .i64 (tpD ⟨yk, yi, ye, ys, yh, yu⟩ wo S).2 ∧ ∃ Z5, NM w0 W U Z Z5 sa bk [(b9, tnC ⟨yk, yi, ye, ys, yh, yu⟩ (.slice A' yu.length c'))] (.slice none 0 0) [] (tpD ⟨yk, yi, ye, ys, yh, yu⟩ wo S).1 (NdP (some ⟨b, off, none⟩) n c xs qs Aw nw cw wo))
  case first =>
    by_cases hk0 : yk = 0
    · have HDD := hid (show tpD ⟨yk, yi, ye, ys, yh, yu⟩ wo S = doF (tpA S).1 (txF ⟨#[]⟩) from by unfold tpD; rw [if_pos hk0])
      have HM := hid (m_text HC2.out.lk HT.out ⟨#[]⟩)
      rw [← HDD.out] at HM
      subst hk0
      go_wp2_with fail
      refine HM.out.mono ?_
      rintro e w5 ⟨Z5, rfl, l5, m5⟩
      have HC5 := hid (HC2.out.mv l5 m5)
      clear l5 m5 HM HC2
      go_wp2_with fail
      go_meet
      exact ⟨rfl, Z5, HC5.out⟩
    · have hb0 : (yk == 0) = false := beq_eq_false_iff_ne.2 hk0
      have HDD := hid (show tpD ⟨yk, yi, ye, ys, yh, yu⟩ wo S = doF (tpC ⟨yk, yi, ye, ys, yh, yu⟩ wo S).1 (liF [ye, yh, (tpC ⟨yk, yi, ye, ys, yh, yu⟩ wo S).2]) from by unfold tpD; rw [if_neg hk0])
      clear hk0
      rw [hb0]
      go_upto_region 16 with fail
      go_loopw [81, 17, 19] (fun v un _ wr => ∃ (j : Nat) (Zj : Nat → Prop), v = .int .i64 j ∧ j ≤ yu.length ∧ NM w0 W wr Z Zj sa bk [(b9, tnC ⟨yk, yi, ye, ys, yh, yu⟩ (.slice A' yu.length c'))] un (txA (tpA S).1 ((yu.take j).filter fun i => !wo.contains i)).2 (txA (tpA S).1 ((yu.take j).filter fun i => !wo.contains i)).1 (NdP (some ⟨b, off, none⟩) n c xs qs Aw nw cw wo)) (fun v _ _ _ => yu.length - (intOf v).toNat)
      case atStart => exact ⟨0, Z2, rfl, Nat.zero_le _, HC2.out⟩
      case round =>
        clear HC2 k0 k2 k4 k5
        obtain ⟨j, Zj, hv, hj, hcm⟩ := hrel
        subst hv
        have HC := hid hcm
        clear hcm
        have hlb : yu.length ≤ 1000 := HUL.out
        by_cases hlt : j < yu.length
        · have hlt' : (j : Int) < (yu.length : Int) := by omega
          have HLT := hid hlt
          obtain ⟨b7, o7, z, rfl, hz, hcz⟩ := (HSU.out _ HC.out.here).elemI hlt
          have HTK := hid (unF_take (n := ⟨yk, yi, ye, ys, yh, yu⟩) (wo := wo) hz)
          have HZI := hid (HWF.out.2.2 z (List.mem_of_getElem? hz))
          have HCT := hid (contains_any Aw nw cw wo z wr HC.out.here.2 (by omega))
          have HFL := hid (show ((yu.take j).filter fun i => !wo.contains i).length ≤ 1000 from by
            have h1 : ((yu.take j).filter fun i => !wo.contains i).length ≤ (yu.take j).length := List.length_filter_le ..
            rw [List.length_take] at h1; omega)
          dsimp only at HTK
          generalize hF : (yu.take j).filter (fun i => !wo.contains i) = F at *
          clear hF hz hlt
          rcases hcn : wo.contains z with _ | _
          · rw [hcn] at HTK HCT
            clear hcn
            go_wp2_with fail
            refine HCT.out.mono ?_
            rintro e wq ⟨rfl, hw⟩
            have hw' := hw.symm
            clear hw
            subst hw'
            clear HCT
            go_wp2_with fail
            refine (itoa_any z HZI.out _ (HTX.out _ HC.out.lk.la.bl)).mono ?_
            rintro e w5 ⟨sv, rfl, hs, b5⟩
            have hs' : sv = digB z := hs
            subst hs'
            have HC5 := hid (HC.out.ext b5)
            clear hs b5 HC hcz
            go_wp2_with fail
            refine (m_text HC5.out.lk HT.out (digB z)).mono ?_
            rintro e w6 ⟨Z6, rfl, l6, m6⟩
            have HC6 := hid (HC5.out.mv l6 m6)
            clear l6 m6 HC5
            have HTL := hid (txA_len (tpA S).1 F)
            have HST := hid (txA_snoc (tpA S).1 F z)
            generalize (doF (txA (tpA S).1 F).1 (txF (digB z))).2 = tv at *
            generalize (doF (txA (tpA S).1 F).1 (txF (digB z))).1 = St at *
            generalize (txA (tpA S).1 F).2 = ll at *
            have hll : ll.length ≤ 1000 := by rw [HTL.out]; exact HFL.out
            go_wp2_with (first
              | (at_builtin; refine wpList_append_sl _ rfl _ _ 30 rfl W.heap.size 3 i0 (.int .i64 0) 1 8 Tryz.underlying30 hi hz0 hz1 hz2 rfl (by decide) u17 ll.length (ll.map (.int .i64)) rfl (HC6.out.ext ((Below.refl _ _).alloc (Nat.le_refl _) _)).un _ 1 1 [.int .i64 tv] rfl (SlA.lit1 _) (one_int _ _) (by unfold maxLen; omega) (by omega) (by have := HC6.out.m.t.size; simp; omega) ?_; intro v7 w7 own7 gr7 loc7; have HC7 := hid ((HC6.out.ext ((Below.refl _ _).alloc (Nat.le_refl _) (.cells #[.int .i64 tv] 3))).app (l' := ll ++ [tv]) (by rw [List.length_append, List.map_append]; exact own7) gr7 loc7); clear own7 gr7 loc7)
              | fail)
            go_roundw
            case rel =>
              refine ⟨j + 1, Z6, by go_num, by have := HLT.out; omega, ?_⟩
              rw [HTK.out, show F ++ (if false = true then [] else [z]) = F ++ [z] from rfl, HST.out]
              exact HC7.out
            case measure => have := HLT.out; simp [intOf]; omega
          · rw [hcn] at HTK HCT
            have HT2 := hid (show (yu.take (j + 1)).filter (fun i => !wo.contains i) = F from by rw [HTK.out]; simp)
            clear hcn HTK
            go_wp2_with fail
            refine HCT.out.mono ?_
            rintro e wq ⟨rfl, hw⟩
            have hw' := hw.symm
            clear hw
            subst hw'
            clear HCT
            go_wp2_with fail
            go_roundw
            case rel =>
              refine ⟨j + 1, Zj, by go_num, by have := HLT.out; omega, ?_⟩
              rw [HT2.out]
              exact HC.out
            case measure => have := HLT.out; simp [intOf]; omega
        · obtain rfl : j = yu.length := by omega
          clear hlt hj
          rw [List.take_length] at HC
          have HFE := hid (show tpB ⟨yk, yi, ye, ys, yh, yu⟩ wo S = txA (tpA S).1 (yu.filter fun i => !wo.contains i) from rfl)
          have HLI := hid (show ∀ i ∈ (tpB ⟨yk, yi, ye, ys, yh, yu⟩ wo S).2, I64 i from txA_i64 HOK.out)
          have HOB := hid (show Okay (tpB ⟨yk, yi, ye, ys, yh, yu⟩ wo S).1.x from txA_ok HOK.out)
          rw [← HFE.out] at HC
          obtain ⟨Au, cu, rfl, -⟩ := SlA.owned HC.out.un
          have HLS := hid (m_list HC.out.lk HT.out (SlA.of_own HC.out.un).2 HLI.out)
          have HCI := hid (show I64 (tpC ⟨yk, yi, ye, ys, yh, yu⟩ wo S).2 from li_i HOB.out _)
          change Hid (Calls _ _ _ wr (ThS w0 wr Zj sa bk (tpC ⟨yk, yi, ye, ys, yh, yu⟩ wo S))) at HLS
          go_wp2_with fail
          refine HLS.out.mono ?_
          rintro e w6 ⟨Z6, rfl, l6, m6⟩
          have HC6 := hid (HC.out.drop.mv l6 m6)
          clear l6 m6 HC HLS HFE
          obtain ⟨k0, -, k2, -, k4, k5⟩ := tn6 (HC6.out.bx _ (List.mem_cons_self ..)).1
          dsimp only at k0 k2 k4 k5
          have HRW := hid (HC6.out.ext ((Below.refl w6.heap.size w6).alloc (Nat.le_refl _) (.cells #[.int .i64 ye, .int .i64 yh, .int .i64 (tpC ⟨yk, yi, ye, ys, yh, yu⟩ wo S).2] 3)))
          have HM := hid (m_list HRW.out.lk HT.out (l := [ye, yh, (tpC ⟨yk, yi, ye, ys, yh, yu⟩ wo S).2]) (sla_row #[.int .i64 ye, .int .i64 yh, .int .i64 (tpC ⟨yk, yi, ye, ys, yh, yu⟩ wo S).2] (by unfold maxLen; simp)) (fun i hi => by
            simp only [List.mem_cons, List.mem_nil_iff, or_false] at hi
            rcases hi with rfl | rfl | rfl
            · exact HWF.out.1
            · exact HWF.out.2.1
            · exact HCI.out))
          rw [← HDD.out] at HM
          go_wp2_with fail
          refine HM.out.mono ?_
          rintro e w7 ⟨Z7, rfl, l7, m7⟩
          have HC7 := hid (HRW.out.mv l7 m7)
          clear l7 m7 HM HRW HC6
          go_wp2_with fail
          go_meet
          exact ⟨rfl, Z7, HC7.out⟩
  case rest =>
    obtain ⟨rfl, Z5, h5⟩ := hcut
    have HC5 := hid h5
    clear h5 HC2 k0 k2 k4 k5
    have HDI := hid (show I64 (tpD ⟨yk, yi, ye, ys, yh, yu⟩ wo S).2 from by
      unfold tpD
      split
      · exact tx_i HOK.out _
      · exact li_i ((li_go _ _).ok (txA_ok HOK.out)) _)
    have HR := hid (right6_any x wc hxn (HTB.out _ HC5.out.lk.la.bl))
    rw [HLE.out, HRG.out] at HR
    generalize tpD ⟨yk, yi, ye, ys, yh, yu⟩ wo S = D at *
    go_wp2_with fail
    refine HR.out.mono ?_
    rintro e w6 ⟨rfl, b6⟩
    have HC6 := hid (HC5.out.ext b6)
    clear b6 HC5 HR
    have HL := hid (HIL.out D.1 w6 Z5 HC6.out.lk HC6.out.fx)
    have HLI := hid (show I64 (thF xs wo k D.1 xl).2 from th_i HC6.out.lk.la.ar.ok)
    have HLO := hid (show Okay (thF xs wo k D.1 xl).1.x from th_okay HC6.out.lk.la.ar.ok)
    generalize thF xs wo k D.1 xl = L at *
    go_wp2_with fail
    refine HL.out.mono ?_
    rintro e w7 ⟨Z7, rfl, l7, m7⟩
    have HC7 := hid (HC6.out.mv l7 m7)
    clear l7 m7 HC6 HL
    have HRR := hid (HIR.out L.1 w7 Z7 HC7.out.lk HC7.out.fx)
    have HRI := hid (show I64 (thF xs wo k L.1 xr).2 from th_i HC7.out.lk.la.ar.ok)
    generalize thF xs wo k L.1 xr = R at *
    go_wp2_with fail
    refine HRR.out.mono ?_
    rintro e w8 ⟨Z8, rfl, l8, m8⟩
    have HC8 := hid (HC7.out.mv l8 m8)
    clear l8 m8 HC7 HRR
    have HRW := hid (HC8.out.ext ((Below.refl w8.heap.size w8).alloc (Nat.le_refl _) (.cells #[.int .i64 (tpA S).2, .int .i64 D.2, .int .i64 L.2, .int .i64 R.2] 3)))
    have HH := hid (m_hash HRW.out.lk HT.out (l := [(tpA S).2, D.2, L.2, R.2]) (sla_row #[.int .i64 (tpA S).2, .int .i64 D.2, .int .i64 L.2, .int .i64 R.2] (by unfold maxLen; simp)) (fun i hi => by
      simp only [List.mem_cons, List.mem_nil_iff, or_false] at hi
      rcases hi with rfl | rfl | rfl | rfl
      · exact HAI.out
      · exact HDI.out
      · exact HLI.out
      · exact HRI.out))
    have HM5 := hid HRW.out.m
    clear HRW
    go_wp2_with fail
    refine HH.out.mono ?_
    rintro e w9 ⟨Z9, rfl, l9, m9⟩
    have L9 := hid l9; have M9 := hid (HM5.out.trans m9)
    clear l9 m9 HH
    go_wp2_with fail
    go_ret
    exact ⟨Z9, rfl, L9.out, M9.out⟩
/-- Any node's hash. -/
theorem m_node (hT : Tb w0.heap.size w0) (hTab : ∀ U, Below w0.heap.size w0 U → Tab U) {A : Option Addr} {n c : Nat} {xs : List TN} {qs : List Value} {Aw : Option Addr} {nw cw : Nat} {wo : List Int} (hn : n ≤ 511) (hnw : nw ≤ 1000) (hw : ∀ y ∈ xs, TnI y) (hu : ∀ y ∈ xs, y.u.length ≤ 1000) :
    ∀ (k : Nat) (S : KS) (x : Nat) (W : World) (Z : Nat → Prop), MK w0 W Z sa bk S → Fx W (Zk Z bk) (NdP A n c xs qs Aw nw cw wo) → lvl (x : Int) = k → x + 2 ^ k ≤ n →
    Calls Tryz.prog 140 #[.pointer (some ⟨bk, 0, none⟩), .slice A n c, .int .i64 x, .slice Aw nw cw] W (ThS w0 W Z sa bk (thF xs wo k S x))
  | 0, S, x, W, Z, h, hf, hk, hx => by
    have hx1 : x < n := by simp at hx; omega
    have he : x % 2 = 0 := by
      have := (ch_facts x (by omega)).1
      rw [hk] at this
      simpa using this
    exact m_leaf h hT hTab hf hx1 hn he hnw hw
  | k + 1, S, x, W, Z, h, hf, hk, hx => by
    have e1 : 2 ^ (k + 1) = 2 * 2 ^ k := by rw [Nat.pow_succ]; omega
    have e3 : 1 ≤ 2 ^ k := Nat.one_le_two_pow
    have hx1 : x < 511 := by omega
    obtain ⟨f1, f2, f3, f4⟩ := lvl_kids x hx1 k hk
    have ho : x % 2 = 1 := f1
    exact m_par h hT hTab hf (by omega) hn ho hk f2 hnw hw hu
      (fun S W Z h hf => m_node hT hTab hn hnw hw hu k S (x - 2 ^ k) W Z h hf f3 (by omega))
      (fun S W Z h hf => m_node hT hTab hn hnw hw hu k S (x + 2 ^ k) W Z h hf (f4 (by omega)) (by omega))
end
end Go.Proofs.YtekfjcaihocmmaaGreatDoor

/- nodes: what is bad; begin. -/
namespace Go.Proofs.YtekfjcaihocmmaaGreatDoor
open Go.RowKit Go.KK Go.Shelf Go.Maps
set_option linter.unusedVariables false
set_option linter.unusedSimpArgs false

theorem any_step {α : Type} {l : List α} {p : α → Bool} {j : Nat} {x : α} (h : l[j]? = some x) : (l.drop j).any p = (p x || (l.drop (j + 1)).any p) := by
  rw [List.drop_eq_getElem_cons (List.getElem?_eq_some_iff.1 h).1, List.any_cons, (List.getElem?_eq_some_iff.1 h).2]
section
variable {W : World} {sa b : Nat} {X : List ND}
end
end Go.Proofs.YtekfjcaihocmmaaGreatDoor

/- ratchet: whether a node may be a parent at its place. -/
namespace Go.Proofs.YtekfjcaihocmmaaGreatDoor
open Go.RowKit Go.KK
set_option linter.unusedVariables false
set_option linter.unusedSimpArgs false

/-- A node's list. -/
def um (xs : List TN) (j : Nat) : List Int := match xs[j]? with | some x => x.u | none => []
/-- The parents between a leaf and a node above it have the leaf. -/
def pthB (xs : List TN) (x i : Int) : Bool := ((pathL (2 * i) (lvN xs.length)).takeWhile (fun y => y != x)).all fun y => kd xs y.toNat != 2 || (um xs y.toNat).contains i
def oneB (xs : List TN) (x i : Int) : Bool := decide (lfA x ≤ i) && decide (i < lfB x) && pres xs i && pthB xs x i
def parB (xs : List TN) (x : Int) (p : TN) : Bool := (p.k == 2) && (p.i == 0) && (p.s == 0) && riseB p.u && p.u.all (oneB xs x)

theorem parent_k (A : Option Addr) (n c : Nat) (x : Int) (k i e s h : Int) (B : Option Addr) (m d : Nat) (w : World) (hk : ¬ k = 2) :
    Calls Tryz.prog 195 #[.slice A n c, .int .i64 x, .agg #[.int .i64 k, .int .i64 i, .int .i64 e, .int .i64 s, .int .i64 h, .slice B m d]] w fun e w' => e = .returned (.bool false) ∧ Below w.heap.size w w' := by
  have hk' : (k != 2) = true := bne_iff_ne.2 hk
  go_enter Tryz.func195, Tryz.ntmps195
  go_wp2
  go_quiet (fail)
  go_wp2
  go_ret
  exact ⟨rfl, below_drewN ((Below.refl _ _).alloc (Nat.le_refl _) _) _⟩
set_option maxHeartbeats 2000000 in
theorem parent_c (A : Option Addr) (n c : Nat) (x : Int) (e h : Int) (u : List Int) (B : Option Addr) (m d : Nat) (w : World) (hs : SlA w 1 B m d (u.map (.int .i64))) (hm47 : m ≤ 2147483648) (hso : sortB u = true) (hr : riseB u = false) :
    Calls Tryz.prog 195 #[.slice A n c, .int .i64 x, .agg #[.int .i64 2, .int .i64 0, .int .i64 e, .int .i64 0, .int .i64 h, .slice B m d]] w fun e w' => e = .returned (.bool false) ∧ Below w.heap.size w w' := by
  have HN := hid hs.lenI
  have hc : ((Lib.compact u).length : Int) != (m : Int) := by
    unfold riseB at hr
    rw [hso, HN.out] at hr
    simpa [bne] using hr
  have HSO := hid hso; have HS := hid hs
  clear hr hso hs
  go_enter Tryz.func195, Tryz.ntmps195
  go_wp2
  have hb0 : Below w.heap.size w (w.alloc (.cells #[.int .i64 2, .int .i64 0, .int .i64 e, .int .i64 0, .int .i64 h, .slice B m d] 37)) := (Below.refl _ _).alloc (Nat.le_refl _) _
  have hz0 : w.heap.size + 1 ≤ (w.alloc (.cells #[.int .i64 2, .int .i64 0, .int .i64 e, .int .i64 0, .int .i64 h, .slice B m d] 37)).heap.size := by simp
  have k0 : (w.alloc (.cells #[.int .i64 2, .int .i64 0, .int .i64 e, .int .i64 0, .int .i64 h, .slice B m d] 37)).cell? ⟨w.heap.size, 0, none⟩ = some (.int .i64 2) := by rw [World.cell?_alloc_new]; rfl
  have k1 : (w.alloc (.cells #[.int .i64 2, .int .i64 0, .int .i64 e, .int .i64 0, .int .i64 h, .slice B m d] 37)).cell? ⟨w.heap.size, 1, none⟩ = some (.int .i64 0) := by rw [World.cell?_alloc_new]; rfl
  have k3 : (w.alloc (.cells #[.int .i64 2, .int .i64 0, .int .i64 e, .int .i64 0, .int .i64 h, .slice B m d] 37)).cell? ⟨w.heap.size, 3, none⟩ = some (.int .i64 0) := by rw [World.cell?_alloc_new]; rfl
  have k5 : (w.alloc (.cells #[.int .i64 2, .int .i64 0, .int .i64 e, .int .i64 0, .int .i64 h, .slice B m d] 37)).cell? ⟨w.heap.size, 5, none⟩ = some (.slice B m d) := by rw [World.cell?_alloc_new]; rfl
  generalize w.alloc (.cells #[.int .i64 2, .int .i64 0, .int .i64 e, .int .i64 0, .int .i64 h, .slice B m d] 37) = W0 at hb0 hz0 k0 k1 k3 k5 ⊢
  go_region_held3 (fun w' => w'.cell? ⟨w.heap.size, 0, none⟩ = some (.int .i64 2) ∧ w'.cell? ⟨w.heap.size, 1, none⟩ = some (.int .i64 0) ∧ w'.cell? ⟨w.heap.size, 3, none⟩ = some (.int .i64 0) ∧ w'.cell? ⟨w.heap.size, 5, none⟩ = some (.slice B m d) ∧ Below w.heap.size w w' ∧ w.heap.size + 1 ≤ w'.heap.size) (first | exact ⟨k0, k1, k3, k5, hb0, hz0⟩ | exact ⟨k0, k1, k3, k5, below_drew hb0, hz0⟩ | exact ⟨k0, k1, k3, k5, below_drewN hb0 _, hz0⟩ | exact ⟨r0, r1, r3, r5, rb, rz⟩ | exact ⟨s0, s1, s3, s5, sb, sz⟩ | go_keep) (first
    | (go_at_call 253; refine (sorted_any B m d u _ (HS.out.ext (below_drew hb0)) hm47).mono ?_; rintro e1 w1 ⟨rfl, q, rfl⟩; rw [HSO.out])
    | (go_at_call 115; refine (clone_int B m d u _ (HS.out.ext (below_drewN hb0 (1 + q))) hm47).mono ?_; rintro e2 w2 ⟨v2, rfl, hown2, hb2⟩; have r0 := (hb2.cell (p := ⟨w.heap.size, 0, none⟩) hz0).trans k0; have r1 := (hb2.cell (p := ⟨w.heap.size, 1, none⟩) hz0).trans k1; have r3 := (hb2.cell (p := ⟨w.heap.size, 3, none⟩) hz0).trans k3; have r5 := (hb2.cell (p := ⟨w.heap.size, 5, none⟩) hz0).trans k5; have rb := (below_drewN hb0 (1 + q)).trans (hb2.mono (Nat.le_of_succ_le hz0)); have rz := Nat.le_trans hz0 hb2.size)
    | (go_at_call 254; refine (compact_own _ v2 m u _ hown2 hm47).mono ?_; rintro e3 w3 ⟨A3, c3, rfl, hb3⟩; have s0 := (hb3.cell (p := ⟨w.heap.size, 0, none⟩) hz0).trans r0; have s1 := (hb3.cell (p := ⟨w.heap.size, 1, none⟩) hz0).trans r1; have s3 := (hb3.cell (p := ⟨w.heap.size, 3, none⟩) hz0).trans r3; have s5 := (hb3.cell (p := ⟨w.heap.size, 5, none⟩) hz0).trans r5; have sb := rb.trans (hb3.mono (Nat.le_of_succ_le hz0)); have sz := Nat.le_trans rz hb3.size))
  go_wp2
  go_ret
  exact ⟨rfl, sb⟩
theorem parent_i (A : Option Addr) (n c : Nat) (x : Int) (i e s h : Int) (B : Option Addr) (m d : Nat) (w : World) (hi : ¬ i = 0) :
    Calls Tryz.prog 195 #[.slice A n c, .int .i64 x, .agg #[.int .i64 2, .int .i64 i, .int .i64 e, .int .i64 s, .int .i64 h, .slice B m d]] w fun e w' => e = .returned (.bool false) ∧ Below w.heap.size w w' := by
  have hk' : (i != 0) = true := bne_iff_ne.2 hi
  go_enter Tryz.func195, Tryz.ntmps195
  go_wp2
  go_quiet (fail)
  go_wp2
  go_ret
  exact ⟨rfl, below_drewN ((Below.refl _ _).alloc (Nat.le_refl _) _) _⟩
theorem parent_s (A : Option Addr) (n c : Nat) (x : Int) (e s h : Int) (B : Option Addr) (m d : Nat) (w : World) (hs : ¬ s = 0) :
    Calls Tryz.prog 195 #[.slice A n c, .int .i64 x, .agg #[.int .i64 2, .int .i64 0, .int .i64 e, .int .i64 s, .int .i64 h, .slice B m d]] w fun e w' => e = .returned (.bool false) ∧ Below w.heap.size w w' := by
  have hk' : (s != 0) = true := bne_iff_ne.2 hs
  go_enter Tryz.func195, Tryz.ntmps195
  go_wp2
  go_quiet (fail)
  go_wp2
  go_ret
  exact ⟨rfl, below_drewN ((Below.refl _ _).alloc (Nat.le_refl _) _) _⟩
theorem parent_o (A : Option Addr) (n c : Nat) (x : Int) (e h : Int) (u : List Int) (B : Option Addr) (m d : Nat) (w : World) (hs : SlA w 1 B m d (u.map (.int .i64))) (hm47 : m ≤ 2147483648) (hso : sortB u = false) :
    Calls Tryz.prog 195 #[.slice A n c, .int .i64 x, .agg #[.int .i64 2, .int .i64 0, .int .i64 e, .int .i64 0, .int .i64 h, .slice B m d]] w fun e w' => e = .returned (.bool false) ∧ Below w.heap.size w w' := by
  have hcall : ∀ k, Calls Tryz.prog 253 #[.slice B m d] ((w.alloc (.cells #[.int .i64 2, .int .i64 0, .int .i64 e, .int .i64 0, .int .i64 h, .slice B m d] 37)).drewN k) fun r w' => r = .returned (.bool false) ∧ ∃ q, w' = ((w.alloc (.cells #[.int .i64 2, .int .i64 0, .int .i64 e, .int .i64 0, .int .i64 h, .slice B m d] 37)).drewN k).drewN q := fun k => by
    have := sorted_any B m d u _ ((hs.alloc (.cells #[.int .i64 2, .int .i64 0, .int .i64 e, .int .i64 0, .int .i64 h, .slice B m d] 37)).drewN k) hm47
    rw [hso] at this
    exact this
  go_enter Tryz.func195, Tryz.ntmps195
  go_wp2
  go_quiet ((go_at_call 253; exact Calls.quiet_of (hcall _)))
  go_wp2
  go_ret
  exact ⟨rfl, below_drewN ((Below.refl _ _).alloc (Nat.le_refl _) _) _⟩
end Go.Proofs.YtekfjcaihocmmaaGreatDoor

/- ratchet: whether a node may be a parent at its place: where its head may be. -/
namespace Go.Proofs.YtekfjcaihocmmaaGreatDoor
open Go.RowKit Go.KK
set_option linter.unusedVariables false
set_option linter.unusedSimpArgs false

theorem tdrop_get {α : Type} {l : List α} {k : Nat} {x : α} (h : l[k]? = some x) : l.drop k = x :: l.drop (k + 1) := by
  obtain ⟨hk, rfl⟩ := List.getElem?_eq_some_iff.1 h
  exact List.drop_eq_getElem_cons hk
theorem pres_in {xs : List TN} {i : Int} (h : pres xs i = true) : 0 ≤ i ∧ i < lvN xs.length := by
  unfold pres at h
  simp only [Bool.and_eq_true, decide_eq_true_eq] at h
  exact h.1
theorem all_no {f : Int → Bool} {z : Int} {l : List Int} (h : f z = false) : Ending.returned (.bool ((z :: l).all f)) = Ending.returned (.bool false) := by rw [List.all_cons, h]; rfl
theorem one_lo {xs : List TN} {x z : Int} (h : z < lfA x) : oneB xs x z = false := by unfold oneB; rw [decide_eq_false (by omega)]; rfl
theorem one_hi {xs : List TN} {x z : Int} (h : lfB x ≤ z) : oneB xs x z = false := by unfold oneB; rw [decide_eq_false (show ¬ z < lfB x by omega), Bool.and_false]; rfl
theorem one_pres {xs : List TN} {x z : Int} (h : pres xs z = false) : oneB xs x z = false := by unfold oneB; simp [h]
theorem one_path {xs : List TN} {x z : Int} (h : pthB xs x z = false) : oneB xs x z = false := by unfold oneB; simp [h]
theorem one_yes {xs : List TN} {x z : Int} (h1 : lfA x ≤ z) (h2 : z < lfB x) (h3 : pres xs z = true) (h4 : pthB xs x z = true) : oneB xs x z = true := by unfold oneB; simp [h1, h2, h3, h4]
/-- What is looked at up to a node. -/
def twB (f : Int → Bool) (x : Int) (l : List Int) : Bool := (l.takeWhile (fun y => y != x)).all f
def goodB (xs : List TN) (z y : Int) : Bool := kd xs y.toNat != 2 || (um xs y.toNat).contains z
theorem tw_stop (f : Int → Bool) (x : Int) (l : List Int) : twB f x (x :: l) = true := by unfold twB; rw [List.takeWhile_cons]; simp
theorem tw_no {f : Int → Bool} {x y : Int} {l : List Int} (h : ¬ y = x) (hf : f y = false) : twB f x (y :: l) = false := by unfold twB; rw [List.takeWhile_cons, if_pos (by simpa using h), List.all_cons, hf, Bool.false_and]
theorem tw_go {f : Int → Bool} {x y : Int} {l : List Int} (h : ¬ y = x) (hf : f y = true) : twB f x (y :: l) = twB f x l := by unfold twB; rw [List.takeWhile_cons, if_pos (by simpa using h), List.all_cons, hf, Bool.true_and]
theorem good_is {xs : List TN} {z : Int} {j : Nat} {q : TN} {b : Bool} (h : xs[j]? = some q) (hb : (q.k != 2 || q.u.contains z) = b) : goodB xs z (j : Int) = b := by
  unfold goodB kd um; rw [Int.toNat_natCast, h]; exact hb
theorem pathF_le (n : Int) : ∀ (f : Nat) (x : Int), (pathF f x n).length ≤ f
  | 0, _ => Nat.le_refl _
  | f + 1, x => by
    rw [pathF]
    split
    · simp
    · have := pathF_le n f (upV x); simp; omega
theorem pathL_le (x n : Int) : (pathL x n).length ≤ 9 := pathF_le n 9 x
theorem pathF_in {n : Int} (hf : fullN n = true) : ∀ (f : Nat) (x : Int), 0 ≤ x → x < 2 * n - 1 → ∀ y ∈ pathF f x n, 0 ≤ y ∧ y < 2 * n - 1
  | 0, _, _, _, _, h => by cases h
  | f + 1, x, h0, h1, y, h => by
    rw [pathF] at h
    split at h
    · cases h
    · rename_i hne
      obtain ⟨a, b, _⟩ := up_in hf h0 h1 hne
      rcases List.mem_cons.1 h with rfl | h
      · exact ⟨a, b⟩
      · exact pathF_in hf f _ a b y h
theorem path_in {x n : Int} (hf : fullN n = true) (h0 : 0 ≤ x) (h1 : x < 2 * n - 1) : ∀ y ∈ pathL x n, 0 ≤ y ∧ y < 2 * n - 1 := pathF_in hf 9 x h0 h1
set_option maxHeartbeats 2000000 in
theorem parent_go (A : Option Addr) (n c : Nat) (xs : List TN) (x : Int) (e h : Int) (u : List Int) (B : Option Addr) (m d : Nat) (w : World) (hs : SlA w 1 B m d (u.map (.int .i64))) (hm47 : m ≤ 2147483648) (hr : riseB u = true) (h0 : Tr w A n c xs) (hnm : n ≤ 600) (hx0 : 0 ≤ x) (hx1 : x ≤ 510) (hf : fullN (lvN n) = true) (hT : Tab w) (hu : ∀ (j : Nat) (q : TN), xs[j]? = some q → q.u.length ≤ 2147483648) :
    Calls Tryz.prog 195 #[.slice A n c, .int .i64 x, .agg #[.int .i64 2, .int .i64 0, .int .i64 e, .int .i64 0, .int .i64 h, .slice B m d]] w fun e w' => e = .returned (.bool (u.all (oneB xs x))) ∧ Below w.heap.size w w' := by
  have HN := hid hs.lenI
  have hh : sortB u = true ∧ ((Lib.compact u).length : Int) = (m : Int) := by
    unfold riseB at hr
    rw [Bool.and_eq_true, HN.out] at hr
    exact ⟨hr.1, by simpa using hr.2⟩
  have hso := hh.1
  have hc : (((Lib.compact u).length : Int) != (m : Int)) = false := by rw [hh.2]; simp
  clear hh
  have H0 := hid h0; have HT := hid hT; have HF := hid hf; have HU := hid hu; clear hu
  clear h0 hT hf
  have HSO := hid hso; have HS := hid hs
  clear hr hso hs
  go_enter Tryz.func195, Tryz.ntmps195
  go_wp2
  have hb0 : Below w.heap.size w (w.alloc (.cells #[.int .i64 2, .int .i64 0, .int .i64 e, .int .i64 0, .int .i64 h, .slice B m d] 37)) := (Below.refl _ _).alloc (Nat.le_refl _) _
  have hz0 : w.heap.size + 1 ≤ (w.alloc (.cells #[.int .i64 2, .int .i64 0, .int .i64 e, .int .i64 0, .int .i64 h, .slice B m d] 37)).heap.size := by simp
  have k0 : (w.alloc (.cells #[.int .i64 2, .int .i64 0, .int .i64 e, .int .i64 0, .int .i64 h, .slice B m d] 37)).cell? ⟨w.heap.size, 0, none⟩ = some (.int .i64 2) := by rw [World.cell?_alloc_new]; rfl
  have k1 : (w.alloc (.cells #[.int .i64 2, .int .i64 0, .int .i64 e, .int .i64 0, .int .i64 h, .slice B m d] 37)).cell? ⟨w.heap.size, 1, none⟩ = some (.int .i64 0) := by rw [World.cell?_alloc_new]; rfl
  have k3 : (w.alloc (.cells #[.int .i64 2, .int .i64 0, .int .i64 e, .int .i64 0, .int .i64 h, .slice B m d] 37)).cell? ⟨w.heap.size, 3, none⟩ = some (.int .i64 0) := by rw [World.cell?_alloc_new]; rfl
  have k5 : (w.alloc (.cells #[.int .i64 2, .int .i64 0, .int .i64 e, .int .i64 0, .int .i64 h, .slice B m d] 37)).cell? ⟨w.heap.size, 5, none⟩ = some (.slice B m d) := by rw [World.cell?_alloc_new]; rfl
  generalize w.alloc (.cells #[.int .i64 2, .int .i64 0, .int .i64 e, .int .i64 0, .int .i64 h, .slice B m d] 37) = W0 at hb0 hz0 k0 k1 k3 k5 ⊢
  go_region_held3 (fun w' => w'.cell? ⟨w.heap.size, 0, none⟩ = some (.int .i64 2) ∧ w'.cell? ⟨w.heap.size, 1, none⟩ = some (.int .i64 0) ∧ w'.cell? ⟨w.heap.size, 3, none⟩ = some (.int .i64 0) ∧ w'.cell? ⟨w.heap.size, 5, none⟩ = some (.slice B m d) ∧ Below w.heap.size w w' ∧ w.heap.size + 1 ≤ w'.heap.size) (first | exact ⟨k0, k1, k3, k5, hb0, hz0⟩ | exact ⟨k0, k1, k3, k5, below_drew hb0, hz0⟩ | exact ⟨k0, k1, k3, k5, below_drewN hb0 _, hz0⟩ | exact ⟨r0, r1, r3, r5, rb, rz⟩ | exact ⟨s0, s1, s3, s5, sb, sz⟩ | go_keep) (first
    | (go_at_call 253; refine (sorted_any B m d u _ (HS.out.ext (below_drew hb0)) hm47).mono ?_; rintro e1 w1 ⟨rfl, q, rfl⟩; rw [HSO.out])
    | (go_at_call 115; refine (clone_int B m d u _ (HS.out.ext (below_drewN hb0 (1 + q))) hm47).mono ?_; rintro e2 w2 ⟨v2, rfl, hown2, hb2⟩; have r0 := (hb2.cell (p := ⟨w.heap.size, 0, none⟩) hz0).trans k0; have r1 := (hb2.cell (p := ⟨w.heap.size, 1, none⟩) hz0).trans k1; have r3 := (hb2.cell (p := ⟨w.heap.size, 3, none⟩) hz0).trans k3; have r5 := (hb2.cell (p := ⟨w.heap.size, 5, none⟩) hz0).trans k5; have rb := (below_drewN hb0 (1 + q)).trans (hb2.mono (Nat.le_of_succ_le hz0)); have rz := Nat.le_trans hz0 hb2.size)
    | (go_at_call 254; refine (compact_own _ v2 m u _ hown2 hm47).mono ?_; rintro e3 w3 ⟨A3, c3, rfl, hb3⟩; have s0 := (hb3.cell (p := ⟨w.heap.size, 0, none⟩) hz0).trans r0; have s1 := (hb3.cell (p := ⟨w.heap.size, 1, none⟩) hz0).trans r1; have s3 := (hb3.cell (p := ⟨w.heap.size, 3, none⟩) hz0).trans r3; have s5 := (hb3.cell (p := ⟨w.heap.size, 5, none⟩) hz0).trans r5; have sb := rb.trans (hb3.mono (Nat.le_of_succ_le hz0)); have sz := Nat.le_trans rz hb3.size))
  have SB := hid sb
  clear s0 s1 s3 r0 r1 r3 r5 rb k0 k1 k3 k5 hb0 hb3 hb2 hown2 hc
  have hsn := SB.out.size
  go_wp2_with (first
    | (go_at_call 225; refine (leaves_any x _ hx0 hx1 (HT.out.ext SB.out)).mono ?_; rintro e4 w4 ⟨rfl, rfl⟩))
  have HX := hid H0.out.len
  go_loopw [55, 6] (fun i _ wr => ∃ j : Nat, i = .int .i64 j ∧ j ≤ m ∧ Hid (u.all (oneB xs x) = (u.drop j).all (oneB xs x)) ∧ Below w.heap.size w wr) (fun i _ _ => m - (intOf i).toNat)
  case atStart => exact ⟨0, rfl, by omega, hid rfl, SB.out⟩
  case round =>
    obtain ⟨j, hi, hj, HD, hbr⟩ := hrel
    subst hi
    have HB := hid hbr; clear hbr
    by_cases hlt : j < m
    · obtain ⟨b, o, z, rfl, hz, hc⟩ := (HS.out.ext HB.out).elemI hlt
      have HC := hid (tdrop_get hz); clear hz
      by_cases h1 : lfA x ≤ z
      · by_cases h2 : z < lfB x
        · rcases hp : pres xs z with _ | _
          · go_wp2_with (go_at_call 130; refine (present_any _ n c xs _ _ (H0.out.ext HB.out) hnm).mono ?_; rintro e w' ⟨rfl, rfl⟩; rw [hp])
            go_ret
            exact ⟨by rw [HD.out, HC.out]; exact (all_no (one_pres hp)).symm, HB.out⟩
          · obtain ⟨z0, z1⟩ := pres_in hp
            rw [HX.out] at z1
            have hN : lvN n ≤ 301 := by unfold lvN; omega
            have HP := hid hp
            go_wp2_with (first
              | (go_at_call 130; refine (present_any _ n c xs _ _ (H0.out.ext HB.out) hnm).mono ?_; rintro e w' ⟨rfl, rfl⟩; rw [hp])
              | (go_at_call 131; refine (leavesT_any _ n c _ hnm).mono ?_; rintro e w' ⟨rfl, rfl⟩)
              | (go_at_call 201; refine (path_any (2 * z) (lvN n) _ HF.out (by omega) (by omega) (HT.out.ext HB.out)).mono ?_; rintro e5 w5 ⟨v5, rfl, hown5, hb5⟩; obtain ⟨A5, c5, rfl, hs5⟩ := SlA.owned hown5))
            have HL := hid hs5.lenI
            have HS5 := hid hs5
            have HB5 := hid (HB.out.trans (hb5.mono HB.out.size))
            have HI := hid (@path_in (2 * z) (lvN n) HF.out (by omega) (by omega))
            clear hs5 hown5 hb5 hp
            have hpl : (pathL (2 * z) (lvN n)).length ≤ 9 := pathL_le _ _
            go_loop [83, 6] (fun i _ => ∃ k : Nat, i = .int .i64 k ∧ k ≤ (pathL (2 * z) (lvN n)).length ∧ Hid (pthB xs x z = twB (goodB xs z) x ((pathL (2 * z) (lvN n)).drop k))) (fun i _ => (pathL (2 * z) (lvN n)).length - (intOf i).toNat)
            case atStart => exact ⟨0, rfl, by omega, hid (by unfold pthB twB goodB; rw [HX.out]; rfl)⟩
            case round =>
              obtain ⟨k, hi, hk, HK⟩ := hrel
              subst hi
              by_cases hlk : k < (pathL (2 * z) (lvN n)).length
              · obtain ⟨b5, o5, y, rfl, hy, hcy⟩ := HS5.out.elemI hlk
                have HY := hid (tdrop_get hy)
                obtain ⟨y0, y1⟩ := HI.out y (List.mem_of_getElem? hy)
                clear hy
                by_cases hyx : y = x
                · subst hyx
                  have hpt : pthB xs y z = true := by rw [HK.out, HY.out]; exact tw_stop _ _ _
                  have HO := hid (one_yes h1 h2 HP.out hpt); clear hpt
                  go_wp2
                  go_roundw
                  case rel => exact ⟨j + 1, by go_num, by omega, hid (by rw [HD.out, HC.out, List.all_cons, HO.out, Bool.true_and]), HB5.out⟩
                  case measure => simp [intOf]; omega
                · have hyx' : (y == x) = false := beq_eq_false_iff_ne.2 hyx
                  obtain ⟨yn, rfl⟩ := Int.eq_ofNat_of_zero_le y0
                  have hyn : yn < n := by unfold lvN at y1; omega
                  obtain ⟨b0, o0, q, Aq, cq, rfl, hq, c0, -, -, -, -, cq5, hsq⟩ := (H0.out.ext HB5.out).at hyn
                  have hqu := HU.out _ _ hq; have HQ := hid hq; clear hq
                  by_cases hq2 : q.k = 2
                  · have HQ2 := hid hq2
                    rw [hq2] at c0
                    rcases hct : q.u.contains z with _ | _
                    · have hpt : pthB xs x z = false := by rw [HK.out, HY.out]; exact tw_no hyx (good_is HQ.out (by rw [hct, HQ2.out]; rfl))
                      have HO := hid (one_path hpt); clear hpt hq2 hyx
                      go_wp2_with (go_at_call 80; refine (contains_any Aq _ cq q.u z _ hsq (by omega)).mono ?_; rintro e w' ⟨rfl, rfl⟩; rw [hct])
                      go_ret
                      exact ⟨by rw [HD.out, HC.out]; exact (all_no HO.out).symm, HB5.out⟩
                    · have hpt : pthB xs x z = twB (goodB xs z) x ((pathL (2 * z) (lvN n)).drop (k + 1)) := by rw [HK.out, HY.out]; exact tw_go hyx (good_is HQ.out (by rw [hct, HQ2.out]; rfl))
                      have HO := hid hpt; clear hpt hq2 hyx
                      go_wp2_with (go_at_call 80; refine (contains_any Aq _ cq q.u z _ hsq (by omega)).mono ?_; rintro e w' ⟨rfl, rfl⟩; rw [hct])
                      go_round
                      case rel => exact ⟨k + 1, by go_num, by omega, HO⟩
                      case measure => simp [intOf]; omega
                  · have hq2' : (q.k == 2) = false := beq_eq_false_iff_ne.2 hq2
                    have hpt : pthB xs x z = twB (goodB xs z) x ((pathL (2 * z) (lvN n)).drop (k + 1)) := by rw [HK.out, HY.out]; exact tw_go hyx (good_is HQ.out (by simp [hq2]))
                    have HO := hid hpt; clear hpt hq2 hyx
                    go_wp2
                    go_round
                    case rel => exact ⟨k + 1, by go_num, by omega, HO⟩
                    case measure => simp [intOf]; omega
              · have hpt : pthB xs x z = true := by rw [HK.out, List.drop_of_length_le (by omega)]; rfl
                have HO := hid (one_yes h1 h2 HP.out hpt); clear hpt
                go_wp2
                go_roundw
                case rel => exact ⟨j + 1, by go_num, by omega, hid (by rw [HD.out, HC.out, List.all_cons, HO.out, Bool.true_and]), HB5.out⟩
                case measure => simp [intOf]; omega
        · go_wp2
          go_ret
          exact ⟨by rw [HD.out, HC.out]; exact (all_no (one_hi (by omega))).symm, HB.out⟩
      · go_wp2
        go_ret
        exact ⟨by rw [HD.out, HC.out]; exact (all_no (one_lo (by omega))).symm, HB.out⟩
    · go_wp2
      go_ret
      exact ⟨by rw [HD.out, List.drop_of_length_le (by have := HN.out; omega)]; rfl, HB.out⟩

end Go.Proofs.YtekfjcaihocmmaaGreatDoor

/- ratchet: whether a node may be a parent; whether a tree may be. -/
namespace Go.Proofs.YtekfjcaihocmmaaGreatDoor
open Go.RowKit Go.KK
set_option linter.unusedVariables false
set_option linter.unusedSimpArgs false

theorem below_new {B : Nat} {a wr w2 : World} {o : Obj} (h : Below B a wr) (hB : B ≤ wr.heap.size) (hb : Below (wr.alloc o).heap.size (wr.alloc o) w2) : Below B a w2 ∧ wr.heap.size + 1 ≤ w2.heap.size := by
  have h1 := hb.size
  rw [World.size_alloc] at h1
  exact ⟨(h.alloc hB o).trans (hb.mono (by rw [World.size_alloc]; omega)), h1⟩
theorem new_cell {w w2 : World} {xs : Array Value} {t : TypeId} (hb : Below (w.alloc (.cells xs t)).heap.size (w.alloc (.cells xs t)) w2) (i : Nat) : w2.cell? ⟨w.heap.size, i, none⟩ = xs[i]? := by
  rw [hb.cell (p := ⟨w.heap.size, i, none⟩) (by rw [World.size_alloc]; exact Nat.lt_succ_self _), World.cell?_alloc_at xs t _ i rfl]
/-- All lists of a tree are short. -/
def Shorts (xs : List TN) : Prop := ∀ (j : Nat) (q : TN), xs[j]? = some q → q.u.length ≤ 2147483648

theorem parent_any (A : Option Addr) (n c : Nat) (xs : List TN) (x : Int) (k i e s h : Int) (u : List Int) (B : Option Addr) (m d : Nat) (w : World) (hs : SlA w 1 B m d (u.map (.int .i64))) (hm47 : m ≤ 2147483648) (h0 : Tr w A n c xs) (hnm : n ≤ 600) (hx0 : 0 ≤ x) (hx1 : x ≤ 510) (hf : fullN (lvN n) = true) (hT : Tab w) (hu : Shorts xs) :
    Calls Tryz.prog 195 #[.slice A n c, .int .i64 x, .agg #[.int .i64 k, .int .i64 i, .int .i64 e, .int .i64 s, .int .i64 h, .slice B m d]] w fun r w' => r = .returned (.bool (parB xs x ⟨k, i, e, s, h, u⟩)) ∧ Below w.heap.size w w' := by
  by_cases hk : k = 2
  · subst hk
    by_cases hi : i = 0
    · subst hi
      by_cases hss : s = 0
      · subst hss
        rcases hso : sortB u with _ | _
        · have hp : parB xs x ⟨2, 0, e, 0, h, u⟩ = false := by unfold parB riseB; simp [hso]
          rw [hp]; exact parent_o A n c x e h u B m d w hs hm47 hso
        · rcases hr : riseB u with _ | _
          · have hp : parB xs x ⟨2, 0, e, 0, h, u⟩ = false := by unfold parB; simp [hr]
            rw [hp]; exact parent_c A n c x e h u B m d w hs hm47 hso hr
          · have hp : parB xs x ⟨2, 0, e, 0, h, u⟩ = u.all (oneB xs x) := by unfold parB; simp [hr]
            rw [hp]; exact parent_go A n c xs x e h u B m d w hs hm47 hr h0 hnm hx0 hx1 hf hT hu
      · have hp : parB xs x ⟨2, 0, e, s, h, u⟩ = false := by unfold parB; simp [hss]
        rw [hp]; exact parent_s A n c x e s h B m d w hss
    · have hp : parB xs x ⟨2, i, e, s, h, u⟩ = false := by unfold parB; simp [hi]
      rw [hp]; exact parent_i A n c x i e s h B m d w hi
  · have hp : parB xs x ⟨k, i, e, s, h, u⟩ = false := by unfold parB; simp [hk]
    rw [hp]; exact parent_k A n c x k i e s h B m d w hk

/-- A node may stand at its place. -/
def okB (xs : List TN) (j : Nat) (x : TN) : Bool :=
  if x.k = 0 then (orN x.k x.i x.e x.s x.h == 0 && ((x.u.length : Nat) : Int) == 0)
  else if (j : Int) % 2 = 0 then (x.k == 1 && ((x.u.length : Nat) : Int) == 0) else parB xs j x
def okAt (xs : List TN) (j : Nat) : Bool := match xs[j]? with | some x => okB xs j x | none => true
/-- A tree may be. -/
def chkB (xs : List TN) : Bool := fullN (lvN xs.length) && (2 * (lvN xs.length : Int) - 1 == (xs.length : Int)) && !halfB xs && (List.range xs.length).all (okAt xs)

def allR (xs : List TN) : Int := if (List.range xs.length).all (okAt xs) then 0 else 1
theorem allR_yes {xs : List TN} (h : ∀ k, k < xs.length → okAt xs k = true) : allR xs = 0 := by
  unfold allR; rw [if_pos (List.all_eq_true.2 fun k hk => h k (List.mem_range.1 hk))]
theorem allR_no {xs : List TN} {k : Nat} (hk : k < xs.length) (h : okAt xs k = false) : allR xs = 1 := by
  unfold allR; rw [if_neg fun hh => by rw [List.all_eq_true.1 hh k (List.mem_range.2 hk)] at h; cases h]
theorem check_no (A : Option Addr) (n c : Nat) (xs : List TN) (w : World) (h : Tr w A n c xs) (hnm : n ≤ 600) (hno : fullN (lvN n) = false ∨ fullN (lvN n) = true ∧ 2 * (lvN n : Int) - 1 ≠ n ∨ fullN (lvN n) = true ∧ 2 * (lvN n : Int) - 1 = n ∧ halfB xs = true) :
    Calls Tryz.prog 116 #[.slice A n c] w fun e w' => e = .returned (.int .i64 1) ∧ Below w.heap.size w w' := by
  rcases hno with hno | ⟨hf, hno⟩ | ⟨hf, hno, hh⟩
  · go_enter Tryz.func116, Tryz.ntmps116
    go_wp2_with (first
      | (go_at_call 131; refine (leavesT_any _ n c _ hnm).mono ?_; rintro e w' ⟨rfl, hw'⟩; subst w')
      | (go_at_call 193; refine (width_any _ _).mono ?_; rintro e w1 ⟨rfl, hb⟩; rw [hno]))
    go_ret
    exact ⟨rfl, hb⟩
  · have hne : ((2 * (lvN n : Int) - 1) != (n : Int)) = true := bne_iff_ne.2 hno
    go_enter Tryz.func116, Tryz.ntmps116
    go_wp2_with (first
      | (go_at_call 131; refine (leavesT_any _ n c _ hnm).mono ?_; rintro e w' ⟨rfl, hw'⟩; subst w')
      | (go_at_call 193; refine (width_any _ _).mono ?_; rintro e w1 ⟨rfl, hb⟩; rw [hf]))
    go_ret
    exact ⟨rfl, hb⟩
  · have hne : ((2 * (lvN n : Int) - 1) != (n : Int)) = false := by rw [hno]; simp
    clear hno
    have HH := hid h; clear h
    go_enter Tryz.func116, Tryz.ntmps116
    go_wp2_with (first
      | (go_at_call 131; refine (leavesT_any _ n c _ hnm).mono ?_; rintro e w' ⟨rfl, hw'⟩; subst w')
      | (go_at_call 193; refine (width_any _ _).mono ?_; rintro e w1 ⟨rfl, hb⟩; rw [hf]; have HB := hid hb; clear hb)
      | (go_at_call 129; refine (half_any _ n c xs _ (HH.out.ext HB.out) hnm).mono ?_; rintro e w' ⟨rfl, hw'⟩; subst w'; rw [hh]))
    go_ret
    exact ⟨rfl, HB.out⟩

set_option maxHeartbeats 1000000 in
theorem check_go (A : Option Addr) (n c : Nat) (xs : List TN) (w : World) (h : Tr w A n c xs) (hnm : n ≤ 600) (hf : fullN (lvN n) = true) (hn : 2 * (lvN n : Int) - 1 = n) (hh : halfB xs = false) (hT : Tab w) (hu : Shorts xs) :
    Calls Tryz.prog 116 #[.slice A n c] w fun e w' => e = .returned (.int .i64 (allR xs)) ∧ Below w.heap.size w w' := by
  have hne : ((2 * (lvN n : Int) - 1) != (n : Int)) = false := by rw [hn]; simp
  have hn2 : n ≤ 511 := by have := fullN_le hf; omega
  clear hn
  have HL := hid h.len
  have HT := hid hT; have HU := hid hu; have H0 := hid h
  clear h hT hu
  go_enter Tryz.func116, Tryz.ntmps116
  go_wp2_with (first
    | (go_at_call 131; refine (leavesT_any _ n c _ hnm).mono ?_; rintro e w' ⟨rfl, hw'⟩; subst w')
    | (go_at_call 193; refine (width_any _ _).mono ?_; rintro e w1 ⟨rfl, hb⟩; rw [hf]; have HB := hid hb; clear hb)
    | (go_at_call 129; refine (half_any _ n c xs _ (H0.out.ext HB.out) hnm).mono ?_; rintro e w' ⟨rfl, hw'⟩; subst w'; rw [hh]))
  have HF := hid hf; clear hf hh hne
  go_loopw [28, 2] (fun i _ wr => ∃ j : Nat, i = .int .i64 j ∧ j ≤ n ∧ Hid (∀ k, k < j → okAt xs k = true) ∧ Below w.heap.size w wr) (fun i _ _ => n - (intOf i).toNat)
  case atStart => exact ⟨0, rfl, by omega, hid (fun k hk => by omega), HB.out⟩
  case round =>
    obtain ⟨j, hi, hj, HJ, hbr⟩ := hrel
    subst hi
    have HBr := hid hbr; clear hbr
    by_cases hlt : j < n
    · obtain ⟨b0, o0, q, Aq, cq, rfl, hq, c0, c1, c2, c3, c4, c5, hsq⟩ := (H0.out.ext HBr.out).at hlt
      have hqu := HU.out _ _ hq
      have HO := hid (show okAt xs j = okB xs j q by unfold okAt; rw [hq])
      have HSQ := hid hsq
      clear hq hsq
      have hzr := HBr.out.size
      by_cases hk0 : q.k = 0
      · have hk0' : (q.k == 0) = true := beq_iff_eq.2 hk0
        have hok : okB xs j q = (orN q.k q.i q.e q.s q.h == 0 && ((q.u.length : Nat) : Int) == 0) := by unfold okB; rw [if_pos hk0]
        rcases hv : (orN q.k q.i q.e q.s q.h == 0 && ((q.u.length : Nat) : Int) == 0) with _ | _
        · have HN := hid (HO.out.trans (hok.trans hv)); clear hok hk0
          go_wp2_with (first
            | (go_at_call 194; refine (zero_any _ _ _ _ _ _ _ _ _).mono ?_; rintro e2 w2 ⟨rfl, hb2⟩; rw [hv]; obtain ⟨hb3, hz3⟩ := below_new HBr.out HBr.out.size hb2; have k20 := new_cell hb2 0; have k21 := new_cell hb2 1; have k22 := new_cell hb2 2; have k23 := new_cell hb2 3; have k24 := new_cell hb2 4; have k25 := new_cell hb2 5; have HB2 := hid hb3; clear hb3 hb2))
          go_ret
          exact ⟨by rw [allR_no (by have := HL.out; omega) HN.out]; rfl, HB2.out⟩
        · have HN := hid (HO.out.trans (hok.trans hv)); clear hok hk0
          go_wp2_with (first
            | (go_at_call 194; refine (zero_any _ _ _ _ _ _ _ _ _).mono ?_; rintro e2 w2 ⟨rfl, hb2⟩; rw [hv]; obtain ⟨hb3, hz3⟩ := below_new HBr.out HBr.out.size hb2; have k20 := new_cell hb2 0; have k21 := new_cell hb2 1; have k22 := new_cell hb2 2; have k23 := new_cell hb2 3; have k24 := new_cell hb2 4; have k25 := new_cell hb2 5; have HB2 := hid hb3; clear hb3 hb2))
          go_roundw
          case rel => exact ⟨j + 1, by go_num, by omega, hid (fun k hk => by
            by_cases hkj : k < j
            · exact HJ.out k hkj
            · rw [show k = j by omega]; exact HN.out), HB2.out⟩
          case measure => simp [intOf]; omega
      · have hk0' : (q.k == 0) = false := beq_eq_false_iff_ne.2 hk0
        by_cases hj2 : (j : Int) % 2 = 0
        · have hj2' : ((j : Int) % 2 == 0) = true := beq_iff_eq.2 hj2
          have hok : okB xs j q = (q.k == 1 && ((q.u.length : Nat) : Int) == 0) := by unfold okB; rw [if_neg hk0, if_pos hj2]
          rcases hv : (q.k == 1 && ((q.u.length : Nat) : Int) == 0) with _ | _
          · have HN := hid (HO.out.trans (hok.trans hv)); clear hok hk0 hj2
            go_wp2_with (first
              | (go_at_call 194; refine (zero_any _ _ _ _ _ _ _ _ _).mono ?_; rintro e2 w2 ⟨rfl, hb2⟩; obtain ⟨hb3, hz3⟩ := below_new HBr.out HBr.out.size hb2; have k20 := new_cell hb2 0; have k21 := new_cell hb2 1; have k22 := new_cell hb2 2; have k23 := new_cell hb2 3; have k24 := new_cell hb2 4; have k25 := new_cell hb2 5; have HB2 := hid hb3; clear hb3 hb2)
              | (go_at_call 127; refine (leaf_any _ _ _ _ _ _ _ _ _).mono ?_; rintro e4 w4 ⟨rfl, hb4⟩; rw [hv]; have HB4 := hid (HB2.out.trans (hb4.mono HB2.out.size)); clear hb4))
            go_ret
            exact ⟨by rw [allR_no (by have := HL.out; omega) HN.out]; rfl, HB4.out⟩
          · have HN := hid (HO.out.trans (hok.trans hv)); clear hok hk0 hj2
            go_wp2_with (first
              | (go_at_call 194; refine (zero_any _ _ _ _ _ _ _ _ _).mono ?_; rintro e2 w2 ⟨rfl, hb2⟩; obtain ⟨hb3, hz3⟩ := below_new HBr.out HBr.out.size hb2; have k20 := new_cell hb2 0; have k21 := new_cell hb2 1; have k22 := new_cell hb2 2; have k23 := new_cell hb2 3; have k24 := new_cell hb2 4; have k25 := new_cell hb2 5; have HB2 := hid hb3; clear hb3 hb2)
              | (go_at_call 127; refine (leaf_any _ _ _ _ _ _ _ _ _).mono ?_; rintro e4 w4 ⟨rfl, hb4⟩; rw [hv]; have HB4 := hid (HB2.out.trans (hb4.mono HB2.out.size)); clear hb4))
            go_roundw
            case rel => exact ⟨j + 1, by go_num, by omega, hid (fun k hk => by
              by_cases hkj : k < j
              · exact HJ.out k hkj
              · rw [show k = j by omega]; exact HN.out), HB4.out⟩
            case measure => simp [intOf]; omega

        · have hj2' : ((j : Int) % 2 == 0) = false := beq_eq_false_iff_ne.2 hj2
          have hok : okB xs j q = parB xs j q := by unfold okB; rw [if_neg hk0, if_neg hj2]
          rcases hv : parB xs j q with _ | _
          · have HN := hid (HO.out.trans (hok.trans hv)); clear hok hk0 hj2
            go_wp2_with (first
              | (go_at_call 194; refine (zero_any _ _ _ _ _ _ _ _ _).mono ?_; rintro e2 w2 ⟨rfl, hb2⟩; obtain ⟨hb3, hz3⟩ := below_new HBr.out HBr.out.size hb2; have k20 := new_cell hb2 0; have k21 := new_cell hb2 1; have k22 := new_cell hb2 2; have k23 := new_cell hb2 3; have k24 := new_cell hb2 4; have k25 := new_cell hb2 5; have HB2 := hid hb3; have HBX := hid (((Below.refl wr.heap.size wr).alloc (Nat.le_refl _) _).trans (hb2.mono (by rw [World.size_alloc]; omega))); clear hb3 hb2)
              | (go_at_call 195; refine (parent_any _ n c xs j _ _ _ _ _ q.u _ _ _ _ (HSQ.out.ext HBX.out) hqu (H0.out.ext HB2.out) hnm (by omega) (by omega) HF.out (HT.out.ext HB2.out) HU.out).mono ?_; rintro e4 w4 ⟨rfl, hb4⟩; rw [hv]; have HB4 := hid (HB2.out.trans (hb4.mono HB2.out.size)); clear hb4))
            go_ret
            exact ⟨by rw [allR_no (by have := HL.out; omega) HN.out]; rfl, HB4.out⟩
          · have HN := hid (HO.out.trans (hok.trans hv)); clear hok hk0 hj2
            go_wp2_with (first
              | (go_at_call 194; refine (zero_any _ _ _ _ _ _ _ _ _).mono ?_; rintro e2 w2 ⟨rfl, hb2⟩; obtain ⟨hb3, hz3⟩ := below_new HBr.out HBr.out.size hb2; have k20 := new_cell hb2 0; have k21 := new_cell hb2 1; have k22 := new_cell hb2 2; have k23 := new_cell hb2 3; have k24 := new_cell hb2 4; have k25 := new_cell hb2 5; have HB2 := hid hb3; have HBX := hid (((Below.refl wr.heap.size wr).alloc (Nat.le_refl _) _).trans (hb2.mono (by rw [World.size_alloc]; omega))); clear hb3 hb2)
              | (go_at_call 195; refine (parent_any _ n c xs j _ _ _ _ _ q.u _ _ _ _ (HSQ.out.ext HBX.out) hqu (H0.out.ext HB2.out) hnm (by omega) (by omega) HF.out (HT.out.ext HB2.out) HU.out).mono ?_; rintro e4 w4 ⟨rfl, hb4⟩; rw [hv]; have HB4 := hid (HB2.out.trans (hb4.mono HB2.out.size)); clear hb4))
            go_roundw
            case rel => exact ⟨j + 1, by go_num, by omega, hid (fun k hk => by
              by_cases hkj : k < j
              · exact HJ.out k hkj
              · rw [show k = j by omega]; exact HN.out), HB4.out⟩
            case measure => simp [intOf]; omega
    · go_wp2
      go_ret
      exact ⟨by rw [allR_yes fun k hk => HJ.out k (by have := HL.out; omega)]; rfl, HBr.out⟩

end Go.Proofs.YtekfjcaihocmmaaGreatDoor

