import Derived.Test.YtfmkniakfgpgjaaGreatDoorY15
import Derived.Test.YtfmkniakfgpgjaaGreatDoorY08
import Derived.Test.YtfmkniakfgpgjaaGreatDoorY13
import Derived.Test.YtfmkniakfgpgjaaGreatDoorY01
/- nodes' law: live. -/
namespace Go.Proofs.YtfmkniakfgpgjaaGreatDoor
open Go.RowKit Go.KK Go.Shelf Go.Maps
set_option linter.unusedVariables false
set_option linter.unusedSimpArgs false

/-- The epoch's box, cell by cell. -/
theorem box11 {V : World} {b0 : Nat} {e0 e1 e2 e3 e4 e5 e6 e7 e8 e9 e10 : Int} (h : HasO (.cells #[.int .i64 e0, .int .i64 e1, .int .i64 e2, .int .i64 e3, .int .i64 e4, .int .i64 e5, .int .i64 e6, .int .i64 e7, .int .i64 e8, .int .i64 e9, .int .i64 e10] 29 (0, 0)) b0 V) : V.cell? ⟨b0, 0, none⟩ = some (.int .i64 e0) ∧ V.cell? ⟨b0, 1, none⟩ = some (.int .i64 e1) ∧ V.cell? ⟨b0, 2, none⟩ = some (.int .i64 e2) ∧ V.cell? ⟨b0, 3, none⟩ = some (.int .i64 e3) ∧ V.cell? ⟨b0, 4, none⟩ = some (.int .i64 e4) ∧ V.cell? ⟨b0, 5, none⟩ = some (.int .i64 e5) ∧ V.cell? ⟨b0, 6, none⟩ = some (.int .i64 e6) ∧ V.cell? ⟨b0, 7, none⟩ = some (.int .i64 e7) ∧ V.cell? ⟨b0, 8, none⟩ = some (.int .i64 e8) ∧ V.cell? ⟨b0, 9, none⟩ = some (.int .i64 e9) ∧ V.cell? ⟨b0, 10, none⟩ = some (.int .i64 e10) := by
  refine ⟨?_, ?_, ?_, ?_, ?_, ?_, ?_, ?_, ?_, ?_, ?_⟩ <;> (rw [cell_of_row _ b0 _ _ _ (0, 0) h]; rfl)
def q0 : List Value := [.slice none 0 0, .slice none 0 0, .slice none 0 0]
theorem trq0 {V : World} {A : Option Addr} (h : SlA V 6 A 3 3 (ncs lt0 q0)) : TrQ V A 3 3 lt0 q0 := by
  refine ⟨rfl, h, fun j x q hx hq => ?_⟩
  have : j = 0 ∨ j = 1 ∨ j = 2 := by have := (List.getElem?_eq_some_iff.1 hx).1; change j < 3 at this; omega
  rcases this with rfl | rfl | rfl <;> (injection hx with hx; injection hq with hq; subst hx; subst hq; exact ⟨none, 0, rfl, SlA.nil _ _⟩)
theorem lt0_i : ∀ m ∈ lt0, TnI m := by
  intro m hm
  have h : ∀ i : Int, 0 ≤ i → i ≤ 100 → I64 i := fun i h0 h1 => ⟨by omega, by omega⟩
  simp only [lt0, List.mem_cons, List.mem_nil_iff, or_false] at hm
  rcases hm with rfl | rfl | rfl <;> exact ⟨h _ (by decide) (by decide), h _ (by decide) (by decide), h _ (by decide) (by decide), h _ (by decide) (by decide), h _ (by decide) (by decide), fun i hi => by simp at hi⟩
theorem lt0_u : ∀ m ∈ lt0, m.u.length ≤ 1000 := by decide
theorem lt0_same : sameT lt0 (lt0.map nrm) = true := by decide
theorem lt0_short : Shorts lt0 ∧ Shorts (lt0.map nrm) := by
  have h : ∀ t : List TN, (∀ m ∈ t, m.u.length ≤ 1000) → Shorts t := fun t ht j q hq => by have := ht q (List.mem_of_getElem? hq); omega
  exact ⟨h _ lt0_u, h _ (by decide)⟩
set_option maxHeartbeats 4000000 in
set_option maxRecDepth 100000 in
theorem live22_any (w : World) (hT : Tb w.heap.size w) : Calls Tryz.prog 8 #[] w fun e w' => e = .returned (.bool true) ∧ Below w.heap.size w w' := by
  have HT := hid hT
  clear hT
  go_enter Tryz.func8, Tryz.ntmps8
  go_wp2_with fail
  refine (two22_any w HT.out).mono ?_
  rintro e w3 ⟨sa, sb, Z, Z', X, ep, rfl, hE, htx⟩
  have HE := hid hE
  obtain ⟨e0, e1, e2, e3, e4, e5, e6, e7, e8, e9, e10, rfl⟩ := len11 hE.len
  have HP := hid (two_box htx.a (.cells #[.int .i64 e0, .int .i64 e1, .int .i64 e2, .int .i64 e3, .int .i64 e4, .int .i64 e5, .int .i64 e6, .int .i64 e7, .int .i64 e8, .int .i64 e9, .int .i64 e10] 29) (.cells #[.int .i64 e0, .int .i64 e1, .int .i64 e2, .int .i64 e3, .int .i64 e4, .int .i64 e5, .int .i64 e6, .int .i64 e7, .int .i64 e8, .int .i64 e9, .int .i64 e10] 29))
  clear hE htx
  unfold epV
  go_upto_region 2 with fail
  generalize w3.heap.size = b0 at *
  refine forget (R := fun V => LA w V Z sa X ∧ HasO (.cells #[.int .i64 e0, .int .i64 e1, .int .i64 e2, .int .i64 e3, .int .i64 e4, .int .i64 e5, .int .i64 e6, .int .i64 e7, .int .i64 e8, .int .i64 e9, .int .i64 e10] 29 (0, 0)) b0 V ∧ ¬ Z b0 ∧ w.heap.size ≤ b0) ?_ HP.out
  clear HP
  rintro V ⟨hla, hbx, hzb, hwb⟩
  have HL := hid hla; have HB := hid hbx; have HZ := hid hzb
  clear hla hbx hzb hwb
  obtain ⟨k0, k1, k2, k3, k4, k5, k6, k7, k8, k9, k10⟩ := box11 (HB.out.alloc (o' := .cells #[.int .i64 1, .int .i64 3, .int .i64 4, .int .i64 5, .int .i64 6, .slice none 0 0, .int .i64 0, .int .i64 0, .int .i64 0, .int .i64 0, .int .i64 0, .slice none 0 0, .int .i64 0, .int .i64 0, .int .i64 0, .int .i64 0, .int .i64 0, .slice none 0 0] 46))
  have HLT := hid (HL.out.alloc (.cells #[.int .i64 1, .int .i64 3, .int .i64 4, .int .i64 5, .int .i64 6, .slice none 0 0, .int .i64 0, .int .i64 0, .int .i64 0, .int .i64 0, .int .i64 0, .slice none 0 0, .int .i64 0, .int .i64 0, .int .i64 0, .int .i64 0, .int .i64 0, .slice none 0 0] 46))
  have HO := hid (World.ownsRow_lit (e := 46) (base := 0) (size := 6) V #[.int .i64 1, .int .i64 3, .int .i64 4, .int .i64 5, .int .i64 6, .slice none 0 0, .int .i64 0, .int .i64 0, .int .i64 0, .int .i64 0, .int .i64 0, .slice none 0 0, .int .i64 0, .int .i64 0, .int .i64 0, .int .i64 0, .int .i64 0, .slice none 0 0] 3 (Nat.zero_le _) (by unfold maxLen; omega) rfl)
  have HNZ := hid (show ¬ Z V.heap.size from fun hz => by have := HL.out.ar.zlt _ hz; omega)
  have HFT := hid (show Fx (V.alloc (.cells #[.int .i64 1, .int .i64 3, .int .i64 4, .int .i64 5, .int .i64 6, .slice none 0 0, .int .i64 0, .int .i64 0, .int .i64 0, .int .i64 0, .int .i64 0, .slice none 0 0, .int .i64 0, .int .i64 0, .int .i64 0, .int .i64 0, .int .i64 0, .slice none 0 0] 46)) Z fun U => TrQ U (some ⟨V.heap.size, 0, none⟩) 3 3 lt0 q0 from
    (fx_own HO.out (fun b hb => by injection hb with hb; simp only at hb; subst hb; exact HNZ.out)).mono fun U hU => trq0 (SlA.of_own hU).2)
  have HFB := hid (fx_has (Z := Z) (HB.out.alloc (o' := .cells #[.int .i64 1, .int .i64 3, .int .i64 4, .int .i64 5, .int .i64 6, .slice none 0 0, .int .i64 0, .int .i64 0, .int .i64 0, .int .i64 0, .int .i64 0, .slice none 0 0, .int .i64 0, .int .i64 0, .int .i64 0, .int .i64 0, .int .i64 0, .slice none 0 0] 46)) HZ.out)
  have HLK := hid (lock_any HLT.out HT.out HE.out.len HE.out.i5 (cx := 7) (i64_lit (by decide) (by decide)) HFT.out lt0_i lt0_u (by omega))
  rw [epV11, HE.out.lv] at HLK
  have HLKD := hid (lock_ok HE.out.lv)
  have HLEN := hid (lock_len (X := X) [e0, e1, e2, e3, e4, e5, e6, e7, e8, e9, e10] 7 lt0 (k := 0) (by decide))
  have HEX := hid (lock_ext X [e0, e1, e2, e3, e4, e5, e6, e7, e8, e9, e10] 7 lt0); have HE5 := hid (nx_has HE.out.nx HL.out.ar.ok).2
  generalize lockF X [e0, e1, e2, e3, e4, e5, e6, e7, e8, e9, e10] 7 lt0 = r at *
  generalize beI X [e0, e1, e2, e3, e4, e5, e6, e7, e8, e9, e10] 7 = ex at *
  obtain ⟨Y, l, er⟩ := r
  have HLL := hid HLKD.out.ll
  change Hid (l.length = 3) at HLL
  dsimp only at HLK HLKD HLEN HEX
  rw [HLL.out] at HLK
  clear HL HB HZ HO HNZ
  generalize hbt : V.heap.size = bt at *
  go_wp2_with fail
  refine HLK.out.mono ?_
  rintro e w4 ⟨Z4, v, rfl, l4, m4, o4, z4⟩
  obtain ⟨A4, c4, rfl⟩ := own_shape o4
  have HL4 := hid l4
  have HFL4 := hid ((fx_own o4 z4).mono fun U hU => (SlA.of_own hU).2)
  have HFT4 := hid (HFT.out.mv m4); have HFB4 := hid (HFB.out.mv m4)
  clear l4 o4 z4 m4 HLK HLT HFT HFB k0 k1 k2 k3 k4 k5 k6 k7 k8 k9 k10
  have HOK := hid HL4.out.ar.ok
  have HBA := hid (be_again HOK.out HLKD.out.xp)
  have HOP := hid (open_any HL4.out HT.out HE.out.len HE.out.i5 (cx := 7) (i64_lit (by decide) (by decide)) HFL4.out (by omega) (m := 3) (t := lt0) (Nat.le_refl _) rfl (by rw [HBA.out.1]) (fun j hj => by rw [HBA.out.1, HBA.out.2]; exact HLKD.out.at' j hj) (fun q hq => ⟨badN_g (HLKD.out.good q hq), lt0_u q hq⟩) (.inl rfl))
  rw [epV11, HBA.out.1] at HOP
  unfold OpS at HOP
  obtain ⟨k0, k1, k2, k3, k4, k5, k6, k7, k8, k9, k10⟩ := box11 HFB4.out.here
  go_wp2_with fail
  refine HOP.out.mono ?_
  rintro e w5 ⟨Z5, m5, ⟨-, l5, v5, qs5, rfl, hou⟩ | ⟨hlt, -⟩⟩
  rotate_left
  · exact absurd hlt (Nat.lt_irrefl _)
  obtain ⟨A5, c5, rfl, fx5⟩ := hou.fx
  have HL5 := hid l5; have HFU5 := hid fx5
  have HFL5 := hid (HFL4.out.mv m5); have HFT5 := hid (HFT4.out.mv m5); have HFB5 := hid (HFB4.out.mv m5)
  clear l5 fx5 hou m5 HOP HFL4 HFT4 HFB4 HL4 k0 k1 k2 k3 k4 k5 k6 k7 k8 k9 k10
  obtain ⟨mx, rfl⟩ := HEX.out
  have HNO := hid (no_open (ep := [e0, e1, e2, e3, e4, e5, e6, e7, e8, e9, e10]) (m := 0) rfl (HLKD.out.at' 0 (by decide)) (cx' := 8) (has_iff.2 ⟨by decide, by have := HE.out.lo; rw [List.length_append]; omega⟩) (has_ext HE5.out mx) (by have h1 := HLEN.out; have := HE.out.sm; rw [show lt0.length = 3 from rfl] at h1; omega) (by decide) (.inr (.inr (by decide))))
  have HOP := hid (open_any HL5.out HT.out HE.out.len HE.out.i5 (cx := 8) (i64_lit (by decide) (by decide)) HFL5.out (by omega) (m := 0) (t := []) (Nat.zero_le _) rfl HNO.out.1 (fun j hj => absurd hj (Nat.not_lt_zero _)) (fun q hq => by simp at hq) (.inr ⟨by decide, HNO.out.2⟩))
  rw [epV11] at HOP
  unfold OpS at HOP
  clear HNO
  generalize beF (X ++ mx) [e0, e1, e2, e3, e4, e5, e6, e7, e8, e9, e10] 8 = B8 at *
  generalize beI (X ++ mx) [e0, e1, e2, e3, e4, e5, e6, e7, e8, e9, e10] 8 = I8 at *
  obtain ⟨k0, k1, k2, k3, k4, k5, k6, k7, k8, k9, k10⟩ := box11 HFB5.out.here
  go_wp2_with fail
  refine HOP.out.mono ?_
  rintro e w6 ⟨Z6, m6, ⟨h0, -⟩ | ⟨-, l6, rfl⟩⟩
  · exact absurd h0 (by decide)
  have HB6 := hid l6.bl
  have HFU6 := hid (HFU5.out.mv m6); have HFT6 := hid (HFT5.out.mv m6)
  clear l6 m6 HOP HFL5 HFB5 HL5 HFT5 HFU5 k0 k1 k2 k3 k4 k5 k6 k7 k8 k9 k10
  have HSA := hid (rsame_any _ _ _ lt0 _ _ _ (lt0.map nrm) w6 HFT6.out.here.tr HFU6.out.here.tr (by omega) (by decide) lt0_short.1 lt0_short.2)
  rw [lt0_same] at HSA
  go_wp2_with fail
  refine HSA.out.mono ?_
  rintro e w7 ⟨rfl, b7⟩
  have HB7 := hid (HB6.out.trans (b7.mono HB6.out.size))
  clear b7 HSA HFU6 HFT6
  have HC0 := hid (sla_row (w := w7) (T := 3) #[.int .i64 1, .int .i64 2] (by unfold maxLen; simp))
  have HC1 := hid (show SlA ((w7.alloc (.cells #[.int .i64 1, .int .i64 2] 3)).alloc (.cells #[.int .i64 1, .int .i64 3, .int .i64 4] 3)) 1 (some ⟨w7.heap.size + 1, 0, none⟩) 3 3 [.int .i64 1, .int .i64 3, .int .i64 4] from by
    have h := sla_row (w := w7.alloc (.cells #[.int .i64 1, .int .i64 2] 3)) (T := 3) #[.int .i64 1, .int .i64 3, .int .i64 4] (by unfold maxLen; simp)
    rw [size_al] at h
    exact h)
  have HCH := hid (changed_any (some ⟨w7.heap.size, 0, none⟩) 2 2 [1, 2] (some ⟨w7.heap.size + 1, 0, none⟩) 3 3 [1, 3, 4] _ (HC0.out.alloc (.cells #[.int .i64 1, .int .i64 3, .int .i64 4] 3)) HC1.out (by omega) (by omega))
  rw [show chF [1, 2] [1, 3, 4] = [1, 2] from by decide] at HCH
  have HB8 := hid (((HB7.out.alloc HB7.out.size (.cells #[.int .i64 1, .int .i64 2] 3)).alloc (HB7.out.alloc HB7.out.size _).size (.cells #[.int .i64 1, .int .i64 3, .int .i64 4] 3)))
  clear HC0 HC1 HB6 HB7
  go_wp2_with fail
  refine HCH.out.mono ?_
  rintro e w8 ⟨v8, rfl, o8, b8⟩
  obtain ⟨A8, c8, rfl, s8⟩ := SlA.owned o8
  have HB9 := hid (HB8.out.trans (b8.mono HB8.out.size))
  have HSI := hid (same_ints A8 2 c8 [1, 2] (some ⟨w8.heap.size, 0, none⟩) 2 2 [1, 2] (w8.alloc (.cells #[.int .i64 1, .int .i64 2] 3)) (SlA.alloc (show SlA w8 1 A8 2 c8 ([1, 2].map (.int .i64)) from s8) _) (sla_row (w := w8) (T := 3) #[.int .i64 1, .int .i64 2] (by unfold maxLen; simp)) (by omega) (by omega))
  rw [show (([1, 2] : List Int) == [1, 2]) = true from by decide] at HSI
  clear o8 b8 s8 HB8 HCH
  go_wp2_with fail
  refine HSI.out.mono ?_
  rintro e w9 ⟨rfl, q9, rfl⟩
  have HBA := hid (below_drewN (HB9.out.alloc HB9.out.size (.cells #[.int .i64 1, .int .i64 2] 3)) q9)
  go_wp2_with fail
  go_ret
  exact ⟨rfl, HBA.out⟩
end Go.Proofs.YtfmkniakfgpgjaaGreatDoor

/- nodes' law: few. -/
namespace Go.Proofs.YtfmkniakfgpgjaaGreatDoor
open Go.RowKit Go.KK Go.Shelf Go.Maps
set_option linter.unusedVariables false
set_option linter.unusedSimpArgs false

/-- A tree is small. -/
def fewN (xs : List TN) : Bool := !((decide (70 < xs.length) && decide (xs.length ≤ 511)) || decide (600 < xs.length)) && xs.all fun x => decide (x.u.length ≤ 30)
/-- A value that reads as a tree. -/
def TrW22 (w : World) (v : Value) (xs : List TN) : Prop := ∃ A n c, v = .slice A n c ∧ Tr w A n c xs
theorem TrW22.ext {w w' : World} {v : Value} {xs : List TN} (h : TrW22 w v xs) (hb : Below w.heap.size w w') : TrW22 w' v xs := by
  obtain ⟨A, n, c, e, ht⟩ := h
  exact ⟨A, n, c, e, ht.ext hb⟩
set_option maxHeartbeats 1000000 in
theorem nfew_any (A : Option Addr) (m c : Nat) (vs : List Value) (ts : List (List TN)) (w : World) (h : SlA w 1 A m c vs) (hts : ts.length = m) (hm : m ≤ 10) (hv : ∀ (j : Nat) v xs, vs[j]? = some v → ts[j]? = some xs → TrW22 w v xs) :
    Calls Tryz.prog 9 #[.slice A m c] w fun e w' => e = .returned (.bool (ts.all fewN)) ∧ Below w.heap.size w w' := by
  have H := hid h; have HT := hid hts; have HV := hid hv
  have HL := hid h.len
  clear h hts hv
  go_enter Tryz.func9, Tryz.ntmps9
  go_wp2
  go_loopw [9, 2] (fun i _ wr => ∃ j : Nat, i = .int .i64 j ∧ j ≤ m ∧ Hid (∀ k xs, k < j → ts[k]? = some xs → fewN xs = true) ∧ Below w.heap.size w wr) (fun i _ _ => m - (intOf i).toNat)
  case atStart => exact ⟨0, rfl, by omega, hid (fun k _ hk => by omega), Below.refl _ _⟩
  case round =>
    obtain ⟨j, hi, hj, HJ, hbr⟩ := hrel
    subst hi
    have HB := hid hbr; clear hbr
    by_cases hlt : j < m
    · obtain ⟨b, o, v, rfl, hu, hc⟩ := (H.out.ext HB.out).elem hlt
      have hx : ts[j]? = some (ts[j]'(by rw [HT.out]; exact hlt)) := List.getElem?_eq_getElem _
      generalize ts[j]'(by rw [HT.out]; exact hlt) = xs at hx
      obtain ⟨A2, n2, c2, rfl, htr⟩ := (HV.out j v xs hu hx).ext HB.out
      have HX := hid hx
      have hlen := htr.len
      have hnc := htr.nc
      have hmx : n2 ≤ 9223372036854775807 := by have := hnc.2; have := hnc.1; unfold maxLen at *; omega
      have HUU := hid hu
      have HLEN := hid hlen
      have hzr := HB.out.size
      clear hx hu htr hlen hnc
      have hno : fewN xs = false → ts.all fewN = false := fun h => by
        rcases hh : ts.all fewN with _ | _
        · rfl
        · have := List.all_eq_true.1 hh xs (List.mem_of_getElem? HX.out)
          rw [h] at this; cases this
      have HNO := hid hno
      clear hno
      by_cases hA : n2 ≤ 70
      · have HTEST := hid (show ((decide (70 < n2) && decide (n2 ≤ 511)) || decide (600 < n2)) = false by rw [decide_eq_false (by omega : ¬ 70 < n2), decide_eq_false (by omega : ¬ 600 < n2)]; rfl)
        go_wp2
        obtain ⟨wo, rfl⟩ : ∃ wo : World, wo = wr := ⟨_, rfl⟩
        go_loopw [28, 2] (fun i _ w2 => ∃ k : Nat, i = .int .i64 k ∧ k ≤ n2 ∧ Hid (∀ t x, t < k → xs[t]? = some x → x.u.length ≤ 30) ∧ Below w.heap.size w w2) (fun i _ _ => n2 - (intOf i).toNat)
        case atStart => exact ⟨0, rfl, by omega, hid (fun k _ hk => by omega), HB.out⟩
        case round =>
          obtain ⟨k, hi, hk, HK, hb2⟩ := hrel
          subst hi
          have HB2 := hid hb2; clear hb2
          have HTV := hid ((HV.out j _ xs HUU.out HX.out).ext HB2.out)
          by_cases hkn : k < n2
          · have htr2 : Tr wr A2 n2 c2 xs := by
              obtain ⟨A3, n3, c3, e, ht3⟩ := HTV.out
              injection e with e1 e2 e3
              subst e1; subst e2; subst e3
              exact ht3
            obtain ⟨b1, o1, x, A4, c4, rfl, hx, d0, d1, d2, d3, d4, d5, hsx⟩ := htr2.at hkn
            have hxm := hsx.cm
            have hxn := hsx.nc
            have hxl : x.u.length ≤ 9223372036854775807 := by unfold maxLen at hxm; omega
            have HXX := hid hx
            have hz2 := HB2.out.size
            clear hx hsx hxm hxn htr2
            by_cases h30 : x.u.length ≤ 30
            · go_wp2
              go_roundw
              case rel => exact ⟨k + 1, by go_num, by omega, hid (fun t y ht hy => by
                by_cases htk : t < k
                · exact HK.out t y htk hy
                · rw [show t = k by omega, HXX.out] at hy
                  injection hy with hy
                  rw [← hy]; exact h30), HB2.out.alloc hz2 _⟩
              case measure => simp [intOf]; omega
            · have HF := hid (HNO.out (by
                unfold fewN
                rcases hh : xs.all (fun x => decide (x.u.length ≤ 30)) with _ | _
                · rw [Bool.and_false]
                · have := List.all_eq_true.1 hh x (List.mem_of_getElem? HXX.out)
                  exact absurd (of_decide_eq_true this) h30))
              go_wp2
              go_ret
              exact ⟨by rw [HF.out]; rfl, HB2.out.alloc hz2 _⟩
          · have HF := hid (show fewN xs = true by
              unfold fewN
              rw [HLEN.out, HTEST.out, Bool.not_false, Bool.true_and, List.all_eq_true]
              intro x hx
              obtain ⟨t, ht, e⟩ := List.mem_iff_getElem.1 hx
              exact decide_eq_true (HK.out t x (by have := HLEN.out; omega) (by rw [← e]; exact List.getElem?_eq_getElem ht)))
            go_wp2
            go_roundw
            case rel => exact ⟨j + 1, by go_num, by omega, hid (fun t y ht hy => by
              by_cases htj : t < j
              · exact HJ.out t y htj hy
              · rw [show t = j by omega, HX.out] at hy
                injection hy with hy
                rw [← hy]; exact HF.out), HB2.out⟩
            case measure => simp [intOf]; omega
      · by_cases hC : n2 ≤ 511
        · have HTEST := hid (show ((decide (70 < n2) && decide (n2 ≤ 511)) || decide (600 < n2)) = true by rw [decide_eq_true (by omega : 70 < n2), decide_eq_true hC]; rfl)
          have HF := hid (HNO.out (by unfold fewN; rw [HLEN.out, HTEST.out]; rfl))
          go_wp2
          go_ret
          exact ⟨by rw [HF.out]; rfl, HB.out⟩
        · by_cases hD : n2 ≤ 600
          · have HTEST := hid (show ((decide (70 < n2) && decide (n2 ≤ 511)) || decide (600 < n2)) = false by rw [decide_eq_true (by omega : 70 < n2), decide_eq_false hC, decide_eq_false (by omega : ¬ 600 < n2)]; rfl)
            go_wp2
            obtain ⟨wo, rfl⟩ : ∃ wo : World, wo = wr := ⟨_, rfl⟩
            go_loopw [28, 2] (fun i _ w2 => ∃ k : Nat, i = .int .i64 k ∧ k ≤ n2 ∧ Hid (∀ t x, t < k → xs[t]? = some x → x.u.length ≤ 30) ∧ Below w.heap.size w w2) (fun i _ _ => n2 - (intOf i).toNat)
            case atStart => exact ⟨0, rfl, by omega, hid (fun k _ hk => by omega), HB.out⟩
            case round =>
              obtain ⟨k, hi, hk, HK, hb2⟩ := hrel
              subst hi
              have HB2 := hid hb2; clear hb2
              have HTV := hid ((HV.out j _ xs HUU.out HX.out).ext HB2.out)
              by_cases hkn : k < n2
              · have htr2 : Tr wr A2 n2 c2 xs := by
                  obtain ⟨A3, n3, c3, e, ht3⟩ := HTV.out
                  injection e with e1 e2 e3
                  subst e1; subst e2; subst e3
                  exact ht3
                obtain ⟨b1, o1, x, A4, c4, rfl, hx, d0, d1, d2, d3, d4, d5, hsx⟩ := htr2.at hkn
                have hxm := hsx.cm
                have hxn := hsx.nc
                have hxl : x.u.length ≤ 9223372036854775807 := by unfold maxLen at hxm; omega
                have HXX := hid hx
                have hz2 := HB2.out.size
                clear hx hsx hxm hxn htr2
                by_cases h30 : x.u.length ≤ 30
                · go_wp2
                  go_roundw
                  case rel => exact ⟨k + 1, by go_num, by omega, hid (fun t y ht hy => by
                    by_cases htk : t < k
                    · exact HK.out t y htk hy
                    · rw [show t = k by omega, HXX.out] at hy
                      injection hy with hy
                      rw [← hy]; exact h30), HB2.out.alloc hz2 _⟩
                  case measure => simp [intOf]; omega
                · have HF := hid (HNO.out (by
                    unfold fewN
                    rcases hh : xs.all (fun x => decide (x.u.length ≤ 30)) with _ | _
                    · rw [Bool.and_false]
                    · have := List.all_eq_true.1 hh x (List.mem_of_getElem? HXX.out)
                      exact absurd (of_decide_eq_true this) h30))
                  go_wp2
                  go_ret
                  exact ⟨by rw [HF.out]; rfl, HB2.out.alloc hz2 _⟩
              · have HF := hid (show fewN xs = true by
                  unfold fewN
                  rw [HLEN.out, HTEST.out, Bool.not_false, Bool.true_and, List.all_eq_true]
                  intro x hx
                  obtain ⟨t, ht, e⟩ := List.mem_iff_getElem.1 hx
                  exact decide_eq_true (HK.out t x (by have := HLEN.out; omega) (by rw [← e]; exact List.getElem?_eq_getElem ht)))
                go_wp2
                go_roundw
                case rel => exact ⟨j + 1, by go_num, by omega, hid (fun t y ht hy => by
                  by_cases htj : t < j
                  · exact HJ.out t y htj hy
                  · rw [show t = j by omega, HX.out] at hy
                    injection hy with hy
                    rw [← hy]; exact HF.out), HB2.out⟩
                case measure => simp [intOf]; omega
          · have HTEST := hid (show ((decide (70 < n2) && decide (n2 ≤ 511)) || decide (600 < n2)) = true by rw [decide_eq_true (by omega : 600 < n2), Bool.or_true])
            have HF := hid (HNO.out (by unfold fewN; rw [HLEN.out, HTEST.out]; rfl))
            go_wp2
            go_ret
            exact ⟨by rw [HF.out]; rfl, HB.out⟩
    · have HF := hid (show ts.all fewN = true from List.all_eq_true.2 fun xs hx => by
        obtain ⟨t, ht, e⟩ := List.mem_iff_getElem.1 hx
        exact HJ.out t xs (by have := HT.out; omega) (by rw [← e]; exact List.getElem?_eq_getElem ht))
      go_wp2
      go_ret
      exact ⟨by rw [HF.out]; rfl, HB.out⟩
end Go.Proofs.YtfmkniakfgpgjaaGreatDoor

/- nodes' law: NodesWrong walked. -/
namespace Go.Proofs.YtfmkniakfgpgjaaGreatDoor
open Go.RowKit Go.KK Go.Shelf Go.Maps
set_option linter.unusedVariables false
set_option linter.unusedSimpArgs false

theorem fewN_u {t : List TN} (h : fewN t = true) : ∀ m ∈ t, m.u.length ≤ 30 := by
  unfold fewN at h
  rw [Bool.and_eq_true, List.all_eq_true] at h
  exact fun m hm => of_decide_eq_true (h.2 m hm)
theorem Fx.zk {W : World} {Z : Nat → Prop} {P : World → Prop} (h : Fx W Z P) {g : Nat} (hg : W.heap.size ≤ g) : Fx W (Zk Z g) P := by
  obtain ⟨R, h1, h2⟩ := h
  exact ⟨R, fun b hb => ⟨fun hz => hz.elim (h1 b hb).1 fun e => by have := (h1 b hb).2; omega, (h1 b hb).2⟩, h2⟩
end Go.Proofs.YtfmkniakfgpgjaaGreatDoor

/- plain: what a term is made of, and how many terms (TermBelow). -/
namespace Go.KK
open Go.RowKit
set_option linter.unusedVariables false
set_option linter.unusedSimpArgs false

theorem nodup_le : ∀ (N : Nat) (M : List Int), M.Nodup → (∀ x ∈ M, 0 ≤ x ∧ x < N) → M.length ≤ N
  | 0, M, _, h => by
    cases M with
    | nil => simp
    | cons x M => have := h x (by simp); omega
  | N + 1, M, hn, h => by
    by_cases hm : (N : Int) ∈ M
    · have := nodup_le N (M.erase (N : Int)) (hn.erase _) fun x hx => by
        have h1 := h x (List.mem_of_mem_erase hx)
        have h2 : x ≠ (N : Int) := ((hn.mem_erase_iff).1 hx).1
        omega
      rw [List.length_erase_of_mem hm] at this
      omega
    · have := nodup_le N M hn fun x hx => by
        have h1 := h x hx
        have h2 : x ≠ (N : Int) := fun e => hm (e ▸ hx)
        omega
      omega
theorem sub_le {α : Type} [DecidableEq α] : ∀ (M M' : List α), M.Nodup → (∀ x ∈ M, x ∈ M') → M.length ≤ M'.length
  | [], _, _, _ => by simp
  | x :: M, M', hn, h => by
    have hx := h x (by simp)
    have h2 := List.nodup_cons.1 hn
    have := sub_le M (M'.erase x) h2.2 fun y hy => (List.mem_erase_of_ne (fun e => h2.1 (by rw [← e]; exact hy))).2 (h y (by simp [hy]))
    rw [List.length_erase_of_mem hx] at this
    have := List.length_pos_of_mem hx
    rw [List.length_cons]; omega
/-- A term is made of another one. -/
inductive Rch (xs : List ND) : Int → Int → Prop
  | self {t : Int} (h : hasB xs t = true) : Rch xs t t
  | step {t x y : Int} (h : Rch xs t x) (hy : y ∈ (nodeF xs x).l) : Rch xs t y
theorem nodeF_get {xs : List ND} {t : Int} (h : hasB xs t = true) : xs[t.toNat]? = some (nodeF xs t) := by
  have h2 := has_iff.1 h
  unfold nodeF
  rw [h, if_pos rfl, List.getD, List.getElem?_eq_getElem (by omega)]
  rfl
theorem part_lt {xs : List ND} (ok : Okay xs) {t x : Int} (h : hasB xs t = true) (hx : x ∈ (nodeF xs t).l) : 0 ≤ x ∧ x < t ∧ hasB xs x = true := by
  have h2 := has_iff.1 h
  have hm := ok.may _ _ (nodeF_get h)
  unfold mayB at hm
  simp only [Bool.and_eq_true, List.all_eq_true] at hm
  have h3 := has_iff.1 (hm.1.2 x hx)
  rw [List.length_take] at h3
  refine ⟨h3.1, by omega, has_iff.2 ⟨h3.1, by omega⟩⟩
theorem Rch.has {xs : List ND} (ok : Okay xs) {t x : Int} (h : Rch xs t x) : hasB xs t = true ∧ hasB xs x = true ∧ 0 ≤ x ∧ x ≤ t := by
  induction h with
  | self h => exact ⟨h, h, (has_iff.1 h).1, Int.le_refl _⟩
  | step h hy ih =>
    obtain ⟨a, b, c⟩ := part_lt ok ih.2.1 hy
    exact ⟨ih.1, c, a, by omega⟩
theorem Rch.trans {xs : List ND} {t x y : Int} (h : Rch xs t x) (k : Rch xs x y) : Rch xs t y := by
  induction k with
  | self _ => exact h
  | step _ hy ih => exact .step ih hy
/-- On the way: M is met, O is open, and of x (if any is being looked at) so many parts have been looked at. -/
structure Pt (xs : List ND) (t : Int) (M O : List Int) (x : Option Int) (k : Nat) : Prop where
  nd : M.Nodup
  tm : t ∈ M
  r : ∀ y ∈ M, Rch xs t y
  o : ∀ y ∈ O, y ∈ M
  c : ∀ z ∈ M, z ∉ O → x ≠ some z → ∀ y ∈ (nodeF xs z).l, y ∈ M
  x : ∀ z, x = some z → z ∈ M ∧ ∀ y ∈ (nodeF xs z).l.take k, y ∈ M
theorem Pt.pop {xs : List ND} {t x : Int} {M O : List Int} {k : Nat} (h : Pt xs t M (O ++ [x]) none k) : Pt xs t M O (some x) 0 := by
  refine ⟨h.nd, h.tm, h.r, fun y hy => h.o y (by simp [hy]), fun z hz hn hx => h.c z hz ?_ (by simp), fun z e => ?_⟩
  · rw [List.mem_append, List.mem_singleton]
    rintro (h1 | h1)
    · exact hn h1
    · exact hx (by rw [h1])
  · injection e with e
    subst e
    exact ⟨h.o _ (by simp), by simp⟩
theorem Pt.old {xs : List ND} {t x y : Int} {M O : List Int} {k : Nat} (h : Pt xs t M O (some x) k) (hy : (nodeF xs x).l[k]? = some y) (hm : y ∈ M) : Pt xs t M O (some x) (k + 1) := by
  refine ⟨h.nd, h.tm, h.r, h.o, h.c, fun z e => ⟨(h.x z e).1, fun u hu => ?_⟩⟩
  injection e with e
  subst e
  rw [take_one hy, List.mem_append, List.mem_singleton] at hu
  rcases hu with hu | rfl
  · exact (h.x _ rfl).2 u hu
  · exact hm
theorem Pt.new {xs : List ND} {t x y : Int} {M O : List Int} {k : Nat} (h : Pt xs t M O (some x) k) (hy : (nodeF xs x).l[k]? = some y) (hm : y ∉ M) : Pt xs t (M ++ [y]) (O ++ [y]) (some x) (k + 1) := by
  refine ⟨?_, by simp [h.tm], fun u hu => ?_, fun u hu => ?_, fun z hz hn hx u hu => ?_, fun z e => ?_⟩
  · rw [List.nodup_append]
    exact ⟨h.nd, by simp, fun a ha b hb e => by rw [List.mem_singleton] at hb; subst hb; subst e; exact hm ha⟩
  · rw [List.mem_append, List.mem_singleton] at hu
    rcases hu with hu | rfl
    · exact h.r u hu
    · exact .step (h.r x (h.x x rfl).1) (List.mem_of_getElem? hy)
  · rw [List.mem_append, List.mem_singleton] at hu ⊢
    exact hu.imp (h.o u) id
  · rw [List.mem_append, List.mem_singleton] at hn
    rw [List.mem_append, List.mem_singleton] at hz
    rcases hz with hz | rfl
    · exact List.mem_append_left _ (h.c z hz (fun h' => hn (.inl h')) hx u hu)
    · exact absurd (.inr rfl) hn
  · refine ⟨List.mem_append_left _ (h.x z e).1, fun u hu => ?_⟩
    injection e with e
    subst e
    rw [take_one hy, List.mem_append, List.mem_singleton] at hu
    rw [List.mem_append, List.mem_singleton]
    rcases hu with hu | rfl
    · exact .inl ((h.x _ rfl).2 u hu)
    · exact .inr rfl
theorem Pt.done {xs : List ND} {t x : Int} {M O : List Int} {k : Nat} (h : Pt xs t M O (some x) k) (hk : (nodeF xs x).l.length ≤ k) : Pt xs t M O none 0 := by
  refine ⟨h.nd, h.tm, h.r, h.o, fun z hz hn _ u hu => ?_, fun z e => by cases e⟩
  by_cases hx : x = z
  · subst hx
    have := (h.x _ rfl).2
    rw [List.take_of_length_le hk] at this
    exact this u hu
  · exact h.c z hz hn (fun e => hx (by injection e)) u hu
theorem Pt.size {xs : List ND} {t : Int} {M : List Int} {k : Nat} (h : Pt xs t M [] none k) : ∀ y, y ∈ M ↔ Rch xs t y := fun y =>
  ⟨h.r y, fun hr => by
    have ht := h.tm
    induction hr with
    | self _ => exact ht
    | step _ hy ih => exact h.c _ ih (by simp) (by simp) _ hy⟩
theorem Pt.len {xs : List ND} (ok : Okay xs) {t : Int} {M O : List Int} {x : Option Int} {k : Nat} (h : Pt xs t M O x k) : M.length ≤ xs.length :=
  nodup_le _ M h.nd fun y hy => by
    have := (h.r y hy).has ok
    have := has_iff.1 this.2.1
    omega
end Go.KK

/- plain: what can be derived of some terms (layer 5): the rules, the least set, the worklist. -/
namespace Go.KK
open Go.RowKit
set_option linter.unusedVariables false
set_option linter.unusedSimpArgs false

theorem getD_mem {l : List Int} {k : Nat} (h : k < l.length) : l.getD k 0 ∈ l := by
  rw [List.getD, List.getElem?_eq_getElem h]; exact List.getElem_mem h
theorem nd_len {xs : List ND} (ok : Okay xs) {t : Int} (h : hasB xs t = true) : lenB (nodeF xs t).o (nodeF xs t).l.length = true := by
  have hm := ok.may _ _ (nodeF_get h)
  unfold mayB shB at hm
  simp only [Bool.and_eq_true] at hm
  exact hm.1.1.1.1.1.1.1
theorem len_of {xs : List ND} (ok : Okay xs) {t : Int} (h : hasB xs t = true) {o : Int} {k : Nat} (ho : (nodeF xs t).o = o) (hk : arN o = some k) : (nodeF xs t).l.length = k := by
  have := nd_len ok h
  rw [ho] at this
  unfold lenB at this
  rw [hk] at this
  exact eq_of_beq this
/-- One step of deriving: of these the other one. -/
inductive Rule (xs : List ND) : List Int → Int → Prop
  | comp (t : Int) (h : hasB xs t = true) (ho : (nodeF xs t).o ≠ 1) : Rule xs (nodeF xs t).l t
  | list (t x : Int) (h : hasB xs t = true) (ho : (nodeF xs t).o = 3) (hx : x ∈ (nodeF xs t).l) : Rule xs [t] x
  | opn (t x : Int) (h : hasB xs t = true) (ho : (nodeF xs t).o = 8) (hk : (nodeF xs ((nodeF xs t).l.getD 0 0)).o = 7) (hx : x ∈ ((nodeF xs t).l.drop 1).take 2) : Rule xs [t, (nodeF xs ((nodeF xs t).l.getD 0 0)).l.getD 0 0] x
  | enc (t x : Int) (h : hasB xs t = true) (ho : (nodeF xs t).o = 9) (hx : x ∈ (nodeF xs t).l.drop 1) : Rule xs [t, (nodeF xs t).l.getD 0 0] x
  | sig (t : Int) (h : hasB xs t = true) (ho : (nodeF xs t).o = 10) : Rule xs [t] ((nodeF xs t).l.getD 1 0)
  | unbl (t u : Int) (h : hasB xs t = true) (hu : hasB xs u = true) (ho : (nodeF xs t).o = 10) (hb : (nodeF xs ((nodeF xs t).l.getD 1 0)).o = 12) (uo : (nodeF xs u).o = 10) (u0 : (nodeF xs u).l.getD 0 0 = (nodeF xs t).l.getD 0 0) (u1 : (nodeF xs u).l.getD 1 0 = (nodeF xs ((nodeF xs t).l.getD 1 0)).l.getD 0 0) : Rule xs [t, (nodeF xs ((nodeF xs t).l.getD 1 0)).l.getD 1 0] u
  | blind (t : Int) (h : hasB xs t = true) (ho : (nodeF xs t).o = 12) : Rule xs [t, (nodeF xs t).l.getD 1 0] ((nodeF xs t).l.getD 0 0)
/-- A set that no step leaves. -/
def Cl (xs : List ND) (S : Int → Prop) : Prop := ∀ P c, Rule xs P c → (∀ p ∈ P, S p) → S c
/-- What can be derived of some. -/
def Der (xs : List ND) (l : List Int) (t : Int) : Prop := ∀ S, Cl xs S → (∀ x ∈ l, S x) → S t
theorem der_known {xs : List ND} {l : List Int} {t : Int} (h : t ∈ l) : Der xs l t := fun _ _ k => k t h
theorem der_cl (xs : List ND) (l : List Int) : Cl xs (Der xs l) := fun P c hr hp S hS hl => hS P c hr fun p h => hp p h S hS hl
theorem der_least {xs : List ND} {l : List Int} {S : Int → Prop} (hS : Cl xs S) (hl : ∀ x ∈ l, S x) {t : Int} (h : Der xs l t) : S t := h S hS hl
theorem rule_has {xs : List ND} (ok : Okay xs) {P : List Int} {c : Int} (h : Rule xs P c) : (∀ p ∈ P, hasB xs p = true) ∧ hasB xs c = true := by
  have pt : ∀ {t x : Int}, hasB xs t = true → x ∈ (nodeF xs t).l → hasB xs x = true := fun ht hx => (part_lt ok ht hx).2.2
  cases h with
  | comp _ h ho => exact ⟨fun p hp => pt h hp, h⟩
  | list t x h ho hx => exact ⟨fun p hp => by rw [List.mem_singleton] at hp; subst hp; exact h, pt h hx⟩
  | opn t x h ho hk hx =>
    have hl := len_of ok h ho rfl
    have h0 := pt h (getD_mem (l := (nodeF xs t).l) (k := 0) (by omega))
    have hl0 := len_of ok h0 hk rfl
    refine ⟨fun p hp => ?_, pt h (List.mem_of_mem_drop (List.mem_of_mem_take hx))⟩
    simp only [List.mem_cons, List.not_mem_nil, or_false] at hp
    rcases hp with rfl | rfl
    · exact h
    · exact pt h0 (getD_mem (by omega))
  | enc t x h ho hx =>
    have hl := len_of ok h ho rfl
    refine ⟨fun p hp => ?_, pt h (List.mem_of_mem_drop hx)⟩
    simp only [List.mem_cons, List.not_mem_nil, or_false] at hp
    rcases hp with rfl | rfl
    · exact h
    · exact pt h (getD_mem (by omega))
  | sig t h ho =>
    have hl := len_of ok h ho rfl
    exact ⟨fun p hp => by rw [List.mem_singleton] at hp; subst hp; exact h, pt h (getD_mem (by omega))⟩
  | unbl t u h hu ho hb uo u0 u1 =>
    have hl := len_of ok h ho rfl
    have h1 := pt h (getD_mem (l := (nodeF xs t).l) (k := 1) (by omega))
    have hl1 := len_of ok h1 hb rfl
    refine ⟨fun p hp => ?_, hu⟩
    simp only [List.mem_cons, List.not_mem_nil, or_false] at hp
    rcases hp with rfl | rfl
    · exact h
    · exact pt h1 (getD_mem (by omega))
  | blind t h ho =>
    have hl := len_of ok h ho rfl
    refine ⟨fun p hp => ?_, pt h (getD_mem (by omega))⟩
    simp only [List.mem_cons, List.not_mem_nil, or_false] at hp
    rcases hp with rfl | rfl
    · exact h
    · exact pt h (getD_mem (by omega))
def inB (I : List Bool) (t : Int) : Bool := I.getD t.toNat false
/-- Which are in, and which are still to be gone through. -/
structure SD where
  i : List Bool
  o : List Int
def add1 (s : SD) (t : Int) : SD := if inB s.i t then s else ⟨s.i.set t.toNat true, s.o ++ [t]⟩
def addL (s : SD) (l : List Int) : SD := l.foldl add1 s
/-- What a term is looked at again for: its parts, and a key that opens it. -/
def links (xs : List ND) (n : ND) : List Int :=
  n.l ++ (if n.o = 8 ∧ (nodeF xs (n.l.getD 0 0)).o = 7 then [(nodeF xs (n.l.getD 0 0)).l.getD 0 0] else if n.o = 10 ∧ (nodeF xs (n.l.getD 1 0)).o = 12 then [(nodeF xs (n.l.getD 1 0)).l.getD 1 0] else [])
def pairsT (xs : List ND) (t : Nat) : List (Int × Int) := (links xs (nodeF xs t)).map fun x => ((t : Int), x)
def pairs (xs : List ND) (k : Nat) : List (Int × Int) := (List.range k).flatMap (pairsT xs)
def useOf (ps : List (Int × Int)) (x : Int) : List Int := (ps.filter fun p => p.2 == x).map (·.1)
def uses (xs : List ND) (x : Int) : List Int := useOf (pairs xs xs.length) x
theorem useOf_mem {ps : List (Int × Int)} {x u : Int} : u ∈ useOf ps x ↔ (u, x) ∈ ps := by
  unfold useOf
  simp only [List.mem_map, List.mem_filter, beq_iff_eq]
  constructor
  · rintro ⟨⟨a, b⟩, ⟨h1, rfl⟩, rfl⟩; exact h1
  · intro h; exact ⟨(u, x), ⟨h, rfl⟩, rfl⟩
theorem pairs_mem {xs : List ND} {k : Nat} {u x : Int} : (u, x) ∈ pairs xs k ↔ 0 ≤ u ∧ u < k ∧ x ∈ links xs (nodeF xs u) := by
  unfold pairs pairsT
  simp only [List.mem_flatMap, List.mem_range, List.mem_map, Prod.mk.injEq]
  constructor
  · rintro ⟨t, ht, y, hy, rfl, rfl⟩
    exact ⟨by omega, by omega, hy⟩
  · rintro ⟨h0, h1, h2⟩
    exact ⟨u.toNat, by omega, x, by rw [show ((u.toNat : Nat) : Int) = u by omega]; exact h2, by omega, rfl⟩
theorem uses_mem {xs : List ND} {u x : Int} : u ∈ uses xs x ↔ hasB xs u = true ∧ x ∈ links xs (nodeF xs u) := by
  unfold uses
  rw [useOf_mem, pairs_mem, has_iff]
  exact ⟨fun h => ⟨⟨h.1, h.2.1⟩, h.2.2⟩, fun h => ⟨h.1.1, h.1.2, h.2⟩⟩
theorem useOf_snoc (ps : List (Int × Int)) (t y x : Int) : useOf (ps ++ [(t, y)]) x = if y = x then useOf ps x ++ [t] else useOf ps x := by
  unfold useOf
  rw [List.filter_append, List.map_append]
  by_cases h : y = x
  · subst h; simp
  · rw [if_neg h]; simp [h]
theorem pairs_succ (xs : List ND) (k : Nat) : pairs xs (k + 1) = pairs xs k ++ pairsT xs k := by
  unfold pairs; rw [List.range_succ, List.flatMap_append]; simp
def unbF (xs : List ND) (s : SD) (sk m : Int) : SD := Go.KK.addL s ((uses xs m).filter fun t => (nodeF xs t).o == 10 && (nodeF xs t).l.getD 0 0 == sk && (nodeF xs t).l.getD 1 0 == m)
/-- What a term is made of, as far as it comes apart. -/
def apF (xs : List ND) (s : SD) (t : Int) : SD :=
  if (nodeF xs t).o = 3 then Go.KK.addL s (nodeF xs t).l
  else if (nodeF xs t).o = 8 then (if (nodeF xs ((nodeF xs t).l.getD 0 0)).o = 7 ∧ inB s.i ((nodeF xs ((nodeF xs t).l.getD 0 0)).l.getD 0 0) = true then Go.KK.addL s (((nodeF xs t).l.drop 1).take 2) else s)
  else if (nodeF xs t).o = 9 then (if inB s.i ((nodeF xs t).l.getD 0 0) = true then Go.KK.addL s ((nodeF xs t).l.drop 1) else s)
  else if (nodeF xs t).o = 10 then
    (if (nodeF xs ((nodeF xs t).l.getD 1 0)).o = 12 ∧ inB (add1 s ((nodeF xs t).l.getD 1 0)).i ((nodeF xs ((nodeF xs t).l.getD 1 0)).l.getD 1 0) = true then
      unbF xs (add1 s ((nodeF xs t).l.getD 1 0)) ((nodeF xs t).l.getD 0 0) ((nodeF xs ((nodeF xs t).l.getD 1 0)).l.getD 0 0) else add1 s ((nodeF xs t).l.getD 1 0))
  else if (nodeF xs t).o = 12 then (if inB s.i ((nodeF xs t).l.getD 1 0) = true then add1 s ((nodeF xs t).l.getD 0 0) else s)
  else s
def visF (xs : List ND) (s : SD) (u : Int) : SD := if inB s.i u then apF xs s u else if (nodeF xs u).l.all (inB s.i) then add1 s u else s

/-- s' goes on from s: more is in (each of it can be derived), and all of that is still to be gone through. -/
structure Go1 (xs : List ND) (D : Int → Prop) (s s' : SD) : Prop where
  len : s'.i.length = s.i.length
  mono : ∀ t, inB s.i t = true → inB s'.i t = true
  sub : ∀ t ∈ s.o, t ∈ s'.o
  opn : ∀ t ∈ s'.o, t ∈ s.o ∨ (hasB xs t = true ∧ inB s'.i t = true)
  new : ∀ t, 0 ≤ t → inB s'.i t = true → inB s.i t = true ∨ t ∈ s'.o
  snd : ∀ t, 0 ≤ t → inB s'.i t = true → inB s.i t = true ∨ D t
section
variable {xs : List ND} {D : Int → Prop} {s s' s'' : SD}
theorem Go1.refl (xs : List ND) (D : Int → Prop) (s : SD) : Go1 xs D s s := ⟨rfl, fun _ h => h, fun _ h => h, fun _ h => .inl h, fun _ _ h => .inl h, fun _ _ h => .inl h⟩
theorem Go1.trans (h : Go1 xs D s s') (k : Go1 xs D s' s'') : Go1 xs D s s'' :=
  ⟨k.len.trans h.len, fun t ht => k.mono t (h.mono t ht), fun t ht => k.sub t (h.sub t ht),
   fun t ht => (k.opn t ht).elim (fun h1 => (h.opn t h1).imp id fun h2 => ⟨h2.1, k.mono t h2.2⟩) .inr,
   fun t h0 ht => (k.new t h0 ht).elim (fun h1 => (h.new t h0 h1).imp id (k.sub t)) .inr,
   fun t h0 ht => (k.snd t h0 ht).elim (h.snd t h0) .inr⟩
theorem inB_set {I : List Bool} {t u : Int} (ht : 0 ≤ t) (hu : 0 ≤ u) (hl : t.toNat < I.length) : inB (I.set t.toNat true) u = (decide (u = t) || inB I u) := by
  unfold inB
  rw [List.getD, List.getD, List.getElem?_set]
  by_cases h : u = t
  · subst h
    rw [if_pos rfl, if_pos hl, decide_eq_true rfl]; rfl
  · rw [if_neg (by omega), decide_eq_false h]; rfl
theorem add1_go {t : Int} (hl : s.i.length = xs.length) (h : hasB xs t = true) (hd : D t) : Go1 xs D s (add1 s t) ∧ inB (add1 s t).i t = true := by
  have h2 := has_iff.1 h
  unfold add1
  by_cases hb : inB s.i t = true
  · rw [if_pos hb]; exact ⟨.refl _ _ _, hb⟩
  · rw [if_neg hb]
    have hset : ∀ u : Int, 0 ≤ u → inB (s.i.set t.toNat true) u = (decide (u = t) || inB s.i u) := fun u hu => inB_set h2.1 hu (by omega)
    have hneg : ∀ u : Int, inB s.i u = true → inB (s.i.set t.toNat true) u = true := fun u hu => by
      by_cases h0 : 0 ≤ u
      · rw [hset u h0, hu]; simp
      · unfold inB at hu ⊢
        rw [List.getD] at hu ⊢
        rw [List.getElem?_set]
        split
        · split
          · rfl
          · omega
        · exact hu
    refine ⟨⟨by simp, hneg, fun u hu => by simp [hu], fun u hu => ?_, fun u h0 hu => ?_, fun u h0 hu => ?_⟩, by rw [hset t h2.1]; simp⟩
    · rcases List.mem_append.1 hu with hu | hu
      · exact .inl hu
      · rw [List.mem_singleton] at hu
        subst hu
        exact .inr ⟨h, by rw [hset _ h2.1]; simp⟩
    · rw [hset u h0] at hu
      by_cases e : u = t
      · exact .inr (by simp [e])
      · rw [decide_eq_false e] at hu; exact .inl hu
    · rw [hset u h0] at hu
      by_cases e : u = t
      · exact .inr (e ▸ hd)
      · rw [decide_eq_false e] at hu; exact .inl hu
theorem addL_go : ∀ {l : List Int} {s : SD}, s.i.length = xs.length → (∀ t ∈ l, hasB xs t = true ∧ D t) → Go1 xs D s (Go.KK.addL s l) ∧ ∀ t ∈ l, inB (Go.KK.addL s l).i t = true
  | [], s, _, _ => ⟨.refl _ _ _, fun t h => by simp at h⟩
  | x :: l, s, hl, h => by
    obtain ⟨a1, a2⟩ := add1_go (xs := xs) (D := D) hl (h x (by simp)).1 (h x (by simp)).2
    obtain ⟨b1, b2⟩ := addL_go (l := l) (s := add1 s x) (a1.len.trans hl) fun t ht => h t (by simp [ht])
    refine ⟨a1.trans b1, fun t ht => ?_⟩
    rcases List.mem_cons.1 ht with rfl | ht
    · exact b1.mono _ a2
    · exact b2 t ht
/-- All that s has can be derived. -/
def Snd (D : Int → Prop) (s : SD) : Prop := ∀ t, 0 ≤ t → inB s.i t = true → D t
theorem Go1.sound (h : Go1 xs D s s') (k : Snd D s) : Snd D s' := fun t h0 ht => (h.snd t h0 ht).elim (k t h0) id
theorem has_part (ok : Okay xs) {t x : Int} (h : hasB xs t = true) (hx : x ∈ (nodeF xs t).l) : hasB xs x = true := (part_lt ok h hx).2.2
theorem has0 {t : Int} (h : hasB xs t = true) : 0 ≤ t := (has_iff.1 h).1
theorem ap_go (ok : Okay xs) (hD : Cl xs D) {t : Int} (hl : s.i.length = xs.length) (hs : Snd D s) (h : hasB xs t = true) (hd : D t) : Go1 xs D s (apF xs s t) := by
  unfold apF
  split
  · rename_i ho
    exact (addL_go hl fun x hx => ⟨has_part ok h hx, hD _ _ (.list t x h ho hx) fun p hp => by rw [List.mem_singleton] at hp; subst hp; exact hd⟩).1
  split
  · rename_i ho
    split
    · rename_i hk
      have hl4 := len_of ok h ho rfl
      have h0 := has_part ok h (getD_mem (l := (nodeF xs t).l) (k := 0) (by omega))
      have hl1 := len_of ok h0 hk.1 rfl
      have hk0 := hs _ (has0 (has_part ok h0 (getD_mem (by omega)))) hk.2
      exact (addL_go hl fun x hx => ⟨has_part ok h (List.mem_of_mem_drop (List.mem_of_mem_take hx)), hD _ _ (.opn t x h ho hk.1 hx) fun p hp => by
        simp only [List.mem_cons, List.not_mem_nil, or_false] at hp
        rcases hp with rfl | rfl
        · exact hd
        · exact hk0⟩).1
    · exact .refl _ _ _
  split
  · rename_i ho
    split
    · rename_i hk
      have hl4 := len_of ok h ho rfl
      have hk0 := hs _ (has0 (has_part ok h (getD_mem (l := (nodeF xs t).l) (k := 0) (by omega)))) hk
      exact (addL_go hl fun x hx => ⟨has_part ok h (List.mem_of_mem_drop hx), hD _ _ (.enc t x h ho hx) fun p hp => by
        simp only [List.mem_cons, List.not_mem_nil, or_false] at hp
        rcases hp with rfl | rfl
        · exact hd
        · exact hk0⟩).1
    · exact .refl _ _ _
  split
  · rename_i ho
    have hl2 := len_of ok h ho rfl
    have h1 := has_part ok h (getD_mem (l := (nodeF xs t).l) (k := 1) (by omega))
    have g1 := add1_go (D := D) hl h1 (hD _ _ (.sig t h ho) fun p hp => by rw [List.mem_singleton] at hp; subst hp; exact hd)
    split
    · rename_i hk
      have hlb := len_of ok h1 hk.1 rfl
      have hk0 := g1.1.sound hs _ (has0 (has_part ok h1 (getD_mem (by omega)))) hk.2
      refine g1.1.trans (addL_go (g1.1.len.trans hl) fun u hu => ?_).1
      simp only [List.mem_filter, Bool.and_eq_true, beq_iff_eq] at hu
      obtain ⟨hu, ⟨uo, u0⟩, u1⟩ := hu
      have hu' := (uses_mem.1 hu).1
      exact ⟨hu', hD _ _ (.unbl t u h hu' ho hk.1 uo u0 u1) fun p hp => by
        simp only [List.mem_cons, List.not_mem_nil, or_false] at hp
        rcases hp with rfl | rfl
        · exact hd
        · exact hk0⟩
    · exact g1.1
  split
  · rename_i ho
    split
    · rename_i hk
      have hl2 := len_of ok h ho rfl
      have hk0 := hs _ (has0 (has_part ok h (getD_mem (l := (nodeF xs t).l) (k := 1) (by omega)))) hk
      exact (add1_go hl (has_part ok h (getD_mem (by omega))) (hD _ _ (.blind t h ho) fun p hp => by
        simp only [List.mem_cons, List.not_mem_nil, or_false] at hp
        rcases hp with rfl | rfl
        · exact hd
        · exact hk0)).1
    · exact .refl _ _ _
  · exact .refl _ _ _
theorem vis_go (ok : Okay xs) (hD : Cl xs D) {u : Int} (hl : s.i.length = xs.length) (hs : Snd D s) (h : hasB xs u = true) (ho : (nodeF xs u).o ≠ 1) : Go1 xs D s (visF xs s u) := by
  unfold visF
  split
  · rename_i hb
    exact ap_go ok hD hl hs h (hs u (has0 h) hb)
  · split
    · rename_i ha
      exact (add1_go hl h (hD _ _ (.comp u h ho) fun p hp => hs p (has0 (has_part ok h hp)) (List.all_eq_true.1 ha p hp))).1
    · exact .refl _ _ _
theorem uses_ne (ok : Okay xs) {u x : Int} (h : u ∈ uses xs x) : hasB xs u = true ∧ (nodeF xs u).o ≠ 1 := by
  obtain ⟨h1, h2⟩ := uses_mem.1 h
  refine ⟨h1, fun ho => ?_⟩
  have hl := len_of ok h1 ho rfl
  unfold links at h2
  rw [List.eq_nil_of_length_eq_zero hl, if_neg (fun e => by rw [ho] at e; exact absurd e.1 (by decide)), if_neg (fun e => by rw [ho] at e; exact absurd e.1 (by decide))] at h2
  simp at h2
theorem vis_all (ok : Okay xs) (hD : Cl xs D) : ∀ {l : List Int} {s : SD}, s.i.length = xs.length → Snd D s → (∀ u ∈ l, hasB xs u = true ∧ (nodeF xs u).o ≠ 1) → Go1 xs D s (l.foldl (visF xs) s)
  | [], s, _, _, _ => .refl _ _ _
  | u :: l, s, hl, hs, h => by
    have a := vis_go ok hD hl hs (h u (by simp)).1 (h u (by simp)).2
    exact a.trans (vis_all ok hD (a.len.trans hl) (a.sound hs) fun v hv => h v (by simp [hv]))
end
/-- A step that takes apart: it is done when its term is gone through, or looked at again. -/
theorem rule_ap {xs : List ND} (ok : Okay xs) {P : List Int} {c : Int} (h : Rule xs P c) :
    (P = (nodeF xs c).l ∧ hasB xs c = true ∧ (nodeF xs c).o ≠ 1) ∨
    ∃ t, t ∈ P ∧ (∀ p ∈ P, p = t ∨ t ∈ uses xs p) ∧ ∀ s : SD, s.i.length = xs.length → (∀ p ∈ P, inB s.i p = true) → inB (apF xs s t).i c = true := by
  have hh := rule_has ok h
  have al : ∀ {l : List Int} {s : SD}, s.i.length = xs.length → (∀ t ∈ l, hasB xs t = true) → Go1 xs (fun _ => True) s (Go.KK.addL s l) ∧ ∀ t ∈ l, inB (Go.KK.addL s l).i t = true := fun hl h => addL_go hl fun t ht => ⟨h t ht, trivial⟩
  cases h with
  | comp _ h ho => exact .inl ⟨rfl, h, ho⟩
  | list t x h ho hx =>
    refine .inr ⟨t, by simp, fun p hp => .inl (by simpa using hp), fun s hl hs => ?_⟩
    unfold apF
    rw [if_pos ho]
    exact (al hl fun y hy => has_part ok h hy).2 c hx
  | opn t x h ho hk hx =>
    have hl4 := len_of ok h ho rfl
    refine .inr ⟨t, by simp, fun p hp => ?_, fun s hl hs => ?_⟩
    · simp only [List.mem_cons, List.not_mem_nil, or_false] at hp
      refine hp.imp id fun e => uses_mem.2 ⟨h, ?_⟩
      unfold links
      rw [if_pos ⟨ho, hk⟩, e]; simp
    · unfold apF
      rw [if_neg (by rw [ho]; decide), if_pos ho, if_pos ⟨hk, hs _ (by simp)⟩]
      exact (al hl fun y hy => has_part ok h (List.mem_of_mem_drop (List.mem_of_mem_take hy))).2 c hx
  | enc t x h ho hx =>
    have hl4 := len_of ok h ho rfl
    refine .inr ⟨t, by simp, fun p hp => ?_, fun s hl hs => ?_⟩
    · simp only [List.mem_cons, List.not_mem_nil, or_false] at hp
      refine hp.imp id fun e => uses_mem.2 ⟨h, ?_⟩
      unfold links
      rw [e]
      exact List.mem_append_left _ (getD_mem (by omega))
    · unfold apF
      rw [if_neg (by rw [ho]; decide), if_neg (by rw [ho]; decide), if_pos ho, if_pos (hs _ (by simp))]
      exact (al hl fun y hy => has_part ok h (List.mem_of_mem_drop hy)).2 c hx
  | sig t h ho =>
    have hl2 := len_of ok h ho rfl
    have h1 := has_part ok h (getD_mem (l := (nodeF xs t).l) (k := 1) (by omega))
    refine .inr ⟨t, by simp, fun p hp => .inl (by simpa using hp), fun s hl hs => ?_⟩
    obtain ⟨g1, g2⟩ := add1_go (s := s) (D := fun _ => True) hl h1 trivial
    unfold apF
    rw [if_neg (by rw [ho]; decide), if_neg (by rw [ho]; decide), if_neg (by rw [ho]; decide), if_pos ho]
    split
    · exact (al (g1.len.trans hl) fun u hu => (uses_mem.1 (List.mem_filter.1 hu).1).1).1.mono _ g2
    · exact g2
  | unbl t u h hu ho hb uo u0 u1 =>
    have hl2 := len_of ok h ho rfl
    have hlu := len_of ok hu uo rfl
    have h1 := has_part ok h (getD_mem (l := (nodeF xs t).l) (k := 1) (by omega))
    refine .inr ⟨t, by simp, fun p hp => ?_, fun s hl hs => ?_⟩
    · simp only [List.mem_cons, List.not_mem_nil, or_false] at hp
      refine hp.imp id fun e => uses_mem.2 ⟨h, ?_⟩
      unfold links
      rw [if_neg (fun e => by rw [ho] at e; exact absurd e.1 (by decide)), if_pos ⟨ho, hb⟩, e]; simp
    · obtain ⟨g1, g2⟩ := add1_go (s := s) (D := fun _ => True) hl h1 trivial
      unfold apF
      rw [if_neg (by rw [ho]; decide), if_neg (by rw [ho]; decide), if_neg (by rw [ho]; decide), if_pos ho, if_pos ⟨hb, g1.mono _ (hs _ (by simp))⟩]
      refine (al (g1.len.trans hl) fun v hv => (uses_mem.1 (List.mem_filter.1 hv).1).1).2 c (List.mem_filter.2 ⟨uses_mem.2 ⟨hu, ?_⟩, ?_⟩)
      · unfold links
        rw [← u1]
        exact List.mem_append_left _ (getD_mem (by omega))
      · rw [uo, u0, u1]; simp
  | blind t h ho =>
    have hl2 := len_of ok h ho rfl
    refine .inr ⟨t, by simp, fun p hp => ?_, fun s hl hs => ?_⟩
    · simp only [List.mem_cons, List.not_mem_nil, or_false] at hp
      refine hp.imp id fun e => uses_mem.2 ⟨h, ?_⟩
      unfold links
      rw [e]
      exact List.mem_append_left _ (getD_mem (by omega))
    · unfold apF
      rw [if_neg (by rw [ho]; decide), if_neg (by rw [ho]; decide), if_neg (by rw [ho]; decide), if_neg (by rw [ho]; decide), if_pos ho, if_pos (hs _ (by simp))]
      exact (add1_go (D := fun _ => True) hl (has_part ok h (getD_mem (by omega))) trivial).2
/-- What holds whenever the next term is taken. -/
structure Inv (xs : List ND) (known : List Int) (s : SD) : Prop where
  len : s.i.length = xs.length
  o : ∀ t ∈ s.o, hasB xs t = true ∧ inB s.i t = true
  snd : Snd (Der xs known) s
  kn : ∀ t ∈ known, inB s.i t = true
  clo : ∀ P c, Rule xs P c → (∀ p ∈ P, inB s.i p = true ∧ p ∉ s.o) → inB s.i c = true
theorem fold_hit {xs : List ND} (ok : Okay xs) {D : Int → Prop} (hD : Cl xs D) {u c : Int} : ∀ {l : List Int} {s : SD}, s.i.length = xs.length → Snd D s → (∀ u ∈ l, hasB xs u = true ∧ (nodeF xs u).o ≠ 1) → u ∈ l →
    (∀ s' : SD, s'.i.length = xs.length → (∀ t, inB s.i t = true → inB s'.i t = true) → inB (visF xs s' u).i c = true) → inB (l.foldl (visF xs) s).i c = true
  | [], s, _, _, _, h, _ => by simp at h
  | v :: l, s, hl, hs, ha, h, k => by
    have a := vis_go ok hD hl hs (ha v (by simp)).1 (ha v (by simp)).2
    have b := vis_all ok hD (l := l) (s := visF xs s v) (a.len.trans hl) (a.sound hs) fun w hw => ha w (by simp [hw])
    rcases List.mem_cons.1 h with rfl | h
    · exact b.mono _ (k s hl fun _ h => h)
    · exact fold_hit ok hD (l := l) (s := visF xs s v) (a.len.trans hl) (a.sound hs) (fun w hw => ha w (by simp [hw])) h fun s' h1 h2 => k s' h1 fun t ht => h2 t (a.mono t ht)
theorem Inv.pop {xs : List ND} (ok : Okay xs) {known : List Int} {I : List Bool} {O : List Int} {t : Int} (h : Inv xs known ⟨I, O ++ [t]⟩) : Inv xs known ((uses xs t).foldl (visF xs) (apF xs ⟨I, O⟩ t)) := by
  have hD := der_cl xs known
  obtain ⟨ht, hti⟩ := h.o t (by simp)
  have hs0 : Snd (Der xs known) ⟨I, O⟩ := h.snd
  have hl0 : (SD.mk I O).i.length = xs.length := h.len
  have a := ap_go ok hD hl0 hs0 ht (h.snd t (has0 ht) hti)
  have hu : ∀ u ∈ uses xs t, hasB xs u = true ∧ (nodeF xs u).o ≠ 1 := fun u hu => uses_ne ok hu
  have b := vis_all ok hD (l := uses xs t) (a.len.trans hl0) (a.sound hs0) hu
  have g := a.trans b
  generalize hs2 : (uses xs t).foldl (visF xs) (apF xs ⟨I, O⟩ t) = s2 at *
  refine ⟨g.len.trans hl0, fun x hx => ?_, g.sound hs0, fun x hx => g.mono x (h.kn x hx), fun P c hr hp => ?_⟩
  · rcases g.opn x hx with h1 | h1
    · exact ⟨(h.o x (by simp [h1])).1, g.mono x (h.o x (by simp [h1])).2⟩
    · exact h1
  · have hP := (rule_has ok hr).1
    have hin : ∀ p ∈ P, inB I p = true := fun p hp' => (g.new p (has0 (hP p hp')) (hp p hp').1).elim id fun h1 => absurd h1 (hp p hp').2
    by_cases htp : t ∈ P
    · rcases rule_ap ok hr with ⟨rfl, hc, ho⟩ | ⟨t', ht', hus, hap⟩
      · have hcu : c ∈ uses xs t := uses_mem.2 ⟨hc, by unfold links; exact List.mem_append_left _ htp⟩
        rw [← hs2]
        refine fold_hit ok hD (a.len.trans hl0) (a.sound hs0) hu hcu fun s' h1 h2 => ?_
        unfold visF
        split
        · rename_i hb
          have := ap_go (D := fun _ => True) ok (fun _ _ _ _ => trivial) h1 (fun _ _ _ => trivial) hc trivial
          exact this.mono _ hb
        · rw [if_pos (List.all_eq_true.2 fun p hp' => h2 p (a.mono p (hin p hp')))]
          exact (add1_go (D := fun _ => True) h1 hc trivial).2
      · rcases hus t htp with e | e
        · rw [← e] at hap
          exact b.mono _ (hap ⟨I, O⟩ hl0 hin)
        · rw [← hs2]
          refine fold_hit ok hD (a.len.trans hl0) (a.sound hs0) hu e fun s' h1 h2 => ?_
          unfold visF
          rw [if_pos (h2 t' (a.mono t' (hin t' ht')))]
          exact hap s' h1 fun p hp' => h2 p (a.mono p (hin p hp'))
    · exact g.mono c (h.clo P c hr fun p hp' => ⟨hin p hp', fun hm => by
        rcases List.mem_append.1 hm with hm | hm
        · exact (hp p hp').2 (g.sub p hm)
        · rw [List.mem_singleton] at hm; subst hm; exact htp hp'⟩)
theorem Inv.done {xs : List ND} (ok : Okay xs) {known : List Int} {I : List Bool} (h : Inv xs known ⟨I, []⟩) (hk : ∀ x ∈ known, hasB xs x = true) {t : Int} (ht : hasB xs t = true) : inB I t = true ↔ Der xs known t :=
  ⟨fun hi => h.snd t (has0 ht) hi, fun hd => (der_least (S := fun t => hasB xs t = true → inB I t = true) (fun P c hr hp _ => h.clo P c hr fun p hp' => ⟨hp p hp' ((rule_has ok hr).1 p hp'), by simp⟩) (fun x hx _ => h.kn x hx) hd) ht⟩
/-- The terms that stand alone and are no atoms. -/
def bases (xs : List ND) (k : Nat) : List Int := ((List.range k).filter fun (t : Nat) => (nodeF xs (t : Int)).o != 1 && (nodeF xs (t : Int)).l.isEmpty).map fun (t : Nat) => (t : Int)
def startS (xs : List ND) (known : List Int) : SD := Go.KK.addL (Go.KK.addL ⟨List.replicate xs.length false, []⟩ (bases xs xs.length)) known
theorem inB_rep (n : Nat) (t : Int) : inB (List.replicate n false) t = false := by
  unfold inB
  rw [List.getD, List.getElem?_replicate]
  split <;> rfl
theorem inv_start {xs : List ND} (ok : Okay xs) {known : List Int} (hk : ∀ x ∈ known, hasB xs x = true) : Inv xs known (startS xs known) := by
  have hD := der_cl xs known
  have hb : ∀ t ∈ bases xs xs.length, hasB xs t = true ∧ Der xs known t := by
    intro t ht
    unfold bases at ht
    simp only [List.mem_map, List.mem_filter, List.mem_range, Bool.and_eq_true, bne_iff_ne, List.isEmpty_iff] at ht
    obtain ⟨j, ⟨hj, ho, he⟩, rfl⟩ := ht
    have hh : hasB xs (j : Int) = true := has_iff.2 ⟨by omega, by omega⟩
    exact ⟨hh, hD _ _ (.comp _ hh ho) fun p hp => by rw [he] at hp; simp at hp⟩
  have hl0 : (SD.mk (List.replicate xs.length false) []).i.length = xs.length := by simp
  obtain ⟨a1, a2⟩ := addL_go (D := Der xs known) hl0 hb
  obtain ⟨b1, b2⟩ := addL_go (D := Der xs known) (l := known) (a1.len.trans hl0) fun t ht => ⟨hk t ht, der_known ht⟩
  have g := a1.trans b1
  change Go1 xs (Der xs known) _ (startS xs known) at g
  refine ⟨g.len.trans hl0, fun t ht => ?_, g.sound fun t _ ht => ?_, b2, fun P c hr hp => ?_⟩
  · rcases g.opn t ht with h | h
    · simp at h
    · exact h
  · change inB (List.replicate xs.length false) t = true at ht
    rw [inB_rep] at ht; cases ht
  · have hP := (rule_has ok hr).1
    have hnil : P = [] := by
      rcases P with _ | ⟨p, P⟩
      · rfl
      · have h1 := hp p (by simp)
        rcases g.new p (has0 (hP p (by simp))) h1.1 with h2 | h2
        · change inB (List.replicate xs.length false) p = true at h2
          rw [inB_rep] at h2; cases h2
        · exact absurd h2 h1.2
    subst hnil
    rcases rule_ap ok hr with ⟨h1, h2, h3⟩ | ⟨t, ht, _⟩
    · refine b1.mono c (a2 c ?_)
      unfold bases
      simp only [List.mem_map, List.mem_filter, List.mem_range, Bool.and_eq_true, bne_iff_ne, List.isEmpty_iff]
      have h0 := has_iff.1 h2
      refine ⟨c.toNat, ⟨by omega, ?_, ?_⟩, by omega⟩ <;> rw [show ((c.toNat : Nat) : Int) = c by omega]
      · exact h3
      · exact h1.symm
    · simp at ht
/-- How much is left to do. -/
def mu (s : SD) : Nat := 2 * s.i.count false + s.o.length
theorem mu_add1 {xs : List ND} {s : SD} {t : Int} (hl : s.i.length = xs.length) (h : hasB xs t = true) : mu (add1 s t) ≤ mu s := by
  unfold add1
  split
  · exact Nat.le_refl _
  · rename_i hb
    have h2 := has_iff.1 h
    have hlt : t.toNat < s.i.length := by omega
    have hf : s.i[t.toNat] = false := by
      unfold inB at hb
      rw [List.getD, List.getElem?_eq_getElem hlt] at hb
      simpa using hb
    have hc : (s.i.set t.toNat true).count false + 1 = s.i.count false := by
      rw [List.count_set (h := hlt), hf]
      have := List.count_pos_iff.2 (hf ▸ List.getElem_mem hlt)
      simp; omega
    unfold mu
    simp only [List.length_append, List.length_cons, List.length_nil]
    omega
theorem mu_addL {xs : List ND} : ∀ {l : List Int} {s : SD}, s.i.length = xs.length → (∀ t ∈ l, hasB xs t = true) → mu (Go.KK.addL s l) ≤ mu s
  | [], _, _, _ => Nat.le_refl _
  | t :: l, s, hl, h => Nat.le_trans (mu_addL (l := l) (s := add1 s t) ((add1_go (D := fun _ => True) hl (h t (by simp)) trivial).1.len.trans hl) fun u hu => h u (by simp [hu])) (mu_add1 hl (h t (by simp)))
theorem mu_ap {xs : List ND} (ok : Okay xs) {s : SD} {t : Int} (hl : s.i.length = xs.length) (h : hasB xs t = true) : mu (apF xs s t) ≤ mu s := by
  unfold apF
  split
  · exact mu_addL hl fun u hu => has_part ok h hu
  split
  · split
    · exact mu_addL hl fun u hu => has_part ok h (List.mem_of_mem_drop (List.mem_of_mem_take hu))
    · exact Nat.le_refl _
  split
  · split
    · exact mu_addL hl fun u hu => has_part ok h (List.mem_of_mem_drop hu)
    · exact Nat.le_refl _
  split
  · rename_i ho
    have hl2 := len_of ok h ho rfl
    have h1 := has_part ok h (getD_mem (l := (nodeF xs t).l) (k := 1) (by omega))
    have g := (add1_go (s := s) (D := fun _ => True) hl h1 trivial).1
    split
    · exact Nat.le_trans (mu_addL (g.len.trans hl) fun u hu => (uses_mem.1 (List.mem_filter.1 hu).1).1) (mu_add1 hl h1)
    · exact mu_add1 hl h1
  split
  · rename_i ho
    have hl2 := len_of ok h ho rfl
    split
    · exact mu_add1 hl (has_part ok h (getD_mem (by omega)))
    · exact Nat.le_refl _
  · exact Nat.le_refl _
theorem mu_vis {xs : List ND} (ok : Okay xs) {s : SD} {u : Int} (hl : s.i.length = xs.length) (h : hasB xs u = true) : mu (visF xs s u) ≤ mu s ∧ (visF xs s u).i.length = xs.length := by
  unfold visF
  split
  · exact ⟨mu_ap ok hl h, (ap_go (D := fun _ => True) ok (fun _ _ _ _ => trivial) hl (fun _ _ _ => trivial) h trivial).len.trans hl⟩
  · split
    · exact ⟨mu_add1 hl h, (add1_go (D := fun _ => True) hl h trivial).1.len.trans hl⟩
    · exact ⟨Nat.le_refl _, hl⟩
theorem mu_pop {I : List Bool} {O : List Int} {t : Int} : mu ⟨I, O⟩ < mu ⟨I, O ++ [t]⟩ := by
  unfold mu
  simp
end Go.KK

