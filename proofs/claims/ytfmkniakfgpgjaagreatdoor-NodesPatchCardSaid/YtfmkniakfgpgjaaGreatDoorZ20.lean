import Derived.Test.YtfmkniakfgpgjaaGreatDoorZ14
import Derived.Test.YtfmkniakfgpgjaaGreatDoorZ19
import Derived.Test.YtfmkniakfgpgjaaGreatDoorZ09
import Derived.Test.YtfmkniakfgpgjaaGreatDoorZ16
import Derived.Test.YtfmkniakfgpgjaaGreatDoorZ01
import Derived.ProofKit
import Derived.OpenShut
import Derived.ShutString
import Derived.ChangeOld
import Derived.Deep.Slices
import Derived.Deep.Fields
import Derived.ChangeArms
/- the document's Changed. -/
namespace Go.Proofs.YtfmkniakfgpgjaaGreatDoor
open Go.RowKit Go.KK Go.Shelf Go.Maps
set_option linter.unusedVariables false
set_option linter.unusedSimpArgs false

set_option maxHeartbeats 8000000 in
set_option maxRecDepth 20000 in
theorem rchanged_any (A : Option Addr) (n c : Nat) (l : List Int) (B : Option Addr) (m d : Nat) (l' : List Int) (w : World) (h : SlA w 1 A n c (l.map (.int .i64))) (h' : SlA w 1 B m d (l'.map (.int .i64))) (hn : n ≤ 1000000) (hm : m ≤ 1000000) :
    Calls Tryz.prog 24 #[.slice A n c, .slice B m d] w fun e w' => ∃ v, e = .returned v ∧ w'.ownsRow w.heap.size 3 1 v (chF l l').length ((chF l l').map (.int .i64)) ∧ Below w.heap.size w w' := by
  have HS := hid h; have HS' := hid h'
  have HL := hid h.lenI; have HL' := hid h'.lenI
  clear h h'
  have HM := hid (show chF l l' = chL l l' (max n m) by unfold chF; rw [HL.out, HL'.out])
  obtain ⟨i0, hi, hz0, hz1, hz2⟩ := info_parts Tryz.infoInt
  have hN : max n m ≤ 1000000 := by omega
  generalize hmx : max n m = M at *
  have HMX := hid hmx; clear hmx
  have HX := hid (show (max (n : Int) (m : Int)) = (M : Int) by have := HMX.out; omega)
  go_enter Tryz.func24, Tryz.ntmps24
  go_wp2
  try rw [HX.out]

  go_loopw [12, 5] (fun i v wr => ∃ j : Nat, i = .int .i64 j ∧ j ≤ M ∧ wr.ownsRow w.heap.size 3 1 v (chL l l' j).length ((chL l l' j).map (.int .i64)) ∧ Below w.heap.size w wr) (fun i _ _ => M - (intOf i).toNat)
  case atStart => exact ⟨0, rfl, by omega, World.ownsRow_nil _ _ _ _, Below.refl _ _⟩
  case round =>
    obtain ⟨j, hi1, hj, hown, hbr⟩ := hrel
    subst hi1
    have HBr := hid hbr; clear hbr
    by_cases hlt : j < M
    · have hlt' : (j : Int) < (M : Int) := by omega
      by_cases hin : j < n ∧ j < m
      · obtain ⟨b, o, z, rfl, hz, hc⟩ := (HS.out.ext HBr.out).elemI hin.1
        obtain ⟨b', o', z', rfl, hz', hc'⟩ := (HS'.out.ext HBr.out).elemI hin.2
        have HC := hid (chB_at hz hz')
        have hj0 : (0 : Int) ≤ (j : Int) := by omega
        have hj1 : (j : Int) < (n : Int) := by omega
        have hj2 : (j : Int) < (m : Int) := by omega
        have hge : ¬ (min (n : Int) (m : Int) ≤ (j : Int)) := by omega
        clear hz hz'
        by_cases hzx : z = z'
        · have HJ := hid (chL_no (l := l) (m := l') (j := j) (by rw [HC.out, hzx]; simp))
          have hzx' : (z != z') = false := by rw [hzx]; simp
          clear hzx
          go_wp2
          go_quiet (fail)
          go_wp2
          go_roundw
          case rel => exact ⟨j + 1, by go_num, by omega, by rw [HJ.out]; exact hown, below_drewN HBr.out nq⟩
          case measure => simp [intOf]; omega
        · have HJ := hid (chL_yes (l := l) (m := l') (j := j) (by rw [HC.out]; exact bne_iff_ne.2 hzx))
          have hzx' : (z != z') = true := bne_iff_ne.2 hzx
          clear hzx
          go_wp2
          go_quiet (fail)
          have HO3 := hid ((show (wr.drewN nq).ownsRow w.heap.size 3 1 _ _ _ from hown).alloc (.cells #[.int .i64 j] 3))
          have HLT := hid (SlA.lit1 (w := wr.drewN nq) (T := 3) (.int .i64 j))
          have HBz := hid (below_drewN HBr.out nq)
          have HZ := hid (HBz.out.alloc HBz.out.size (.cells #[.int .i64 j] 3)).size
          have HML := hid (chL_le l l' j)
          go_wp2_with (at_builtin; refine wpList_append_sl _ rfl _ _ 33 rfl w.heap.size 3 i0 (.int .i64 0) 1 8 Tryz.underlying33 hi hz0 hz1 hz2 rfl (by decide) _ _ _ rfl HO3.out _ 1 1 _ rfl HLT.out (one_int _ _) (by have := HML.out; unfold maxLen; omega) (by have := HML.out; omega) HZ.out ?_; intro v3 w3 hown4 hg4 _; have HO4 := hid hown4; have HG4 := hid hg4; clear hown4 hg4)
          go_roundw
          case rel =>
            refine ⟨j + 1, by go_num, by omega, ?_, below_append (HBz.out.alloc HBz.out.size _) HG4.out HO3.out (Nat.le_refl _) HZ.out⟩
            rw [HJ.out, List.map_append, List.length_append]
            exact HO4.out
          case measure => simp [intOf]; omega
      · have HJ := hid (chL_yes (l := l) (m := l') (j := j) (chB_out (by rw [HL.out, HL'.out]; exact hin)))
        by_cases h1 : j < n
        · have hj1 : (j : Int) < (n : Int) := by omega
          have hj2 : ¬ ((j : Int) < (m : Int)) := by omega
          have hj1' : ¬ ((n : Int) ≤ (j : Int)) := by omega
          have hj2' : (m : Int) ≤ (j : Int) := by omega
          have hj3 : m ≤ j := by omega
          have hj4 : ¬ n ≤ j := by omega
          have hd1 : decide ((m : Int) ≤ (j : Int)) = true := decide_eq_true hj2'
          have hd2 : decide ((n : Int) ≤ (j : Int)) = false := decide_eq_false hj1'
          clear hin
          go_wp2
          go_quiet (fail)
          have HO3 := hid ((show (wr.drewN nq).ownsRow w.heap.size 3 1 _ _ _ from hown).alloc (.cells #[.int .i64 j] 3))
          have HLT := hid (SlA.lit1 (w := wr.drewN nq) (T := 3) (.int .i64 j))
          have HBz := hid (below_drewN HBr.out nq)
          have HZ := hid (HBz.out.alloc HBz.out.size (.cells #[.int .i64 j] 3)).size
          have HML := hid (chL_le l l' j)
          go_wp2_with (at_builtin; refine wpList_append_sl _ rfl _ _ 33 rfl w.heap.size 3 i0 (.int .i64 0) 1 8 Tryz.underlying33 hi hz0 hz1 hz2 rfl (by decide) _ _ _ rfl HO3.out _ 1 1 _ rfl HLT.out (one_int _ _) (by have := HML.out; unfold maxLen; omega) (by have := HML.out; omega) HZ.out ?_; intro v3 w3 hown4 hg4 _; have HO4 := hid hown4; have HG4 := hid hg4; clear hown4 hg4)
          go_roundw
          case rel =>
            refine ⟨j + 1, by go_num, by omega, ?_, below_append (HBz.out.alloc HBz.out.size _) HG4.out HO3.out (Nat.le_refl _) HZ.out⟩
            rw [HJ.out, List.map_append, List.length_append]
            exact HO4.out
          case measure => simp [intOf]; omega
        · have hj1 : ¬ ((j : Int) < (n : Int)) := by omega
          have hj1' : (n : Int) ≤ (j : Int) := by omega
          go_wp2
          go_quiet (fail)
          have HO3 := hid ((show (wr.drewN nq).ownsRow w.heap.size 3 1 _ _ _ from hown).alloc (.cells #[.int .i64 j] 3))
          have HLT := hid (SlA.lit1 (w := wr.drewN nq) (T := 3) (.int .i64 j))
          have HBz := hid (below_drewN HBr.out nq)
          have HZ := hid (HBz.out.alloc HBz.out.size (.cells #[.int .i64 j] 3)).size
          have HML := hid (chL_le l l' j)
          go_wp2_with (at_builtin; refine wpList_append_sl _ rfl _ _ 33 rfl w.heap.size 3 i0 (.int .i64 0) 1 8 Tryz.underlying33 hi hz0 hz1 hz2 rfl (by decide) _ _ _ rfl HO3.out _ 1 1 _ rfl HLT.out (one_int _ _) (by have := HML.out; unfold maxLen; omega) (by have := HML.out; omega) HZ.out ?_; intro v3 w3 hown4 hg4 _; have HO4 := hid hown4; have HG4 := hid hg4; clear hown4 hg4)
          go_roundw
          case rel =>
            refine ⟨j + 1, by go_num, by omega, ?_, below_append (HBz.out.alloc HBz.out.size _) HG4.out HO3.out (Nat.le_refl _) HZ.out⟩
            rw [HJ.out, List.map_append, List.length_append]
            exact HO4.out
          case measure => simp [intOf]; omega
    · have hjn : j = M := by omega
      have HJ := hid hjn; clear hjn
      go_wp2
      go_ret
      refine ⟨_, rfl, ?_, HBr.out⟩
      rw [HM.out, ← HJ.out]
      exact hown
end Go.Proofs.YtfmkniakfgpgjaaGreatDoor

/- nodes' law: live. -/
namespace Go.Proofs.YtfmkniakfgpgjaaGreatDoor
open Go.RowKit Go.KK Go.Shelf Go.Maps
set_option linter.unusedVariables false
set_option linter.unusedSimpArgs false

/-- The epoch's box, cell by cell. -/
theorem box11 {V : World} {b0 : Nat} {e0 e1 e2 e3 e4 e5 e6 e7 e8 e9 e10 : Int} (h : HasO (.cells #[.int .i64 e0, .int .i64 e1, .int .i64 e2, .int .i64 e3, .int .i64 e4, .int .i64 e5, .int .i64 e6, .int .i64 e7, .int .i64 e8, .int .i64 e9, .int .i64 e10] 29 (0, 0)) b0 V) : V.cell? ⟨b0, 0, none⟩ = some (.int .i64 e0) ∧ V.cell? ⟨b0, 1, none⟩ = some (.int .i64 e1) ∧ V.cell? ⟨b0, 2, none⟩ = some (.int .i64 e2) ∧ V.cell? ⟨b0, 3, none⟩ = some (.int .i64 e3) ∧ V.cell? ⟨b0, 4, none⟩ = some (.int .i64 e4) ∧ V.cell? ⟨b0, 5, none⟩ = some (.int .i64 e5) ∧ V.cell? ⟨b0, 6, none⟩ = some (.int .i64 e6) ∧ V.cell? ⟨b0, 7, none⟩ = some (.int .i64 e7) ∧ V.cell? ⟨b0, 8, none⟩ = some (.int .i64 e8) ∧ V.cell? ⟨b0, 9, none⟩ = some (.int .i64 e9) ∧ V.cell? ⟨b0, 10, none⟩ = some (.int .i64 e10) := by
  refine ⟨?_, ?_, ?_, ?_, ?_, ?_, ?_, ?_, ?_, ?_, ?_⟩ <;> (rw [cell_of_row _ b0 _ _ _ (0, 0) h]; rfl)
def q0 : List Value := [.slice none 0 0, .slice none 0 0, .slice none 0 0]
theorem trq0 {V : World} {A : Option Addr} (h : SlA V 6 A 3 3 (ncs lt0 q0)) : TrQ V A 3 3 lt0 q0 := by
  refine ⟨rfl, h, fun j x q hx hq => ?_⟩
  have : j = 0 ∨ j = 1 ∨ j = 2 := by have := (List.getElem?_eq_some_iff.1 hx).1; change j < 3 at this; omega
  rcases this with rfl | rfl | rfl <;> (injection hx with hx; injection hq with hq; subst hx; subst hq; exact ⟨none, 0, rfl, SlA.nil _ _⟩)
theorem lt0_i : ∀ m ∈ lt0, TnI m := by
  intro m hm
  have h : ∀ i : Int, 0 ≤ i → i ≤ 100 → I64 i := fun i h0 h1 => ⟨by omega, by omega⟩
  simp only [lt0, List.mem_cons, List.mem_nil_iff, or_false] at hm
  rcases hm with rfl | rfl | rfl <;> exact ⟨h _ (by decide) (by decide), h _ (by decide) (by decide), h _ (by decide) (by decide), h _ (by decide) (by decide), h _ (by decide) (by decide), fun i hi => by simp at hi⟩
theorem lt0_u : ∀ m ∈ lt0, m.u.length ≤ 1000 := by decide
theorem lt0_same : sameT lt0 (lt0.map nrm) = true := by decide
theorem lt0_short : Shorts lt0 ∧ Shorts (lt0.map nrm) := by
  have h : ∀ t : List TN, (∀ m ∈ t, m.u.length ≤ 1000) → Shorts t := fun t ht j q hq => by have := ht q (List.mem_of_getElem? hq); omega
  exact ⟨h _ lt0_u, h _ (by decide)⟩
set_option maxHeartbeats 4000000 in
set_option maxRecDepth 100000 in
theorem live22_any (w : World) (hT : Tb w.heap.size w) : Calls Tryz.prog 8 #[] w fun e w' => e = .returned (.bool true) ∧ Below w.heap.size w w' := by
  have HT := hid hT
  clear hT
  go_enter Tryz.func8, Tryz.ntmps8
  go_wp2_with fail
  refine (two22_any w HT.out).mono ?_
  rintro e w3 ⟨sa, sb, Z, Z', X, ep, rfl, hE, htx⟩
  have HE := hid hE
  obtain ⟨e0, e1, e2, e3, e4, e5, e6, e7, e8, e9, e10, rfl⟩ := len11 hE.len
  have HP := hid (two_box htx.a (.cells #[.int .i64 e0, .int .i64 e1, .int .i64 e2, .int .i64 e3, .int .i64 e4, .int .i64 e5, .int .i64 e6, .int .i64 e7, .int .i64 e8, .int .i64 e9, .int .i64 e10] 29) (.cells #[.int .i64 e0, .int .i64 e1, .int .i64 e2, .int .i64 e3, .int .i64 e4, .int .i64 e5, .int .i64 e6, .int .i64 e7, .int .i64 e8, .int .i64 e9, .int .i64 e10] 29))
  clear hE htx
  unfold epV
  go_upto_region 2 with fail
  generalize w3.heap.size = b0 at *
  refine forget (R := fun V => LA w V Z sa X ∧ HasO (.cells #[.int .i64 e0, .int .i64 e1, .int .i64 e2, .int .i64 e3, .int .i64 e4, .int .i64 e5, .int .i64 e6, .int .i64 e7, .int .i64 e8, .int .i64 e9, .int .i64 e10] 29 (0, 0)) b0 V ∧ ¬ Z b0 ∧ w.heap.size ≤ b0) ?_ HP.out
  clear HP
  rintro V ⟨hla, hbx, hzb, hwb⟩
  have HL := hid hla; have HB := hid hbx; have HZ := hid hzb
  clear hla hbx hzb hwb
  obtain ⟨k0, k1, k2, k3, k4, k5, k6, k7, k8, k9, k10⟩ := box11 (HB.out.alloc (o' := .cells #[.int .i64 1, .int .i64 3, .int .i64 4, .int .i64 5, .int .i64 6, .slice none 0 0, .int .i64 0, .int .i64 0, .int .i64 0, .int .i64 0, .int .i64 0, .slice none 0 0, .int .i64 0, .int .i64 0, .int .i64 0, .int .i64 0, .int .i64 0, .slice none 0 0] 46))
  have HLT := hid (HL.out.alloc (.cells #[.int .i64 1, .int .i64 3, .int .i64 4, .int .i64 5, .int .i64 6, .slice none 0 0, .int .i64 0, .int .i64 0, .int .i64 0, .int .i64 0, .int .i64 0, .slice none 0 0, .int .i64 0, .int .i64 0, .int .i64 0, .int .i64 0, .int .i64 0, .slice none 0 0] 46))
  have HO := hid (World.ownsRow_lit (e := 46) (base := 0) (size := 6) V #[.int .i64 1, .int .i64 3, .int .i64 4, .int .i64 5, .int .i64 6, .slice none 0 0, .int .i64 0, .int .i64 0, .int .i64 0, .int .i64 0, .int .i64 0, .slice none 0 0, .int .i64 0, .int .i64 0, .int .i64 0, .int .i64 0, .int .i64 0, .slice none 0 0] 3 (Nat.zero_le _) (by unfold maxLen; omega) rfl)
  have HNZ := hid (show ¬ Z V.heap.size from fun hz => by have := HL.out.ar.zlt _ hz; omega)
  have HFT := hid (show Fx (V.alloc (.cells #[.int .i64 1, .int .i64 3, .int .i64 4, .int .i64 5, .int .i64 6, .slice none 0 0, .int .i64 0, .int .i64 0, .int .i64 0, .int .i64 0, .int .i64 0, .slice none 0 0, .int .i64 0, .int .i64 0, .int .i64 0, .int .i64 0, .int .i64 0, .slice none 0 0] 46)) Z fun U => TrQ U (some ⟨V.heap.size, 0, none⟩) 3 3 lt0 q0 from
    (fx_own HO.out (fun b hb => by injection hb with hb; simp only at hb; subst hb; exact HNZ.out)).mono fun U hU => trq0 (SlA.of_own hU).2)
  have HFB := hid (fx_has (Z := Z) (HB.out.alloc (o' := .cells #[.int .i64 1, .int .i64 3, .int .i64 4, .int .i64 5, .int .i64 6, .slice none 0 0, .int .i64 0, .int .i64 0, .int .i64 0, .int .i64 0, .int .i64 0, .slice none 0 0, .int .i64 0, .int .i64 0, .int .i64 0, .int .i64 0, .int .i64 0, .slice none 0 0] 46)) HZ.out)
  have HLK := hid (lock_any HLT.out HT.out HE.out.len HE.out.i5 (cx := 7) (i64_lit (by decide) (by decide)) HFT.out lt0_i lt0_u (by omega))
  rw [epV11, HE.out.lv] at HLK
  have HLKD := hid (lock_ok HE.out.lv)
  have HLEN := hid (lock_len (X := X) [e0, e1, e2, e3, e4, e5, e6, e7, e8, e9, e10] 7 lt0 (k := 0) (by decide))
  have HEX := hid (lock_ext X [e0, e1, e2, e3, e4, e5, e6, e7, e8, e9, e10] 7 lt0); have HE5 := hid (nx_has HE.out.nx HL.out.ar.ok).2
  generalize lockF X [e0, e1, e2, e3, e4, e5, e6, e7, e8, e9, e10] 7 lt0 = r at *
  generalize beI X [e0, e1, e2, e3, e4, e5, e6, e7, e8, e9, e10] 7 = ex at *
  obtain ⟨Y, l, er⟩ := r
  have HLL := hid HLKD.out.ll
  change Hid (l.length = 3) at HLL
  dsimp only at HLK HLKD HLEN HEX
  rw [HLL.out] at HLK
  clear HL HB HZ HO HNZ
  generalize hbt : V.heap.size = bt at *
  go_wp2_with fail
  refine HLK.out.mono ?_
  rintro e w4 ⟨Z4, v, rfl, l4, m4, o4, z4⟩
  obtain ⟨A4, c4, rfl⟩ := own_shape o4
  have HL4 := hid l4
  have HFL4 := hid ((fx_own o4 z4).mono fun U hU => (SlA.of_own hU).2)
  have HFT4 := hid (HFT.out.mv m4); have HFB4 := hid (HFB.out.mv m4)
  clear l4 o4 z4 m4 HLK HLT HFT HFB k0 k1 k2 k3 k4 k5 k6 k7 k8 k9 k10
  have HOK := hid HL4.out.ar.ok
  have HBA := hid (be_again HOK.out HLKD.out.xp)
  have HOP := hid (open_any HL4.out HT.out HE.out.len HE.out.i5 (cx := 7) (i64_lit (by decide) (by decide)) HFL4.out (by omega) (m := 3) (t := lt0) (Nat.le_refl _) rfl (by rw [HBA.out.1]) (fun j hj => by rw [HBA.out.1, HBA.out.2]; exact HLKD.out.at' j hj) (fun q hq => ⟨badN_g (HLKD.out.good q hq), lt0_u q hq⟩) (.inl rfl))
  rw [epV11, HBA.out.1] at HOP
  unfold OpS at HOP
  obtain ⟨k0, k1, k2, k3, k4, k5, k6, k7, k8, k9, k10⟩ := box11 HFB4.out.here
  go_wp2_with fail
  refine HOP.out.mono ?_
  rintro e w5 ⟨Z5, m5, ⟨-, l5, v5, qs5, rfl, hou⟩ | ⟨hlt, -⟩⟩
  rotate_left
  · exact absurd hlt (Nat.lt_irrefl _)
  obtain ⟨A5, c5, rfl, fx5⟩ := hou.fx
  have HL5 := hid l5; have HFU5 := hid fx5
  have HFL5 := hid (HFL4.out.mv m5); have HFT5 := hid (HFT4.out.mv m5); have HFB5 := hid (HFB4.out.mv m5)
  clear l5 fx5 hou m5 HOP HFL4 HFT4 HFB4 HL4 k0 k1 k2 k3 k4 k5 k6 k7 k8 k9 k10
  obtain ⟨mx, rfl⟩ := HEX.out
  have HNO := hid (no_open (ep := [e0, e1, e2, e3, e4, e5, e6, e7, e8, e9, e10]) (m := 0) rfl (HLKD.out.at' 0 (by decide)) (cx' := 8) (has_iff.2 ⟨by decide, by have := HE.out.lo; rw [List.length_append]; omega⟩) (has_ext HE5.out mx) (by have h1 := HLEN.out; have := HE.out.sm; rw [show lt0.length = 3 from rfl] at h1; omega) (by decide) (.inr (.inr (by decide))))
  have HOP := hid (open_any HL5.out HT.out HE.out.len HE.out.i5 (cx := 8) (i64_lit (by decide) (by decide)) HFL5.out (by omega) (m := 0) (t := []) (Nat.zero_le _) rfl HNO.out.1 (fun j hj => absurd hj (Nat.not_lt_zero _)) (fun q hq => by simp at hq) (.inr ⟨by decide, HNO.out.2⟩))
  rw [epV11] at HOP
  unfold OpS at HOP
  clear HNO
  generalize beF (X ++ mx) [e0, e1, e2, e3, e4, e5, e6, e7, e8, e9, e10] 8 = B8 at *
  generalize beI (X ++ mx) [e0, e1, e2, e3, e4, e5, e6, e7, e8, e9, e10] 8 = I8 at *
  obtain ⟨k0, k1, k2, k3, k4, k5, k6, k7, k8, k9, k10⟩ := box11 HFB5.out.here
  go_wp2_with fail
  refine HOP.out.mono ?_
  rintro e w6 ⟨Z6, m6, ⟨h0, -⟩ | ⟨-, l6, rfl⟩⟩
  · exact absurd h0 (by decide)
  have HB6 := hid l6.bl
  have HFU6 := hid (HFU5.out.mv m6); have HFT6 := hid (HFT5.out.mv m6)
  clear l6 m6 HOP HFL5 HFB5 HL5 HFT5 HFU5 k0 k1 k2 k3 k4 k5 k6 k7 k8 k9 k10
  have HSA := hid (rsame_any _ _ _ lt0 _ _ _ (lt0.map nrm) w6 HFT6.out.here.tr HFU6.out.here.tr (by omega) (by decide) lt0_short.1 lt0_short.2)
  rw [lt0_same] at HSA
  go_wp2_with fail
  refine HSA.out.mono ?_
  rintro e w7 ⟨rfl, b7⟩
  have HB7 := hid (HB6.out.trans (b7.mono HB6.out.size))
  clear b7 HSA HFU6 HFT6
  have HC0 := hid (sla_row (w := w7) (T := 3) #[.int .i64 1, .int .i64 2] (by unfold maxLen; simp))
  have HC1 := hid (show SlA ((w7.alloc (.cells #[.int .i64 1, .int .i64 2] 3)).alloc (.cells #[.int .i64 1, .int .i64 3, .int .i64 4] 3)) 1 (some ⟨w7.heap.size + 1, 0, none⟩) 3 3 [.int .i64 1, .int .i64 3, .int .i64 4] from by
    have h := sla_row (w := w7.alloc (.cells #[.int .i64 1, .int .i64 2] 3)) (T := 3) #[.int .i64 1, .int .i64 3, .int .i64 4] (by unfold maxLen; simp)
    rw [size_al] at h
    exact h)
  have HCH := hid (changed_any (some ⟨w7.heap.size, 0, none⟩) 2 2 [1, 2] (some ⟨w7.heap.size + 1, 0, none⟩) 3 3 [1, 3, 4] _ (HC0.out.alloc (.cells #[.int .i64 1, .int .i64 3, .int .i64 4] 3)) HC1.out (by omega) (by omega))
  rw [show chF [1, 2] [1, 3, 4] = [1, 2] from by decide] at HCH
  have HB8 := hid (((HB7.out.alloc HB7.out.size (.cells #[.int .i64 1, .int .i64 2] 3)).alloc (HB7.out.alloc HB7.out.size _).size (.cells #[.int .i64 1, .int .i64 3, .int .i64 4] 3)))
  clear HC0 HC1 HB6 HB7
  go_wp2_with fail
  refine HCH.out.mono ?_
  rintro e w8 ⟨v8, rfl, o8, b8⟩
  obtain ⟨A8, c8, rfl, s8⟩ := SlA.owned o8
  have HB9 := hid (HB8.out.trans (b8.mono HB8.out.size))
  have HSI := hid (same_ints A8 2 c8 [1, 2] (some ⟨w8.heap.size, 0, none⟩) 2 2 [1, 2] (w8.alloc (.cells #[.int .i64 1, .int .i64 2] 3)) (SlA.alloc (show SlA w8 1 A8 2 c8 ([1, 2].map (.int .i64)) from s8) _) (sla_row (w := w8) (T := 3) #[.int .i64 1, .int .i64 2] (by unfold maxLen; simp)) (by omega) (by omega))
  rw [show (([1, 2] : List Int) == [1, 2]) = true from by decide] at HSI
  clear o8 b8 s8 HB8 HCH
  go_wp2_with fail
  refine HSI.out.mono ?_
  rintro e w9 ⟨rfl, q9, rfl⟩
  have HBA := hid (below_drewN (HB9.out.alloc HB9.out.size (.cells #[.int .i64 1, .int .i64 2] 3)) q9)
  go_wp2_with fail
  go_ret
  exact ⟨rfl, HBA.out⟩
end Go.Proofs.YtfmkniakfgpgjaaGreatDoor

/- nodes' law: few. -/
namespace Go.Proofs.YtfmkniakfgpgjaaGreatDoor
open Go.RowKit Go.KK Go.Shelf Go.Maps
set_option linter.unusedVariables false
set_option linter.unusedSimpArgs false

/-- A tree is small. -/
def fewN (xs : List TN) : Bool := !((decide (70 < xs.length) && decide (xs.length ≤ 511)) || decide (600 < xs.length)) && xs.all fun x => decide (x.u.length ≤ 30)
/-- A value that reads as a tree. -/
def TrW22 (w : World) (v : Value) (xs : List TN) : Prop := ∃ A n c, v = .slice A n c ∧ Tr w A n c xs
theorem TrW22.ext {w w' : World} {v : Value} {xs : List TN} (h : TrW22 w v xs) (hb : Below w.heap.size w w') : TrW22 w' v xs := by
  obtain ⟨A, n, c, e, ht⟩ := h
  exact ⟨A, n, c, e, ht.ext hb⟩
set_option maxHeartbeats 1000000 in
theorem nfew_any (A : Option Addr) (m c : Nat) (vs : List Value) (ts : List (List TN)) (w : World) (h : SlA w 1 A m c vs) (hts : ts.length = m) (hm : m ≤ 10) (hv : ∀ (j : Nat) v xs, vs[j]? = some v → ts[j]? = some xs → TrW22 w v xs) :
    Calls Tryz.prog 9 #[.slice A m c] w fun e w' => e = .returned (.bool (ts.all fewN)) ∧ Below w.heap.size w w' := by
  have H := hid h; have HT := hid hts; have HV := hid hv
  have HL := hid h.len
  clear h hts hv
  go_enter Tryz.func9, Tryz.ntmps9
  go_wp2
  go_loopw [9, 2] (fun i _ wr => ∃ j : Nat, i = .int .i64 j ∧ j ≤ m ∧ Hid (∀ k xs, k < j → ts[k]? = some xs → fewN xs = true) ∧ Below w.heap.size w wr) (fun i _ _ => m - (intOf i).toNat)
  case atStart => exact ⟨0, rfl, by omega, hid (fun k _ hk => by omega), Below.refl _ _⟩
  case round =>
    obtain ⟨j, hi, hj, HJ, hbr⟩ := hrel
    subst hi
    have HB := hid hbr; clear hbr
    by_cases hlt : j < m
    · obtain ⟨b, o, v, rfl, hu, hc⟩ := (H.out.ext HB.out).elem hlt
      have hx : ts[j]? = some (ts[j]'(by rw [HT.out]; exact hlt)) := List.getElem?_eq_getElem _
      generalize ts[j]'(by rw [HT.out]; exact hlt) = xs at hx
      obtain ⟨A2, n2, c2, rfl, htr⟩ := (HV.out j v xs hu hx).ext HB.out
      have HX := hid hx
      have hlen := htr.len
      have hnc := htr.nc
      have hmx : n2 ≤ 9223372036854775807 := by have := hnc.2; have := hnc.1; unfold maxLen at *; omega
      have HUU := hid hu
      have HLEN := hid hlen
      have hzr := HB.out.size
      clear hx hu htr hlen hnc
      have hno : fewN xs = false → ts.all fewN = false := fun h => by
        rcases hh : ts.all fewN with _ | _
        · rfl
        · have := List.all_eq_true.1 hh xs (List.mem_of_getElem? HX.out)
          rw [h] at this; cases this
      have HNO := hid hno
      clear hno
      by_cases hA : n2 ≤ 70
      · have HTEST := hid (show ((decide (70 < n2) && decide (n2 ≤ 511)) || decide (600 < n2)) = false by rw [decide_eq_false (by omega : ¬ 70 < n2), decide_eq_false (by omega : ¬ 600 < n2)]; rfl)
        go_wp2
        obtain ⟨wo, rfl⟩ : ∃ wo : World, wo = wr := ⟨_, rfl⟩
        go_loopw [28, 2] (fun i _ w2 => ∃ k : Nat, i = .int .i64 k ∧ k ≤ n2 ∧ Hid (∀ t x, t < k → xs[t]? = some x → x.u.length ≤ 30) ∧ Below w.heap.size w w2) (fun i _ _ => n2 - (intOf i).toNat)
        case atStart => exact ⟨0, rfl, by omega, hid (fun k _ hk => by omega), HB.out⟩
        case round =>
          obtain ⟨k, hi, hk, HK, hb2⟩ := hrel
          subst hi
          have HB2 := hid hb2; clear hb2
          have HTV := hid ((HV.out j _ xs HUU.out HX.out).ext HB2.out)
          by_cases hkn : k < n2
          · have htr2 : Tr wr A2 n2 c2 xs := by
              obtain ⟨A3, n3, c3, e, ht3⟩ := HTV.out
              injection e with e1 e2 e3
              subst e1; subst e2; subst e3
              exact ht3
            obtain ⟨b1, o1, x, A4, c4, rfl, hx, d0, d1, d2, d3, d4, d5, hsx⟩ := htr2.at hkn
            have hxm := hsx.cm
            have hxn := hsx.nc
            have hxl : x.u.length ≤ 9223372036854775807 := by unfold maxLen at hxm; omega
            have HXX := hid hx
            have hz2 := HB2.out.size
            clear hx hsx hxm hxn htr2
            by_cases h30 : x.u.length ≤ 30
            · go_wp2
              go_roundw
              case rel => exact ⟨k + 1, by go_num, by omega, hid (fun t y ht hy => by
                by_cases htk : t < k
                · exact HK.out t y htk hy
                · rw [show t = k by omega, HXX.out] at hy
                  injection hy with hy
                  rw [← hy]; exact h30), HB2.out.alloc hz2 _⟩
              case measure => simp [intOf]; omega
            · have HF := hid (HNO.out (by
                unfold fewN
                rcases hh : xs.all (fun x => decide (x.u.length ≤ 30)) with _ | _
                · rw [Bool.and_false]
                · have := List.all_eq_true.1 hh x (List.mem_of_getElem? HXX.out)
                  exact absurd (of_decide_eq_true this) h30))
              go_wp2
              go_ret
              exact ⟨by rw [HF.out]; rfl, HB2.out.alloc hz2 _⟩
          · have HF := hid (show fewN xs = true by
              unfold fewN
              rw [HLEN.out, HTEST.out, Bool.not_false, Bool.true_and, List.all_eq_true]
              intro x hx
              obtain ⟨t, ht, e⟩ := List.mem_iff_getElem.1 hx
              exact decide_eq_true (HK.out t x (by have := HLEN.out; omega) (by rw [← e]; exact List.getElem?_eq_getElem ht)))
            go_wp2
            go_roundw
            case rel => exact ⟨j + 1, by go_num, by omega, hid (fun t y ht hy => by
              by_cases htj : t < j
              · exact HJ.out t y htj hy
              · rw [show t = j by omega, HX.out] at hy
                injection hy with hy
                rw [← hy]; exact HF.out), HB2.out⟩
            case measure => simp [intOf]; omega
      · by_cases hC : n2 ≤ 511
        · have HTEST := hid (show ((decide (70 < n2) && decide (n2 ≤ 511)) || decide (600 < n2)) = true by rw [decide_eq_true (by omega : 70 < n2), decide_eq_true hC]; rfl)
          have HF := hid (HNO.out (by unfold fewN; rw [HLEN.out, HTEST.out]; rfl))
          go_wp2
          go_ret
          exact ⟨by rw [HF.out]; rfl, HB.out⟩
        · by_cases hD : n2 ≤ 600
          · have HTEST := hid (show ((decide (70 < n2) && decide (n2 ≤ 511)) || decide (600 < n2)) = false by rw [decide_eq_true (by omega : 70 < n2), decide_eq_false hC, decide_eq_false (by omega : ¬ 600 < n2)]; rfl)
            go_wp2
            obtain ⟨wo, rfl⟩ : ∃ wo : World, wo = wr := ⟨_, rfl⟩
            go_loopw [28, 2] (fun i _ w2 => ∃ k : Nat, i = .int .i64 k ∧ k ≤ n2 ∧ Hid (∀ t x, t < k → xs[t]? = some x → x.u.length ≤ 30) ∧ Below w.heap.size w w2) (fun i _ _ => n2 - (intOf i).toNat)
            case atStart => exact ⟨0, rfl, by omega, hid (fun k _ hk => by omega), HB.out⟩
            case round =>
              obtain ⟨k, hi, hk, HK, hb2⟩ := hrel
              subst hi
              have HB2 := hid hb2; clear hb2
              have HTV := hid ((HV.out j _ xs HUU.out HX.out).ext HB2.out)
              by_cases hkn : k < n2
              · have htr2 : Tr wr A2 n2 c2 xs := by
                  obtain ⟨A3, n3, c3, e, ht3⟩ := HTV.out
                  injection e with e1 e2 e3
                  subst e1; subst e2; subst e3
                  exact ht3
                obtain ⟨b1, o1, x, A4, c4, rfl, hx, d0, d1, d2, d3, d4, d5, hsx⟩ := htr2.at hkn
                have hxm := hsx.cm
                have hxn := hsx.nc
                have hxl : x.u.length ≤ 9223372036854775807 := by unfold maxLen at hxm; omega
                have HXX := hid hx
                have hz2 := HB2.out.size
                clear hx hsx hxm hxn htr2
                by_cases h30 : x.u.length ≤ 30
                · go_wp2
                  go_roundw
                  case rel => exact ⟨k + 1, by go_num, by omega, hid (fun t y ht hy => by
                    by_cases htk : t < k
                    · exact HK.out t y htk hy
                    · rw [show t = k by omega, HXX.out] at hy
                      injection hy with hy
                      rw [← hy]; exact h30), HB2.out.alloc hz2 _⟩
                  case measure => simp [intOf]; omega
                · have HF := hid (HNO.out (by
                    unfold fewN
                    rcases hh : xs.all (fun x => decide (x.u.length ≤ 30)) with _ | _
                    · rw [Bool.and_false]
                    · have := List.all_eq_true.1 hh x (List.mem_of_getElem? HXX.out)
                      exact absurd (of_decide_eq_true this) h30))
                  go_wp2
                  go_ret
                  exact ⟨by rw [HF.out]; rfl, HB2.out.alloc hz2 _⟩
              · have HF := hid (show fewN xs = true by
                  unfold fewN
                  rw [HLEN.out, HTEST.out, Bool.not_false, Bool.true_and, List.all_eq_true]
                  intro x hx
                  obtain ⟨t, ht, e⟩ := List.mem_iff_getElem.1 hx
                  exact decide_eq_true (HK.out t x (by have := HLEN.out; omega) (by rw [← e]; exact List.getElem?_eq_getElem ht)))
                go_wp2
                go_roundw
                case rel => exact ⟨j + 1, by go_num, by omega, hid (fun t y ht hy => by
                  by_cases htj : t < j
                  · exact HJ.out t y htj hy
                  · rw [show t = j by omega, HX.out] at hy
                    injection hy with hy
                    rw [← hy]; exact HF.out), HB2.out⟩
                case measure => simp [intOf]; omega
          · have HTEST := hid (show ((decide (70 < n2) && decide (n2 ≤ 511)) || decide (600 < n2)) = true by rw [decide_eq_true (by omega : 600 < n2), Bool.or_true])
            have HF := hid (HNO.out (by unfold fewN; rw [HLEN.out, HTEST.out]; rfl))
            go_wp2
            go_ret
            exact ⟨by rw [HF.out]; rfl, HB.out⟩
    · have HF := hid (show ts.all fewN = true from List.all_eq_true.2 fun xs hx => by
        obtain ⟨t, ht, e⟩ := List.mem_iff_getElem.1 hx
        exact HJ.out t xs (by have := HT.out; omega) (by rw [← e]; exact List.getElem?_eq_getElem ht))
      go_wp2
      go_ret
      exact ⟨by rw [HF.out]; rfl, HB.out⟩
end Go.Proofs.YtfmkniakfgpgjaaGreatDoor

/- nodes' law: NodesWrong walked. -/
namespace Go.Proofs.YtfmkniakfgpgjaaGreatDoor
open Go.RowKit Go.KK Go.Shelf Go.Maps
set_option linter.unusedVariables false
set_option linter.unusedSimpArgs false

/-- A number that is brought into a row. -/
def mdF (x : Int) (n : Nat) : Int := (wrap64 (x.tmod n + n)).tmod n
theorem md_in (x : Int) {n : Nat} (h0 : 0 < n) (h1 : n ≤ 1000000) : ∃ k : Nat, k < n ∧ mdF x n = (k : Int) := by
  have a1 : -(n : Int) < x.tmod n := Int.lt_tmod_of_pos x (by omega)
  have a2 : x.tmod n < n := Int.tmod_lt_of_pos x (by omega)
  have e : wrap64 (x.tmod n + n) = x.tmod n + n := by unfold wrap64; omega
  have a3 : 0 ≤ (x.tmod n + n).tmod n := Int.tmod_nonneg _ (by omega)
  have a4 : (x.tmod n + n).tmod n < n := Int.tmod_lt_of_pos _ (by omega)
  unfold mdF
  rw [e]
  exact ⟨((x.tmod n + n).tmod n).toNat, by omega, by omega⟩
theorem lock_no {X : List ND} {ep : List Int} {cx : Int} {t : List TN} (h : (lockF X ep cx t).2.2 ≠ 0) : (lockF X ep cx t).2.1 = [] := by
  unfold lockF at h ⊢
  split
  · rfl
  · rename_i hb
    rw [if_neg hb] at h
    split
    · rename_i he; rw [if_pos he] at h; exact absurd rfl h
    · rfl
theorem fewN_u {t : List TN} (h : fewN t = true) : ∀ m ∈ t, m.u.length ≤ 30 := by
  unfold fewN at h
  rw [Bool.and_eq_true, List.all_eq_true] at h
  exact fun m hm => of_decide_eq_true (h.2 m hm)
theorem fewN_n {t : List TN} (h : fewN t = true) : t.length ≤ 70 ∨ 511 < t.length ∧ t.length ≤ 600 := by
  unfold fewN at h
  rw [Bool.and_eq_true] at h
  have := h.1
  simp at this
  omega
theorem Fx.zk {W : World} {Z : Nat → Prop} {P : World → Prop} (h : Fx W Z P) {g : Nat} (hg : W.heap.size ≤ g) : Fx W (Zk Z g) P := by
  obtain ⟨R, h1, h2⟩ := h
  exact ⟨R, fun b hb => ⟨fun hz => hz.elim (h1 b hb).1 fun e => by have := (h1 b hb).2; omega, (h1 b hb).2⟩, h2⟩
theorem Fx.unz {W : World} {Z : Nat → Prop} {P : World → Prop} {g : Nat} (h : Fx W (Zk Z g) P) : Fx W Z P := by
  obtain ⟨R, h1, h2⟩ := h
  exact ⟨R, fun b hb => ⟨fun hz => (h1 b hb).1 (.inl hz), (h1 b hb).2⟩, h2⟩
/-- What lies elsewhere stays where a row of the call's own is written. -/
theorem Fx.app_set {W W2 : World} {Z : Nat → Prop} {P : World → Prop} (h : Fx W Z P) (hb : Below W.heap.size W W2) {g o : Nat} (hg : W.heap.size ≤ g) (v : Value) : Fx (W2.setCell ⟨g, o, none⟩ v) Z P :=
  (((h.zk hg).ext hb).mv (Mv.set Z W2 g o v)).unz
theorem own_g {g n c b : Nat} (h : (Value.slice (some ⟨g, 0, none⟩) n c).ownBlock = some b) : b = g := by injection h with h; exact h.symm
/-- One list, one place of which holds another one's. -/
theorem set_same {l : List Int} {i : Nat} (h : i < l.length) : l.set i (l.getD i 0) = l := by
  refine ext_getD (by simp) fun k hk => ?_
  rw [List.length_set] at hk
  rw [getD_set hk]
  split
  · rename_i e; rw [e]
  · rfl
theorem take_tn {t : List TN} {i j : Nat} (h : j < i) : (t.take i).getD j tn0 = t.getD j tn0 := by
  rw [List.getD_eq_getElem?_getD, List.getD_eq_getElem?_getD, List.getElem?_take, if_pos h]
set_option maxHeartbeats 4000000 in
set_option maxRecDepth 100000 in
theorem wrong_go (A : Option Addr) (n c : Nat) (t : List TN) (i j : Int) (w : World) (ht : Tr w A n c t) (hti : ∀ m ∈ t, TnI m) (hT : Tb w.heap.size w) :
    Calls Tryz.prog 5 #[.slice A n c, .int .i64 i, .int .i64 j] w fun e w' => e = .returned (.bool true) ∧ Below w.heap.size w w' := by
  have HT := hid hT; have HTR := hid ht; have HTI := hid hti
  have HTL := hid ht.len
  have hnc := ht.nc
  have hnm : n ≤ 9223372036854775807 := by have := hnc.1; have := hnc.2; unfold maxLen at *; omega
  have HLV := hid (live22_any w hT)
  clear hT ht hti hnc
  go_enter Tryz.func5, Tryz.ntmps5
  go_wp2_with fail
  refine HLV.out.mono ?_
  rintro e w1 ⟨rfl, b1⟩
  have HB1 := hid b1
  have HTR1 := hid (HTR.out.ext b1)
  have HFW := hid (nfew_any (some ⟨w1.heap.size, 0, none⟩) 1 1 [.slice A n c] [t] (w1.alloc (.cells #[.slice A n c] 22)) (SlA.lit1 _) rfl (by decide) (fun j v xs hv hx => by
    rcases j with _ | j
    · injection hv with hv; injection hx with hx; subst hv; subst hx
      exact ⟨A, n, c, rfl, HTR1.out.alloc _⟩
    · simp at hv))
  have HB1a := hid (HB1.out.alloc HB1.out.size (.cells #[.slice A n c] 22))
  clear b1 HLV
  rcases hfw : [t].all fewN with _ | _
  · rw [hfw] at HFW
    clear hfw
    go_wp2_with fail
    refine HFW.out.mono ?_
    rintro e w2 ⟨rfl, b2⟩
    have HB2 := hid (HB1a.out.trans (b2.mono HB1a.out.size))
    clear b2 HFW
    go_wp2_with fail
    go_ret
    exact ⟨rfl, HB2.out⟩
  rw [hfw] at HFW
  have HU := hid (fewN_u (List.all_eq_true.1 hfw t (by simp)))
  clear hfw
  by_cases h70 : 70 < n
  · have h70' : (70 : Int) < (n : Int) := by omega
    go_wp2_with fail
    refine HFW.out.mono ?_
    rintro e w2 ⟨rfl, b2⟩
    have HB2 := hid (HB1a.out.trans (b2.mono HB1a.out.size))
    clear b2 HFW
    go_wp2_with fail
    go_ret
    exact ⟨rfl, HB2.out⟩
  have h70' : ¬ (70 : Int) < (n : Int) := by omega
  by_cases hn0 : n = 0
  · subst hn0
    go_wp2_with fail
    refine HFW.out.mono ?_
    rintro e w2 ⟨rfl, b2⟩
    have HB2 := hid (HB1a.out.trans (b2.mono HB1a.out.size))
    clear b2 HFW
    go_wp2_with fail
    go_ret
    exact ⟨rfl, HB2.out⟩
  have hne0 : ((n : Int) == 0) = false := beq_eq_false_iff_ne.2 (by omega)
  have hn1 : 0 < n := by omega
  have hn70 : n ≤ 70 := by omega
  clear hn0
  go_wp2_with fail
  refine HFW.out.mono ?_
  rintro e w2 ⟨rfl, b2⟩
  have HB2 := hid (HB1a.out.trans (b2.mono HB1a.out.size))
  have HTR2 := hid (HTR1.out.ext (((Below.refl _ _).alloc (Nat.le_refl _) _).trans (b2.mono (by simp))))
  have HT2 := hid (show Tb w2.heap.size w2 from Tb.up (HT.out.on HB2.out) HB2.out.size)
  clear b2 HFW HB1 HB1a HTR1 HTR
  go_wp2_with fail
  refine (two22_any w2 HT2.out).mono ?_
  rintro e w3 ⟨sa, sb, Z, Z', X, ep, rfl, hE, htx⟩
  have HE := hid hE
  obtain ⟨e0, e1, e2, e3, e4, e5, e6, e7, e8, e9, e10, rfl⟩ := len11 hE.len
  have HP := hid (two_box htx.a (.cells #[.int .i64 e0, .int .i64 e1, .int .i64 e2, .int .i64 e3, .int .i64 e4, .int .i64 e5, .int .i64 e6, .int .i64 e7, .int .i64 e8, .int .i64 e9, .int .i64 e10] 29) (.cells #[.int .i64 e0, .int .i64 e1, .int .i64 e2, .int .i64 e3, .int .i64 e4, .int .i64 e5, .int .i64 e6, .int .i64 e7, .int .i64 e8, .int .i64 e9, .int .i64 e10] 29))
  clear hE htx
  unfold epV
  go_upto_region 5 with fail
  generalize w3.heap.size = b0 at *
  refine forget (R := fun V => LA w2 V Z sa X ∧ HasO (.cells #[.int .i64 e0, .int .i64 e1, .int .i64 e2, .int .i64 e3, .int .i64 e4, .int .i64 e5, .int .i64 e6, .int .i64 e7, .int .i64 e8, .int .i64 e9, .int .i64 e10] 29 (0, 0)) b0 V ∧ ¬ Z b0 ∧ w2.heap.size ≤ b0) ?_ HP.out
  clear HP
  rintro V ⟨hla, hbx, hzb, hwb⟩
  have HL := hid hla; have HB := hid hbx; have HZ := hid hzb
  clear hla hbx hzb hwb
  obtain ⟨k0, k1, k2, k3, k4, k5, k6, k7, k8, k9, k10⟩ := box11 HB.out
  obtain ⟨qs, hqs⟩ := tr_trq HTR2.out
  have HFT := hid (fx_trq HL.out hqs)
  have HFB := hid (fx_has HB.out HZ.out)
  clear hqs
  have HLK := hid (lock_any HL.out HT2.out HE.out.len HE.out.i5 (cx := 2) (i64_lit (by decide) (by decide)) HFT.out HTI.out (fun m hm => by have := HU.out m hm; omega) (by omega))
  rw [epV11] at HLK
  have HLKD := hid (fun h => lock_ok (X := X) (ep := [e0, e1, e2, e3, e4, e5, e6, e7, e8, e9, e10]) (cx := 2) (t := t) h)
  have HLNO := hid (fun h => lock_no (X := X) (ep := [e0, e1, e2, e3, e4, e5, e6, e7, e8, e9, e10]) (cx := 2) (t := t) h)
  have HLEN := hid (lock_len (X := X) [e0, e1, e2, e3, e4, e5, e6, e7, e8, e9, e10] 2 t (k := 30) HU.out)
  have HEX := hid (lock_ext X [e0, e1, e2, e3, e4, e5, e6, e7, e8, e9, e10] 2 t); have HE5 := hid (nx_has HE.out.nx HL.out.ar.ok)
  generalize lockF X [e0, e1, e2, e3, e4, e5, e6, e7, e8, e9, e10] 2 t = r at *
  generalize beI X [e0, e1, e2, e3, e4, e5, e6, e7, e8, e9, e10] 2 = ex at *
  obtain ⟨Y, l, er⟩ := r
  dsimp only at HLK HLKD HLEN HEX HLNO
  go_wp2_with fail
  refine HLK.out.mono ?_
  rintro e w4 ⟨Z4, v, rfl, l4, m4, o4, z4⟩
  obtain ⟨A4, c4, rfl⟩ := own_shape o4
  have HL4 := hid l4
  have HFL4 := hid ((fx_own o4 z4).mono fun U hU => (SlA.of_own hU).2)
  have HFT4 := hid (HFT.out.mv m4); have HFB4 := hid (HFB.out.mv m4)
  clear l4 o4 z4 m4 HLK HFT HFB HL HB HZ k0 k1 k2 k3 k4 k5 k6 k7 k8 k9 k10
  by_cases her : er = 0
  rotate_left
  · have hl0 := HLNO.out her
    subst hl0
    have her' : (er != 0) = true := bne_iff_ne.2 her
    have HB5 := hid (HB2.out.trans (HL4.out.bl.mono HB2.out.size))
    clear her
    go_wp2_with fail
    go_ret
    exact ⟨rfl, HB5.out⟩
  subst her
  have HK := hid (HLKD.out rfl)
  have HLL := hid (show l.length = n by rw [HK.out.ll, HTL.out])
  obtain ⟨mx, rfl⟩ := HEX.out
  rw [HLL.out] at HFL4 ⊢
  clear HLKD HLNO HEX
  have HOK := hid HL4.out.ar.ok
  obtain ⟨i1, hi1, hie⟩ := md_in i hn1 (by omega)
  obtain ⟨j1, hj1, hje⟩ := md_in j hn1 (by omega)
  unfold mdF at hie hje
  have hnz : ¬ (n : Int) = 0 := by omega
  obtain ⟨i0, hi0, hz0, hz1, hz2⟩ := info_parts Tryz.infoInt
  go_upto_region 10 with fail
  clear hie hje
  go_upto_region 11 with (first
    | (at_builtin; refine wpList_append_new _ rfl _ _ 33 rfl 3 i0 (.int .i64 0) 1 8 Tryz.underlying33 hi0 hz0 hz1 hz2 rfl (by decide) rfl A4 n c4 (l.map (.int .i64)) rfl HFL4.out.here (ints_one _ _) (by unfold maxLen; omega) (by omega) ?_; intro v5 w5 own5 hb5; have O5 := hid own5; have HB5 := hid hb5; clear own5 hb5)
    | fail)
  obtain ⟨g, cap, rfl, hg, hcy, hfy⟩ := own_at O5.out (y := i1) (by rw [HLL.out]; exact hi1)
  obtain ⟨bl, ol, zl, rfl, hzl, hcl⟩ := (HFL4.out.ext HB5.out).here.elemI hj1
  have HZL := hid (show l.getD j1 0 = zl by rw [List.getD_eq_getElem?_getD, hzl]; rfl)
  clear hzl
  have HG := hid hg
  have L6 := hid ((HL4.out.ext HB5.out).put1 (b := g) (o := i1) (.int .i64 zl) (fun hz => by have := HL4.out.ar.zlt _ hz; have := HG.out; omega) (by have := HL4.out.bl.size; have := HG.out; omega))
  have FB6 := hid (HFB4.out.app_set HB5.out HG.out (o := i1) (.int .i64 zl))
  have O6 := hid (O5.out.stored i1 (.int .i64 zl)).1
  have FM6 := hid ((fx_own (Z := Z4) O6.out (fun b hb hz => by have e := own_g hb; have h1 := HL4.out.ar.zlt _ hz; have := HG.out; omega)).mono fun U hU => (SlA.of_own hU).2)
  rw [← List.map_set] at FM6
  clear hg HFB4 HFL4 HFT4 HB5 O5 O6
  go_upto_region 12 with fail
  have HP := hid (And.intro L6.out (And.intro FB6.out FM6.out))
  generalize hl2 : l.set i1 zl = l2 at *
  have HL2 := hid hl2
  refine forget (R := fun U => LA w2 U Z4 sa (X ++ mx) ∧ Fx U Z4 (HasO (.cells #[.int .i64 e0, .int .i64 e1, .int .i64 e2, .int .i64 e3, .int .i64 e4, .int .i64 e5, .int .i64 e6, .int .i64 e7, .int .i64 e8, .int .i64 e9, .int .i64 e10] 29 (0, 0)) b0) ∧ Fx U Z4 (fun V => SlA V 1 (some ⟨g, 0, none⟩) n cap (l2.map (.int .i64)))) ?_ HP.out
  clear HP L6 FB6 FM6 hcy hfy hcl HG hl2
  rintro U ⟨hl, hb, hm⟩
  have HL6 := hid hl; have HB6 := hid hb; have HM6 := hid hm
  obtain ⟨k0, k1, k2, k3, k4, k5, k6, k7, k8, k9, k10⟩ := box11 hb.here
  clear hl hb hm
  have HBA := hid (be_again HOK.out HK.out.xp)
  by_cases hij : i1 = j1
  · subst hij
    have HLE := hid (show l2 = l by rw [← HL2.out, ← HZL.out]; exact set_same (by rw [HLL.out]; exact hi1))
    rw [HLE.out] at HM6
    have HOP := hid (open_any HL6.out HT2.out HE.out.len HE.out.i5 (cx := 2) (i64_lit (by decide) (by decide)) HM6.out (by omega) (m := n) (t := t) (Nat.le_refl _) HTL.out (by rw [HBA.out.1]) (fun j hj => by rw [HBA.out.1, HBA.out.2]; exact HK.out.at' j (by rw [HTL.out]; exact hj)) (fun q hq => ⟨badN_g (HK.out.good q hq), by have := HU.out q hq; omega⟩) (.inl rfl))
    rw [epV11] at HOP
    unfold OpS at HOP
    go_wp2_with fail
    refine HOP.out.mono ?_
    rintro e w7 ⟨Z7, m7, ⟨-, l7, v7, qs7, rfl, hou⟩ | ⟨hlt, -⟩⟩
    rotate_left
    · exact absurd hlt (Nat.lt_irrefl _)
    obtain ⟨A7, c7, rfl, -⟩ := hou.fx
    have HB7 := hid (HB2.out.trans (l7.bl.mono HB2.out.size))
    rw [List.length_map, HTL.out]
    clear l7 hou m7 HOP
    go_wp2_with fail
    go_ret
    exact ⟨rfl, HB7.out⟩
  · have HGI := hid (show l2.getD i1 0 = l.getD j1 0 by rw [← HL2.out, getD_set (by rw [HLL.out]; exact hi1), if_pos rfl, HZL.out])
    have HGK := hid (show ∀ k, k < i1 → l2.getD k 0 = l.getD k 0 from fun k hk => by rw [← HL2.out, getD_set (by rw [HLL.out]; omega), if_neg (by omega)])
    have hij' : ((i1 : Int) == (j1 : Int)) = false := beq_eq_false_iff_ne.2 (by omega)
    have HXX := hid (has_ext HE5.out.1 mx); have HX5 := hid (has_ext HE5.out.2 mx)
    have HNO := hid (no_open (ep := [e0, e1, e2, e3, e4, e5, e6, e7, e8, e9, e10]) (l := l2) (m := i1) HGI.out (HK.out.at' j1 (by rw [HTL.out]; exact hj1)) (cx' := 2) HXX.out HX5.out (by have h1 := HLEN.out; have := HE.out.sm; have : t.length * (30 + 10) ≤ 70 * 40 := Nat.mul_le_mul (by rw [HTL.out]; exact hn70) (Nat.le_refl _); omega) (by omega) (.inr (.inl (by omega))))
    have HOP := hid (open_any HL6.out HT2.out HE.out.len HE.out.i5 (cx := 2) (i64_lit (by decide) (by decide)) HM6.out (by omega) (m := i1) (t := t.take i1) (by omega) (by rw [List.length_take, HTL.out]; omega) HNO.out.1 (fun k hk => by rw [HBA.out.1, HBA.out.2, HGK.out k hk, take_tn hk]; exact HK.out.at' k (by rw [HTL.out]; omega)) (fun q hq => ⟨badN_g (HK.out.good q (List.mem_of_mem_take hq)), by have := HU.out q (List.mem_of_mem_take hq); omega⟩) (.inr ⟨hi1, HNO.out.2⟩))
    rw [epV11] at HOP
    unfold OpS at HOP
    clear HNO hij
    go_wp2_with fail
    refine HOP.out.mono ?_
    rintro e w7 ⟨Z7, m7, ⟨h0, -⟩ | ⟨-, l7, rfl⟩⟩
    · omega
    have HB7 := hid (HB2.out.trans (l7.bl.mono HB2.out.size))
    clear l7 m7 HOP
    go_wp2_with fail
    go_ret
    exact ⟨rfl, HB7.out⟩
end Go.Proofs.YtfmkniakfgpgjaaGreatDoor

/- Arguments opened: what the walk is told of a value that can be read. Of no program. -/
namespace Go.KK
open Go.ChangeShapes Go.WideShapes Go.ChangeAt Go.RowKit Go.Deep
set_option linter.unusedVariables false
set_option linter.unusedSimpArgs false

section
variable {H : Type} {enc : TypeId × Value → H} {P : Program} {w : World} {base : Nat} {spare : Nat → Bool} {held : Bool}
/-- A slice of integers that came in. -/
theorem opens_ints {r : Reach} {b0 : Nat} {t e : TypeId} {k : IntKind} {v : Value} {d : DataW H} {p : List MemPlace} (ht : P.underlying t = some (.slice e)) (he : P.underlying e = some (.int k)) (hc : P.cellsOf e = 1)
    (hv : Value.okWide P w r b0 t v) (h : DataW.Trod enc P w base spare held t v d p) :
    ∃ (A : Option Addr) (n c : Nat) (l : List Int), v = .slice A n c ∧ SlA w 1 A n c (l.map (Value.int k)) ∧ ∀ x ∈ l, (Lit.int k x).wf = true := by
  obtain ⟨A, n, c, rfl⟩ := okWide_slice ht hv
  obtain ⟨fuel, hf⟩ := h
  rcases open_ints ht he hc hf with ⟨hcs, _⟩ | ⟨x, l, c', zs, hcs, _, hl, hm, hz, _, hcell, hwz⟩
  · simp [Value.cells] at hcs
    obtain ⟨rfl, rfl, rfl⟩ := hcs
    exact ⟨_, _, _, [], rfl, SlA.nil _ _, by simp⟩
  · simp [Value.cells] at hcs
    obtain ⟨rfl, rfl, rfl⟩ := hcs
    have hzl : n ≤ zs.length := by rw [hz]; split <;> omega
    refine ⟨_, _, _, zs.take n, rfl, ⟨hl, hm, by simp; omega, fun j u hj => ?_⟩, fun y hy => hwz y (List.mem_of_mem_take hy)⟩
    rw [List.getElem?_map, List.getElem?_take] at hj
    split at hj
    · rename_i hjn
      have hc := hcell j (by omega)
      have hjl : j < zs.length := by omega
      rw [List.getElem?_eq_getElem hjl] at hj
      simp only [Option.map_some, Option.some.injEq] at hj
      obtain ⟨b, off, spot⟩ := x
      have hs : spot = none ∨ 0 < j := by
        rcases Nat.eq_zero_or_pos j with h0 | h0
        · subst h0
          left
          have := World.cell?_spot hc
          simpa [Addr.add] using this
        · exact .inr h0
      have h0 := hcell 0 (by omega)
      have hspot : spot = none := by simpa [Addr.add] using World.cell?_spot h0
      subst hspot
      refine ⟨b, off, rfl, ?_⟩
      rw [add_lit] at hc
      rw [hc, ← hj, List.getD, List.getElem?_eq_getElem hjl]
      rfl
    · cases hj

def intV : Value → Int
  | .int _ n => n
  | _ => 0
/-- A struct of integers, by value. -/
theorem opens_struct_ints {r : Reach} {b0 : Nat} {t ti : TypeId} {fs : Array Field} {v : Value} {d : DataW H} {p : List MemPlace} (hs : P.underlying t = some (.struct fs)) (hone : oneCellFields P fs = true) (hC : P.cellsOf t = fs.size)
    (hT : fs.all (fun f => f.type == ti) = true) (hti : P.underlying ti = some (.int .i64)) (hv : Value.okWide P w r b0 t v) (h : DataW.Trod enc P w base spare held t v d p) :
    ∃ l : List Int, l.length = fs.size ∧ v = .agg (l.map (Value.int .i64)).toArray ∧ ∀ x ∈ l, (Lit.int .i64 x).wf = true := by
  obtain ⟨cs, rfl, hsz⟩ := okWide_struct hs hv
  obtain ⟨l⟩ := cs
  have hsz' : l.length = fs.size := by simpa using hsz.trans hC
  obtain ⟨fuel, hf⟩ := h
  obtain ⟨xs, n, _, hx, _, hlen, hg⟩ := DataW.trod_struct hs hf
  have each : ∀ j (hj : j < l.length), ∃ a, l[j] = Value.int .i64 a ∧ (Lit.int .i64 a).wf = true := by
    intro j hj
    have hfj : fs[j]? = some fs[j] := Array.getElem?_eq_getElem (by omega)
    obtain ⟨ho, hk⟩ := hone_of hone j fs[j] hfj
    have h1 := hg j fs[j] hfj
    rw [ho, hk] at h1
    have ht : fs[j].type = ti := by
      have := Array.all_eq_true.1 hT j (by omega)
      simpa using this
    have hcell : (((Value.agg ⟨l⟩).cells.toList.drop j).take 1) = [l[j]] := by
      show (l.drop j).take 1 = _
      rw [List.drop_eq_getElem_cons hj]; rfl
    rw [hcell, ht] at h1
    have hy : xs[j]? = some (xs[j]'(by omega)) := List.getElem?_eq_getElem _
    obtain ⟨a, ha, _, hw⟩ := DataW.trod_int hti (h1.trans hy)
    injection ha with ha
    exact ⟨a, ha, hw⟩
  refine ⟨l.map intV, by simpa using hsz', ?_, ?_⟩
  · congr 2
    apply List.ext_getElem
    · simp
    · intro j h1 h2
      obtain ⟨a, ha, _⟩ := each j h1
      simp [ha, intV]
  · intro x hx
    obtain ⟨v, hv, rfl⟩ := List.mem_map.1 hx
    obtain ⟨j, hj, rfl⟩ := List.getElem_of_mem hv
    obtain ⟨a, ha, hw⟩ := each j hj
    rw [ha]
    exact hw
end
end Go.KK

/- Arguments opened: a row of term's nodes. Of no program. -/
namespace Go.KK
open Go.ChangeShapes Go.WideShapes Go.ChangeAt Go.RowKit Go.Deep
set_option linter.unusedVariables false
set_option linter.unusedSimpArgs false

/-- What is known of a node that came in. -/
structure NdW (x : ND) : Prop where
  o : -9223372036854775808 ≤ x.o ∧ x.o ≤ 9223372036854775807
  n : -9223372036854775808 ≤ x.n ∧ x.n ≤ 9223372036854775807
  l : ∀ i ∈ x.l, -9223372036854775808 ≤ i ∧ i ≤ 9223372036854775807
  s : x.s.size ≤ maxLen
section
variable {H : Type} {enc : TypeId × Value → H} {P : Program} {w : World} {base : Nat} {spare : Nat → Bool} {held : Bool}
theorem trod_ints {fuel : Nat} {t e : TypeId} {k : IntKind} {v : Value} {y : DataW H × List MemPlace} (ht : P.underlying t = some (.slice e)) (he : P.underlying e = some (.int k)) (hc : P.cellsOf e = 1)
    (h : DataW.trod enc P w base spare held fuel t [v] = some y) : ∃ (A : Option Addr) (n c : Nat) (l : List Int), v = .slice A n c ∧ SlA w 1 A n c (l.map (Value.int k)) ∧ ∀ x ∈ l, (Lit.int k x).wf = true := by
  rcases open_ints ht he hc h with ⟨hcs, _⟩ | ⟨x, l, c', zs, hcs, _, hl, hm, hz, _, hcell, hwz⟩
  · injection hcs with hcs
    subst hcs
    exact ⟨_, _, _, [], rfl, SlA.nil _ _, by simp⟩
  · injection hcs with hcs
    subst hcs
    have hzl : l ≤ zs.length := by rw [hz]; split <;> omega
    refine ⟨_, _, _, zs.take l, rfl, ⟨hl, hm, by simp; omega, fun j u hj => ?_⟩, fun y hy => hwz y (List.mem_of_mem_take hy)⟩
    rw [List.getElem?_map, List.getElem?_take] at hj
    split at hj
    · rename_i hjn
      have hc := hcell j (by omega)
      have hjl : j < zs.length := by omega
      rw [List.getElem?_eq_getElem hjl] at hj
      simp only [Option.map_some, Option.some.injEq] at hj
      obtain ⟨b, off, spot⟩ := x
      have h0 := hcell 0 (by omega)
      have hspot : spot = none := by simpa [Addr.add] using World.cell?_spot h0
      subst hspot
      refine ⟨b, off, rfl, ?_⟩
      rw [add_lit] at hc
      rw [hc, ← hj, List.getD, List.getElem?_eq_getElem hjl]
      rfl
    · cases hj
/-- A node's cells that read. -/
theorem nd_of_trod {fuel : Nat} {t ti ts tl : TypeId} {fs : Array Field} {cs : List Value} {y : DataW H × List MemPlace} (hs : P.underlying t = some (.struct fs)) (hone : oneCellFields P fs = true) (hsz : fs.size = 4) (hC : P.cellsOf t = 4)
    (h4 : fs.toList.map (fun f => f.type) = [ti, ti, ts, tl]) (hti : P.underlying ti = some (.int .i64)) (hts : P.underlying ts = some .string) (htl : P.underlying tl = some (.slice ti)) (hci : P.cellsOf ti = 1)
    (h : DataW.trod enc P w base spare held fuel t cs = some y) : ∃ (x : ND) (q : Value), cs = x.cells q ∧ In1 w q x.l ∧ NdW x := by
  obtain ⟨xs, n, _, _, hlen, hxl, hg⟩ := DataW.trod_struct hs h
  rw [hC] at hlen
  match cs, hlen with
  | [a0, a1, a2, a3], _ =>
    have fld : ∀ k (hk : k < 4), ∃ z, DataW.trod enc P w base spare held n ([ti, ti, ts, tl][k]'(by simp; omega)) [([a0, a1, a2, a3])[k]'(by simp; omega)] = some z := by
      intro k hk
      have hf : fs[k]? = some (fs[k]'(by omega)) := Array.getElem?_eq_getElem _
      obtain ⟨ho, hc⟩ := hone_of hone k _ hf
      have := hg k _ hf
      rw [ho, hc, List.drop_eq_getElem_cons (by simpa using hk)] at this
      have e : (fs[k]'(by omega)).type = [ti, ti, ts, tl][k]'(by simp; omega) := by
        have e1 : (fs.toList.map (fun f => f.type))[k]? = some (fs[k]'(by omega)).type := by
          rw [List.getElem?_map, Array.getElem?_toList, hf]; rfl
        rw [h4, List.getElem?_eq_getElem (by simp; omega)] at e1
        exact (Option.some.inj e1).symm
      rw [e] at this
      exact ⟨_, this.trans (List.getElem?_eq_getElem (by omega))⟩
    obtain ⟨z0, t0⟩ := fld 0 (by omega)
    obtain ⟨z1, t1⟩ := fld 1 (by omega)
    obtain ⟨z2, t2⟩ := fld 2 (by omega)
    obtain ⟨z3, t3⟩ := fld 3 (by omega)
    simp only [List.getElem_cons_zero, List.getElem_cons_succ] at t0 t1 t2 t3
    obtain ⟨o, e0, _, w0⟩ := DataW.trod_int hti t0
    obtain ⟨m, e1, _, w1⟩ := DataW.trod_int hti t1
    obtain ⟨s, e2, _, w2⟩ := DataW.trod_string hts t2
    obtain ⟨A, k, c, u, e5, hsl, hw⟩ := trod_ints htl hti hci t3
    injection e0 with e0; injection e1 with e1; injection e2 with e2
    subst e0; subst e1; subst e2; subst e5
    have hm := hsl.lenI
    subst hm
    exact ⟨⟨o, m, s, u⟩, _, rfl, ⟨A, c, rfl, hsl⟩, bounds_i64 w0, bounds_i64 w1, fun i hi => bounds_i64 (hw i hi), w2⟩
theorem choose_list {α : Type} {Q : Nat → α → Prop} : ∀ (n : Nat), (∀ j, j < n → ∃ x, Q j x) → ∃ l : List α, l.length = n ∧ ∀ j x, l[j]? = some x → Q j x
  | 0, _ => ⟨[], rfl, fun j x h => by simp at h⟩
  | n + 1, h => by
    obtain ⟨l, hl, hq⟩ := choose_list n (fun j hj => h j (by omega))
    obtain ⟨x, hx⟩ := h n (by omega)
    refine ⟨l ++ [x], by simp [hl], fun j y hy => ?_⟩
    by_cases hj : j < n
    · rw [List.getElem?_append_left (by omega)] at hy
      exact hq j y hy
    · by_cases hjn : j = n
      · subst hjn
        rw [List.getElem?_append_right (by omega), hl, Nat.sub_self] at hy
        injection hy with hy
        rw [← hy]; exact hx
      · rw [List.getElem?_eq_none (by simp; omega)] at hy; cases hy
/-- A row of nodes that came in. -/
theorem opens_nodes {r : Reach} {b0 : Nat} {tt t ti ts tl : TypeId} {fs : Array Field} {v : Value} {d : DataW H} {p : List MemPlace} (htt : P.underlying tt = some (.slice t)) (hs : P.underlying t = some (.struct fs)) (hone : oneCellFields P fs = true) (hsz : fs.size = 4) (hC : P.cellsOf t = 4)
    (h4 : fs.toList.map (fun f => f.type) = [ti, ti, ts, tl]) (hti : P.underlying ti = some (.int .i64)) (hts : P.underlying ts = some .string) (htl : P.underlying tl = some (.slice ti)) (hci : P.cellsOf ti = 1)
    (hv : Value.okWide P w r b0 tt v) (h : DataW.Trod enc P w base spare held tt v d p) : ∃ A n c xs, v = .slice A n c ∧ NdA w A n c xs ∧ ∀ x ∈ xs, NdW x := by
  obtain ⟨A, n, c, rfl⟩ := okWide_slice htt hv
  obtain ⟨fuel, hf⟩ := h
  rcases open_slice htt hf with ⟨hcs, _⟩ | ⟨a, len, cap, m, n', D, Pl, hcs, _, hl, hm, hmm, _, hi⟩
  · simp [Value.cells] at hcs
    obtain ⟨rfl, rfl, rfl⟩ := hcs
    exact ⟨_, _, _, [], rfl, NdA.nil _, fun x h => by simp at h⟩
  · simp [Value.cells] at hcs
    obtain ⟨rfl, rfl, rfl⟩ := hcs
    have hnm : n ≤ m := by rw [hmm]; split <;> omega
    have each : ∀ j, j < n → ∃ xq : ND × Value, (∀ k, k < 4 → w.cell? (a.add (j * 4 + k)) = (xq.1.cells xq.2)[k]?) ∧ In1 w xq.2 xq.1.l ∧ NdW xq.1 := by
      intro j hj
      obtain ⟨cs', hc, ht⟩ := hi j (by omega)
      obtain ⟨x, q, e, hin, hw⟩ := nd_of_trod hs hone hsz hC h4 hti hts htl hci ht
      rw [hC] at hc
      obtain ⟨_, _, hat⟩ := World.cells?_some hc
      refine ⟨⟨x, q⟩, fun k hk => ?_, hin, hw⟩
      rw [← Go.Deep.add_add, hat k hk, e]
    obtain ⟨l, hll, hq⟩ := choose_list n each
    have hx : ∀ {j : Nat} {x : ND}, (l.map (·.1))[j]? = some x → ∃ q, l[j]? = some (x, q) := by
      intro j x h
      rw [List.getElem?_map] at h
      rcases hh : l[j]? with _ | ⟨y, q⟩
      · rw [hh] at h; cases h
      · rw [hh] at h; injection h with h; subst h; exact ⟨q, rfl⟩
    refine ⟨_, _, _, l.map (·.1), rfl, ⟨l.map (·.2), by simp, ⟨hl, hm, by rw [nds_len (by simp)]; simp [hll], fun i u hu => ?_⟩, fun j x q hxj hqj => ?_⟩, fun x hxm => ?_⟩
    · have hil : i < n * 4 := by
        rcases Nat.lt_or_ge i (n * 4) with hh | hh
        · exact hh
        · rw [List.getElem?_eq_none (by rw [nds_len (by simp)]; simp [hll]; omega)] at hu; cases hu
      have hjn : i / 4 < n := by omega
      have hlj : l[i / 4]? = some (l[i / 4]'(by omega)) := List.getElem?_eq_getElem _
      obtain ⟨b, off, spot⟩ := a
      have c0 := (hq 0 _ (List.getElem?_eq_getElem (by omega))).1 0 (by omega)
      have hspot : spot = none := by
        simp only [Nat.zero_mul, Nat.add_zero, ND.cells, List.getElem?_cons_zero] at c0
        simpa [Addr.add] using World.cell?_spot c0
      subst hspot
      refine ⟨b, off, rfl, ?_⟩
      have hg := nds_get (xs := l.map (·.1)) (qs := l.map (·.2)) (j := i / 4) (k := i % 4) (by rw [List.getElem?_map, hlj]; rfl) (by rw [List.getElem?_map, hlj]; rfl) (Nat.mod_lt _ (by omega))
      rw [show i / 4 * 4 + i % 4 = i by omega] at hg
      have hc := (hq _ _ hlj).1 (i % 4) (Nat.mod_lt _ (by omega))
      rw [show i / 4 * 4 + i % 4 = i by omega, add_lit] at hc
      rw [hc, ← hg, hu]
    · obtain ⟨q', hl'⟩ := hx hxj
      rw [List.getElem?_map, hl'] at hqj
      injection hqj with hqj
      subst hqj
      exact (hq j _ hl').2.1
    · obtain ⟨j, hj, rfl⟩ := List.mem_iff_getElem.1 hxm
      obtain ⟨q', hl'⟩ := hx (List.getElem?_eq_getElem hj)
      exact (hq j _ hl').2.2
end
end Go.KK

