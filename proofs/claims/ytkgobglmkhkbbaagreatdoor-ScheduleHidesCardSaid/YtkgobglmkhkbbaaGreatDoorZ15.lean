import Derived.Test.YtkgobglmkhkbbaaGreatDoorZ14
import Derived.Test.YtkgobglmkhkbbaaGreatDoorZ01
import Derived.ProofKit
import Derived.OpenShut
import Derived.ShutString
import Derived.ChangeOld
import Derived.Deep.Slices
import Derived.Deep.Fields
/- schedule's law: ScheduleDerives walked. -/
namespace Go.KK
open Go.RowKit
set_option linter.unusedVariables false
set_option linter.unusedSimpArgs false
theorem KeyAt.hasB {X : List ND} {i s c : Int} {lab : ByteArray} (h : KeyAt X i s lab c) : hasB X i = true := by
  obtain ⟨t, _, h2⟩ := h
  exact h2.has
theorem DvAt.hasB {X : List ND} {i s : Int} {lab : ByteArray} (h : DvAt X i s lab) : hasB X i = true := by
  obtain ⟨n, _, h2⟩ := h
  exact h2.hasB
theorem beg_has {xs : List ND} {j p x : Int} (ok : Okay xs) (h : (begF xs j p x).2.2 = 0) : ∀ a ∈ (begF xs j p x).2.1, hasB (begF xs j p x).1 a = true := by
  unfold begF at h ⊢
  by_cases h0 : (bgF xs j p x).2.2 = 0
  · rw [if_pos h0] at h ⊢
    have hk : Okay (bgF xs j p x).1 := run_ok _ _ [] (bgS_sb j p x) ok
    have hb := bg_at h0
    intro a ha
    have hm := At.part hk hb.m j (by show j ∈ [j, p]; simp)
    have hmh := has_iff.1 hb.m.has
    have hj : hasB (bgF xs j p x).1 j = true := has_iff.2 ⟨hm.1, by omega⟩
    have d := fun k hk => (hb.d k hk).hasB
    have d0 := d 0 (by omega); have d1 := d 1 (by omega); have d2 := d 2 (by omega); have d3 := d 3 (by omega); have d4 := d 4 (by omega); have d5 := d 5 (by omega); have d6 := d 6 (by omega)
    have ha' : a ∈ epL j (bgF xs j p x).2.1 := ha
    unfold epL at ha'
    simp only [List.mem_cons, List.mem_nil_iff, or_false] at ha'
    rcases ha' with rfl | rfl | rfl | rfl | rfl | rfl | rfl | rfl | rfl | rfl | rfl
    · exact hj
    · exact hb.w.hasB
    · exact hb.e.hasB
    · exact d0
    · exact d1
    · exact d2
    · exact d3
    · exact d4
    · exact d5
    · exact hb.p.has
    · exact d6
  · rw [if_neg h0] at h; exact absurd h h0
theorem beg_err {xs : List ND} {j p x : Int} (h : (begF xs j p x).2.2 ≠ 0) : (begF xs j p x).2.1 = epZ := by
  unfold begF at h ⊢
  by_cases h0 : (bgF xs j p x).2.2 = 0
  · rw [if_pos h0] at h; exact absurd rfl h
  · rw [if_neg h0]
theorem nx_hasA {xs : List ND} {i c x : Int} {l : List Int} (ok : Okay xs) (h : (nxF xs i c x l).2.2 = 0) : ∀ a ∈ (nxF xs i c x l).2.1, hasB (nxF xs i c x l).1 a = true := by
  obtain ⟨h0, h1, h2⟩ := nx_parts h
  rw [h2] at h ⊢
  exact beg_has ((sb_psk l).ok _ ((sb_jn i c x).ok _ ok)) h
end Go.KK
namespace Go.Proofs.YtkgobglmkhkbbaaGreatDoor
open Go.RowKit Go.KK Go.Shelf Go.Maps

theorem SlM.of_q {w0 W : World} {Z : Nat → Prop} {sa : Nat} {xs : List ND} {A : Option Addr} {n c : Nat} {l : List Int} (h : SlA w0 1 A n c (l.map (.int .i64))) (la : LQ w0 W Z sa xs) : SlM W Z A n c l := by
  refine ⟨h.ext la.bl, fun b o e hn => ?_⟩
  obtain ⟨b', o', x, e', -, hc⟩ := h.elemI hn
  rw [e] at e'
  injection e' with e'
  injection e' with e1 e2
  subst e1
  have := block_lt_of_cell hc
  exact ⟨Nat.lt_of_lt_of_le this la.sz, fun hz => by have := la.z b hz; simp only at *; omega⟩
/-- An epoch's variable, beside both arenas. -/
def Bk (U : World) (Z Z' : Nat → Prop) (b : Nat) (ep : List Int) : Prop := U.heap[b]? = some (.cells (ep.map (.int .i64)).toArray 30 (0, 0)) ∧ ¬ Z b ∧ ¬ Z' b
section
variable {w0 U U' : World} {Z Z' Z2 : Nat → Prop} {b sa sb : Nat} {ep : List Int} {xs ys : List ND}
theorem Bk.onA (h : Bk U Z Z' b ep) (m : Mv Z U Z2 U') : Bk U' Z2 Z' b ep := by
  obtain ⟨a1, a2⟩ := Mv.cellR h.1 m h.2.1
  exact ⟨a1, a2, h.2.2⟩
theorem Bk.onB (h : Bk U Z Z' b ep) (m : Mv Z' U Z2 U') : Bk U' Z Z2 b ep := by
  obtain ⟨a1, a2⟩ := Mv.cellR h.1 m h.2.2
  exact ⟨a1, h.2.1, a2⟩
theorem Bk.ext (h : Bk U Z Z' b ep) (hb : Below U.heap.size U U') : Bk U' Z Z' b ep := by
  obtain ⟨a1, a2⟩ := Mv.cellR h.1 (Mv.below hb : Mv Z U Z U') h.2.1
  exact ⟨a1, h.2⟩
theorem Bk.new (h : Tx w0 U sa sb Z Z' xs ys) (ep : List Int) : Bk (U.alloc (.cells (ep.map (.int .i64)).toArray 30)) Z Z' U.heap.size ep :=
  ⟨alloc_at _ _, fun hz => by have := h.a.ar.zlt _ hz; omega, fun hz => by have := h.b.ar.zlt _ hz; omega⟩
end
theorem i64_of_has {X : List ND} {a : Int} (hl : X.length ≤ 100000) (h : hasB X a = true) : I64 a := by
  have := has_iff.1 h
  exact ⟨by omega, by omega⟩
theorem i64_epZ {a : Int} (h : a ∈ epZ) : I64 a := by
  unfold epZ at h
  rw [List.mem_replicate] at h
  rw [h.2]
  exact ⟨by decide, by decide⟩
set_option maxHeartbeats 8000000 in
set_option maxRecDepth 100000 in
theorem derives_go (i c x : Int) (A : Option Addr) (n cc : Nat) (l : List Int) (lab : ByteArray) (ot : Int) (w : World) (hi : I64 i) (hc : I64 c) (hx : I64 x) (hl : SlA w 1 A n cc (l.map (.int .i64))) (hli : ∀ i ∈ l, I64 i) (hot : I64 ot) (hT : Tb w.heap.size w) :
    Calls Tryz.prog 6 #[.int .i64 i, .int .i64 c, .int .i64 x, .slice A n cc, .string lab, .int .i64 ot] w fun e w' => e = .returned (.bool true) ∧ Below w.heap.size w w' := by
  have HL := hid hl; have HT := hid hT
  have HLI := hid hli
  have HLV := hid (live_any w hT)
  clear hl hT hli
  go_enter Tryz.func6, Tryz.ntmps6
  go_wp2_with fail
  refine HLV.out.mono ?_
  rintro e w1 ⟨rfl, b1⟩
  have HB1 := hid b1
  have HT1 := hid (show Tb w1.heap.size w1 from Tb.up (HT.out.on b1) b1.size)
  have HL1 := hid (HL.out.ext b1)
  clear b1 HLV HT HL
  by_cases hn : 50 < n
  · have hn1 : (50 : Int) < (n : Int) := by omega
    clear hn
    go_wp2_with fail
    go_ret
    exact ⟨rfl, HB1.out⟩
  have hn1 : ¬ (50 : Int) < (n : Int) := by omega
  have hd1 : decide ((50 : Int) < (n : Int)) = false := decide_eq_false hn1
  have HN := hid (show n ≤ 100000 by omega)
  clear hn
  by_cases hs : 300 < lab.size
  · have hs1 : (300 : Int) < (lab.size : Int) := by omega
    clear hs
    go_wp2_with fail
    go_ret
    exact ⟨rfl, HB1.out⟩
  have hs1 : ¬ (300 : Int) < (lab.size : Int) := by omega
  have hd2 : decide ((300 : Int) < (lab.size : Int)) = false := decide_eq_false hs1
  clear hs
  have HBA := hid (show Below w1.heap.size w1 (w1.alloc (.cells #[.int .i64 i, .int .i64 c, .int .i64 x, .int .i64 ot] 3)) from (Below.refl _ _).alloc (Nat.le_refl _) _)
  have HBY := hid (beyond_any 10 (some ⟨w1.heap.size, 0, none⟩) 4 4 [i, c, x, ot] (w1.alloc (.cells #[.int .i64 i, .int .i64 c, .int .i64 x, .int .i64 ot] 3)) (sla_row #[.int .i64 i, .int .i64 c, .int .i64 x, .int .i64 ot] (by unfold maxLen; simp)) (by omega))
  go_wp2_with fail
  refine HBY.out.mono ?_
  rintro e w2 ⟨⟨b, rfl⟩, hw⟩
  subst hw
  clear HBY
  rcases b with _ | _
  rotate_left
  · go_wp2_with fail
    go_ret
    exact ⟨rfl, HB1.out.trans (HBA.out.mono HB1.out.size)⟩
  have HB2 := hid (HB1.out.trans (HBA.out.mono HB1.out.size))
  have HT2 := hid (show Tb (w1.alloc (.cells #[.int .i64 i, .int .i64 c, .int .i64 x, .int .i64 ot] 3)).heap.size (w1.alloc (.cells #[.int .i64 i, .int .i64 c, .int .i64 x, .int .i64 ot] 3)) from Tb.up (HT1.out.on HBA.out) HBA.out.size)
  have HL2 := hid (HL1.out.ext HBA.out)
  clear HB1 HT1 HL1 HBA
  generalize w1.alloc (.cells #[.int .i64 i, .int .i64 c, .int .i64 x, .int .i64 ot] 3) = w2 at *
  go_wp2_with fail
  refine (beyond_any 10 A n cc l _ HL2.out (by have := HN.out; omega)).mono ?_
  rintro e w3 ⟨⟨b, rfl⟩, hw⟩
  subst hw
  rcases b with _ | _
  rotate_left
  · go_wp2_with fail
    go_ret
    exact ⟨rfl, HB2.out⟩
  clear hn1 hs1 hd1 hd2
  go_wp2_with fail
  refine (two_any w3 HT2.out).mono ?_
  rintro e w4 ⟨sa, sb, Z, Z', rfl, htw⟩
  have T0 := hid (Tx.of htw)
  clear htw
  obtain ⟨r1, hr1⟩ : ∃ r, r = nxF (atoms 10) i c x l := ⟨_, rfl⟩
  have h11 := nx_elen (atoms 10) i c x l
  have HH := hid (show r1.2.2 = 0 → ∀ a ∈ r1.2.1, hasB r1.1 a = true from fun h => by rw [hr1] at h ⊢; exact nx_hasA T0.out.a.ar.ok h)
  have HZ := hid (show r1.2.2 ≠ 0 → r1.2.1 = epZ from fun h => by rw [hr1] at h ⊢; exact nx_err h)
  have HA := hid (nx_any T0.out.a HT2.out hi hc hx (SlM.of_in HL2.out T0.out.a) HN.out HLI.out)
  have HBQ := hid (fun (U : World) (Zq : Nat → Prop) (lq : LQ w3 U Zq sb (atoms 10)) => q_nx lq hi hc hx (SlM.of_q HL2.out lq) HN.out HLI.out)
  rw [← hr1] at HA h11 HBQ
  clear hr1
  obtain ⟨X1, el, er⟩ := r1
  dsimp only at HH HZ h11
  have HI5 := hid (fun (hl : X1.length ≤ 100000) => (show I64 (el.getD 5 0) from by
    by_cases he : er = 0
    · exact i64_of_has hl (HH.out he _ (by rw [List.getD, List.getElem?_eq_getElem (by omega)]; exact List.getElem_mem _))
    · exact i64_epZ (by rw [← HZ.out he, List.getD, List.getElem?_eq_getElem (by omega)]; exact List.getElem_mem _)))
  have H11 := hid h11
  obtain ⟨e0, e1, e2, e3, e4, e5, e6, e7, e8, e9, e10, rfl⟩ := len11 h11
  clear h11
  unfold EpS epV at HA
  unfold EpQ epV at HBQ
  dsimp only at HA HBQ
  go_wp2_with fail
  refine HA.out.mono ?_
  rintro e w5 ⟨ZA1, rfl, la, ma⟩
  have T1 := hid ((T0.out.onA la ma).alloc (.cells #[.int .i64 e0, .int .i64 e1, .int .i64 e2, .int .i64 e3, .int .i64 e4, .int .i64 e5, .int .i64 e6, .int .i64 e7, .int .i64 e8, .int .i64 e9, .int .i64 e10] 30))
  have K1 := hid (Bk.new (T0.out.onA la ma) [e0, e1, e2, e3, e4, e5, e6, e7, e8, e9, e10])
  clear la ma HA T0
  go_upto_region 6 with fail
  refine forget (R := fun U => Tx w3 U sa sb ZA1 Z' X1 (atoms 10) ∧ Bk U ZA1 Z' w5.heap.size [e0, e1, e2, e3, e4, e5, e6, e7, e8, e9, e10]) ?_ ⟨T1.out, K1.out⟩
  clear T1 K1
  generalize w5.heap.size = bx at *
  rintro V ⟨t1, k1⟩
  have T1 := hid t1; have K1 := hid k1
  clear t1 k1
  go_wp2_with fail
  refine (HBQ.out V Z' T1.out.b).mono ?_
  rintro e w6 ⟨ZB1, rfl, lb, mb⟩
  have T2 := hid ((T1.out.onB lb mb).alloc (.cells #[.int .i64 e0, .int .i64 e1, .int .i64 e2, .int .i64 e3, .int .i64 e4, .int .i64 e5, .int .i64 e6, .int .i64 e7, .int .i64 e8, .int .i64 e9, .int .i64 e10] 30))
  have K2 := hid ((K1.out.onB mb).ext ((Below.refl _ _).alloc (Nat.le_refl _) (.cells #[.int .i64 e0, .int .i64 e1, .int .i64 e2, .int .i64 e3, .int .i64 e4, .int .i64 e5, .int .i64 e6, .int .i64 e7, .int .i64 e8, .int .i64 e9, .int .i64 e10] 30)))
  have K3 := hid (Bk.new (T1.out.onB lb mb) [e0, e1, e2, e3, e4, e5, e6, e7, e8, e9, e10])
  clear lb mb HBQ T1 K1
  go_upto_region 7 with fail
  refine forget (R := fun U => Tx w3 U sa sb ZA1 ZB1 X1 X1 ∧ Bk U ZA1 ZB1 bx [e0, e1, e2, e3, e4, e5, e6, e7, e8, e9, e10] ∧ Bk U ZA1 ZB1 w6.heap.size [e0, e1, e2, e3, e4, e5, e6, e7, e8, e9, e10]) ?_ ⟨T2.out, K2.out, K3.out⟩
  clear T2 K2 K3
  generalize w6.heap.size = bq at *
  rintro V2 ⟨t1, k1, k2⟩
  have T1 := hid t1; have K1 := hid k1; have K2 := hid k2
  have x0 : V2.cell? ⟨bx, 0, none⟩ = some (.int .i64 e0) := by rw [cell_of_row V2 bx 0 _ _ (0, 0) k1.1]; rfl
  have x1 : V2.cell? ⟨bx, 1, none⟩ = some (.int .i64 e1) := by rw [cell_of_row V2 bx 1 _ _ (0, 0) k1.1]; rfl
  have x2 : V2.cell? ⟨bx, 2, none⟩ = some (.int .i64 e2) := by rw [cell_of_row V2 bx 2 _ _ (0, 0) k1.1]; rfl
  have x3 : V2.cell? ⟨bx, 3, none⟩ = some (.int .i64 e3) := by rw [cell_of_row V2 bx 3 _ _ (0, 0) k1.1]; rfl
  have x4 : V2.cell? ⟨bx, 4, none⟩ = some (.int .i64 e4) := by rw [cell_of_row V2 bx 4 _ _ (0, 0) k1.1]; rfl
  have x5 : V2.cell? ⟨bx, 5, none⟩ = some (.int .i64 e5) := by rw [cell_of_row V2 bx 5 _ _ (0, 0) k1.1]; rfl
  have x6 : V2.cell? ⟨bx, 6, none⟩ = some (.int .i64 e6) := by rw [cell_of_row V2 bx 6 _ _ (0, 0) k1.1]; rfl
  have x7 : V2.cell? ⟨bx, 7, none⟩ = some (.int .i64 e7) := by rw [cell_of_row V2 bx 7 _ _ (0, 0) k1.1]; rfl
  have x8 : V2.cell? ⟨bx, 8, none⟩ = some (.int .i64 e8) := by rw [cell_of_row V2 bx 8 _ _ (0, 0) k1.1]; rfl
  have x9 : V2.cell? ⟨bx, 9, none⟩ = some (.int .i64 e9) := by rw [cell_of_row V2 bx 9 _ _ (0, 0) k1.1]; rfl
  have x10 : V2.cell? ⟨bx, 10, none⟩ = some (.int .i64 e10) := by rw [cell_of_row V2 bx 10 _ _ (0, 0) k1.1]; rfl
  have y0 : V2.cell? ⟨bq, 0, none⟩ = some (.int .i64 e0) := by rw [cell_of_row V2 bq 0 _ _ (0, 0) k2.1]; rfl
  have y1 : V2.cell? ⟨bq, 1, none⟩ = some (.int .i64 e1) := by rw [cell_of_row V2 bq 1 _ _ (0, 0) k2.1]; rfl
  have y2 : V2.cell? ⟨bq, 2, none⟩ = some (.int .i64 e2) := by rw [cell_of_row V2 bq 2 _ _ (0, 0) k2.1]; rfl
  have y3 : V2.cell? ⟨bq, 3, none⟩ = some (.int .i64 e3) := by rw [cell_of_row V2 bq 3 _ _ (0, 0) k2.1]; rfl
  have y4 : V2.cell? ⟨bq, 4, none⟩ = some (.int .i64 e4) := by rw [cell_of_row V2 bq 4 _ _ (0, 0) k2.1]; rfl
  have y5 : V2.cell? ⟨bq, 5, none⟩ = some (.int .i64 e5) := by rw [cell_of_row V2 bq 5 _ _ (0, 0) k2.1]; rfl
  have y6 : V2.cell? ⟨bq, 6, none⟩ = some (.int .i64 e6) := by rw [cell_of_row V2 bq 6 _ _ (0, 0) k2.1]; rfl
  have y7 : V2.cell? ⟨bq, 7, none⟩ = some (.int .i64 e7) := by rw [cell_of_row V2 bq 7 _ _ (0, 0) k2.1]; rfl
  have y8 : V2.cell? ⟨bq, 8, none⟩ = some (.int .i64 e8) := by rw [cell_of_row V2 bq 8 _ _ (0, 0) k2.1]; rfl
  have y9 : V2.cell? ⟨bq, 9, none⟩ = some (.int .i64 e9) := by rw [cell_of_row V2 bq 9 _ _ (0, 0) k2.1]; rfl
  have y10 : V2.cell? ⟨bq, 10, none⟩ = some (.int .i64 e10) := by rw [cell_of_row V2 bq 10 _ _ (0, 0) k2.1]; rfl
  clear t1 k1 k2
  have HS := hid (same11_any sa sb X1 [e0, e1, e2, e3, e4, e5, e6, e7, e8, e9, e10] er V2 T1.out.a.ar.vw T1.out.b.ar.vw T1.out.a.ar.ok rfl rfl HH.out HZ.out)
  unfold epV at HS
  go_wp2_with fail
  refine HS.out.mono ?_
  rintro e w7 ⟨rfl, bs⟩
  have T2 := hid (T1.out.ext bs); have K3 := hid (K1.out.ext bs); have K4 := hid (K2.out.ext bs)
  clear bs HS T1 K1 K2 x0 x1 x2 x3 x4 x5 x6 x7 x8 x9 x10 y0 y1 y2 y3 y4 y5 y6 y7 y8 y9 y10
  have k3 := K3.out.1
  have x0 : w7.cell? ⟨bx, 0, none⟩ = some (.int .i64 e0) := by rw [cell_of_row w7 bx 0 _ _ (0, 0) k3]; rfl
  have x1 : w7.cell? ⟨bx, 1, none⟩ = some (.int .i64 e1) := by rw [cell_of_row w7 bx 1 _ _ (0, 0) k3]; rfl
  have x2 : w7.cell? ⟨bx, 2, none⟩ = some (.int .i64 e2) := by rw [cell_of_row w7 bx 2 _ _ (0, 0) k3]; rfl
  have x3 : w7.cell? ⟨bx, 3, none⟩ = some (.int .i64 e3) := by rw [cell_of_row w7 bx 3 _ _ (0, 0) k3]; rfl
  have x4 : w7.cell? ⟨bx, 4, none⟩ = some (.int .i64 e4) := by rw [cell_of_row w7 bx 4 _ _ (0, 0) k3]; rfl
  have x5 : w7.cell? ⟨bx, 5, none⟩ = some (.int .i64 e5) := by rw [cell_of_row w7 bx 5 _ _ (0, 0) k3]; rfl
  have x6 : w7.cell? ⟨bx, 6, none⟩ = some (.int .i64 e6) := by rw [cell_of_row w7 bx 6 _ _ (0, 0) k3]; rfl
  have x7 : w7.cell? ⟨bx, 7, none⟩ = some (.int .i64 e7) := by rw [cell_of_row w7 bx 7 _ _ (0, 0) k3]; rfl
  have x8 : w7.cell? ⟨bx, 8, none⟩ = some (.int .i64 e8) := by rw [cell_of_row w7 bx 8 _ _ (0, 0) k3]; rfl
  have x9 : w7.cell? ⟨bx, 9, none⟩ = some (.int .i64 e9) := by rw [cell_of_row w7 bx 9 _ _ (0, 0) k3]; rfl
  have x10 : w7.cell? ⟨bx, 10, none⟩ = some (.int .i64 e10) := by rw [cell_of_row w7 bx 10 _ _ (0, 0) k3]; rfl
  clear k3
  obtain ⟨r2, hr2⟩ : ∃ r, r = xpF X1 [e0, e1, e2, e3, e4, e5, e6, e7, e8, e9, e10] lab ot := ⟨_, rfl⟩
  have HHX := hid (show r2.2.2 = 0 → hasB r2.1 r2.2.1 = true from fun h => by rw [hr2] at h ⊢; exact (sb_xp [e0, e1, e2, e3, e4, e5, e6, e7, e8, e9, e10] lab ot).has X1 h)
  have HA := hid (l_xp (el := [e0, e1, e2, e3, e4, e5, e6, e7, e8, e9, e10]) T2.out.a HT2.out rfl (HI5.out T2.out.a.ar.ok.len) hot lab)
  have HBQ := hid (fun (U : World) (Zq : Nat → Prop) (lq : LQ w3 U Zq sb X1) => q_xp (el := [e0, e1, e2, e3, e4, e5, e6, e7, e8, e9, e10]) lq rfl (HI5.out lq.ar.ok.len) hot lab)
  rw [← hr2] at HA HBQ
  clear hr2 HI5 HH HZ
  obtain ⟨X2, tx, er2⟩ := r2
  dsimp only at HHX
  unfold LrS epV at HA
  unfold LrQ epV at HBQ
  dsimp only at HA HBQ
  go_wp2_with fail
  refine HA.out.mono ?_
  rintro e w8 ⟨ZA2, rfl, la, ma⟩
  have T3 := hid (T2.out.onA la ma)
  have k4 := (K4.out.onA ma).1
  have y0 : w8.cell? ⟨bq, 0, none⟩ = some (.int .i64 e0) := by rw [cell_of_row w8 bq 0 _ _ (0, 0) k4]; rfl
  have y1 : w8.cell? ⟨bq, 1, none⟩ = some (.int .i64 e1) := by rw [cell_of_row w8 bq 1 _ _ (0, 0) k4]; rfl
  have y2 : w8.cell? ⟨bq, 2, none⟩ = some (.int .i64 e2) := by rw [cell_of_row w8 bq 2 _ _ (0, 0) k4]; rfl
  have y3 : w8.cell? ⟨bq, 3, none⟩ = some (.int .i64 e3) := by rw [cell_of_row w8 bq 3 _ _ (0, 0) k4]; rfl
  have y4 : w8.cell? ⟨bq, 4, none⟩ = some (.int .i64 e4) := by rw [cell_of_row w8 bq 4 _ _ (0, 0) k4]; rfl
  have y5 : w8.cell? ⟨bq, 5, none⟩ = some (.int .i64 e5) := by rw [cell_of_row w8 bq 5 _ _ (0, 0) k4]; rfl
  have y6 : w8.cell? ⟨bq, 6, none⟩ = some (.int .i64 e6) := by rw [cell_of_row w8 bq 6 _ _ (0, 0) k4]; rfl
  have y7 : w8.cell? ⟨bq, 7, none⟩ = some (.int .i64 e7) := by rw [cell_of_row w8 bq 7 _ _ (0, 0) k4]; rfl
  have y8 : w8.cell? ⟨bq, 8, none⟩ = some (.int .i64 e8) := by rw [cell_of_row w8 bq 8 _ _ (0, 0) k4]; rfl
  have y9 : w8.cell? ⟨bq, 9, none⟩ = some (.int .i64 e9) := by rw [cell_of_row w8 bq 9 _ _ (0, 0) k4]; rfl
  have y10 : w8.cell? ⟨bq, 10, none⟩ = some (.int .i64 e10) := by rw [cell_of_row w8 bq 10 _ _ (0, 0) k4]; rfl
  clear la ma HA T2 K3 K4 k4 x0 x1 x2 x3 x4 x5 x6 x7 x8 x9 x10
  go_wp2_with fail
  refine (HBQ.out w8 ZB1 T3.out.b).mono ?_
  rintro e w9 ⟨ZB2, rfl, lb, mb⟩
  have T4 := hid (T3.out.onB lb mb)
  clear lb mb HBQ T3 y0 y1 y2 y3 y4 y5 y6 y7 y8 y9 y10
  have H116N := hid (show (er2 != er2) = false from bne_self_eq_false er2)
  have hne116 := H116N.out
  have hmm := @run_makeMap Tryz.prog
  go_upto_region 11 with fail
  go_cut [116] from 100 to 116 (fun v U => v = .bool false ∧ Below w9.heap.size w9 U)
  case first =>
    by_cases he : er2 = 0
    · have heb : (er2 == 0) = true := beq_iff_eq.2 he
      have HXX := hid (HHX.out he)
      have HOK := hid T4.out.a.ar.ok
      have HVB := hid T4.out.b.ar.vw
      have HDU := hid (dump_any sa X2 w9 T4.out.a.ar.vw)
      clear he HHX T4
      go_wp2_with fail
      refine HDU.out.mono ?_
      rintro e u1 ⟨A1, c1, rfl, hn, hb1⟩
      have HNN := hid (hn.ext ((Below.refl u1.heap.size u1).alloc (Nat.le_refl _) (.map #[] 0)))
      have HB1 := hid hb1
      have HY := hid (HVB.out.ext (hb1.alloc hb1.size (.map #[] 0)))
      have HBI := hid (bisim_any (M := []) HOK.out.len HOK.out (bs_same HOK.out HXX.out) HY.out HNN.out (MtP.new u1))
      clear hn hb1 HDU HVB
      go_wp2_with fail
      refine HBI.out.mono ?_
      rintro e u2 ⟨rfl, -, ht⟩
      have HF := hid (HB1.out.trans ((ht.below (B := u1.heap.size) (fun b e => by rw [e]; exact Nat.le_refl _) (by simp) |> fun k => (((Below.refl u1.heap.size u1).alloc (Nat.le_refl _) (.map #[] 0)).trans k)).mono HB1.out.size))
      clear ht HBI
      go_wp2_with fail
      go_meet
      exact ⟨rfl, HF.out⟩
    · have heb : (er2 == 0) = false := beq_eq_false_iff_ne.2 he
      clear he HHX
      go_wp2_with fail
      go_meet
      exact ⟨rfl, Below.refl _ _⟩
  obtain ⟨hcv, hcb⟩ := hcut
  subst hcv
  have T5 := hid (T4.out.ext hcb)
  clear hcb T4 HHX hne116 hmm
  go_wp2_with fail
  obtain ⟨r3, hr3⟩ : ∃ r, r = jnF X2 i c x := ⟨_, rfl⟩
  have HHX := hid (show r3.2.2 = 0 → hasB r3.1 r3.2.1 = true from fun h => by rw [hr3] at h ⊢; exact (sb_jn i c x).has X2 h)
  have HA := hid (l_jn T5.out.a HT2.out hi hc hx)
  have HBQ := hid (fun (U : World) (Zq : Nat → Prop) (lq : LQ w3 U Zq sb X2) => q_jn lq hi hc hx)
  rw [← hr3] at HA HBQ
  clear hr3
  obtain ⟨X3, ty, er3⟩ := r3
  dsimp only at HHX
  unfold LrS at HA
  unfold LrQ at HBQ
  dsimp only at HA HBQ
  go_wp2_with fail
  refine HA.out.mono ?_
  rintro e w10 ⟨ZA3, rfl, la, ma⟩
  have T6 := hid (T5.out.onA la ma)
  clear la ma HA T5
  go_wp2_with fail
  refine (HBQ.out w10 ZB2 T6.out.b).mono ?_
  rintro e w11 ⟨ZB3, rfl, lb, mb⟩
  have T7 := hid (T6.out.onB lb mb)
  clear lb mb HBQ T6
  have H149N := hid (show (er3 != er3) = false from bne_self_eq_false er3)
  have hne149 := H149N.out
  have hmm := @run_makeMap Tryz.prog
  go_upto_region 15 with fail
  go_cut [149] from 133 to 149 (fun v U => v = .bool false ∧ Below w11.heap.size w11 U)
  case first =>
    by_cases he : er3 = 0
    · have heb : (er3 == 0) = true := beq_iff_eq.2 he
      have HXX := hid (HHX.out he)
      have HOK := hid T7.out.a.ar.ok
      have HVB := hid T7.out.b.ar.vw
      have HDU := hid (dump_any sa X3 w11 T7.out.a.ar.vw)
      clear he HHX T7
      go_wp2_with fail
      refine HDU.out.mono ?_
      rintro e u1 ⟨A1, c1, rfl, hn, hb1⟩
      have HNN := hid (hn.ext ((Below.refl u1.heap.size u1).alloc (Nat.le_refl _) (.map #[] 0)))
      have HB1 := hid hb1
      have HY := hid (HVB.out.ext (hb1.alloc hb1.size (.map #[] 0)))
      have HBI := hid (bisim_any (M := []) HOK.out.len HOK.out (bs_same HOK.out HXX.out) HY.out HNN.out (MtP.new u1))
      clear hn hb1 HDU HVB
      go_wp2_with fail
      refine HBI.out.mono ?_
      rintro e u2 ⟨rfl, -, ht⟩
      have HF := hid (HB1.out.trans ((ht.below (B := u1.heap.size) (fun b e => by rw [e]; exact Nat.le_refl _) (by simp) |> fun k => (((Below.refl u1.heap.size u1).alloc (Nat.le_refl _) (.map #[] 0)).trans k)).mono HB1.out.size))
      clear ht HBI
      go_wp2_with fail
      go_meet
      exact ⟨rfl, HF.out⟩
    · have heb : (er3 == 0) = false := beq_eq_false_iff_ne.2 he
      clear he HHX
      go_wp2_with fail
      go_meet
      exact ⟨rfl, Below.refl _ _⟩
  obtain ⟨hcv, hcb⟩ := hcut
  subst hcv
  have T8 := hid (T7.out.ext hcb)
  clear hcb T7 HHX hne149 hmm
  go_wp2_with fail
  obtain ⟨r4, hr4⟩ : ∃ r, r = begF X3 i c x := ⟨_, rfl⟩
  have h11 := beg_len X3 i c x
  have HH := hid (show r4.2.2 = 0 → ∀ a ∈ r4.2.1, hasB r4.1 a = true from fun h => by rw [hr4] at h ⊢; exact beg_has T8.out.a.ar.ok h)
  have HZ := hid (show r4.2.2 ≠ 0 → r4.2.1 = epZ from fun h => by rw [hr4] at h ⊢; exact beg_err h)
  have HA := hid (beg_any T8.out.a HT2.out hi hc hx)
  have HBQ := hid (fun (U : World) (Zq : Nat → Prop) (lq : LQ w3 U Zq sb X3) => q_beg lq hi hc hx)
  rw [← hr4] at HA h11 HBQ
  clear hr4
  obtain ⟨X4, el, es⟩ := r4
  dsimp only at HH HZ h11
  obtain ⟨f0, f1, f2, f3, f4, f5, f6, f7, f8, f9, f10, rfl⟩ := len11 h11
  clear h11
  unfold EpS epV at HA
  unfold EpQ epV at HBQ
  dsimp only at HA HBQ
  go_wp2_with fail
  refine HA.out.mono ?_
  rintro e w12 ⟨ZA4, rfl, la, ma⟩
  have T9 := hid ((T8.out.onA la ma).alloc (.cells #[.int .i64 f0, .int .i64 f1, .int .i64 f2, .int .i64 f3, .int .i64 f4, .int .i64 f5, .int .i64 f6, .int .i64 f7, .int .i64 f8, .int .i64 f9, .int .i64 f10] 30))
  have K1 := hid (Bk.new (T8.out.onA la ma) [f0, f1, f2, f3, f4, f5, f6, f7, f8, f9, f10])
  clear la ma HA T8
  go_upto_region 18 with fail
  refine forget (R := fun U => Tx w3 U sa sb ZA4 ZB3 X4 X3 ∧ Bk U ZA4 ZB3 w12.heap.size [f0, f1, f2, f3, f4, f5, f6, f7, f8, f9, f10]) ?_ ⟨T9.out, K1.out⟩
  clear T9 K1
  generalize w12.heap.size = by1 at *
  rintro V3 ⟨t1, k1⟩
  have T1 := hid t1; have K1 := hid k1
  clear t1 k1
  go_wp2_with fail
  refine (HBQ.out V3 ZB3 T1.out.b).mono ?_
  rintro e w13 ⟨ZB4, rfl, lb, mb⟩
  have T2 := hid ((T1.out.onB lb mb).alloc (.cells #[.int .i64 f0, .int .i64 f1, .int .i64 f2, .int .i64 f3, .int .i64 f4, .int .i64 f5, .int .i64 f6, .int .i64 f7, .int .i64 f8, .int .i64 f9, .int .i64 f10] 30))
  have K2 := hid ((K1.out.onB mb).ext ((Below.refl _ _).alloc (Nat.le_refl _) (.cells #[.int .i64 f0, .int .i64 f1, .int .i64 f2, .int .i64 f3, .int .i64 f4, .int .i64 f5, .int .i64 f6, .int .i64 f7, .int .i64 f8, .int .i64 f9, .int .i64 f10] 30)))
  have K3 := hid (Bk.new (T1.out.onB lb mb) [f0, f1, f2, f3, f4, f5, f6, f7, f8, f9, f10])
  clear lb mb HBQ T1 K1
  go_upto_region 19 with fail
  refine forget (R := fun U => Tx w3 U sa sb ZA4 ZB4 X4 X4 ∧ Bk U ZA4 ZB4 by1 [f0, f1, f2, f3, f4, f5, f6, f7, f8, f9, f10] ∧ Bk U ZA4 ZB4 w13.heap.size [f0, f1, f2, f3, f4, f5, f6, f7, f8, f9, f10]) ?_ ⟨T2.out, K2.out, K3.out⟩
  clear T2 K2 K3
  generalize w13.heap.size = by2 at *
  rintro V4 ⟨t1, k1, k2⟩
  have T1 := hid t1
  have x0 : V4.cell? ⟨by1, 0, none⟩ = some (.int .i64 f0) := by rw [cell_of_row V4 by1 0 _ _ (0, 0) k1.1]; rfl
  have x1 : V4.cell? ⟨by1, 1, none⟩ = some (.int .i64 f1) := by rw [cell_of_row V4 by1 1 _ _ (0, 0) k1.1]; rfl
  have x2 : V4.cell? ⟨by1, 2, none⟩ = some (.int .i64 f2) := by rw [cell_of_row V4 by1 2 _ _ (0, 0) k1.1]; rfl
  have x3 : V4.cell? ⟨by1, 3, none⟩ = some (.int .i64 f3) := by rw [cell_of_row V4 by1 3 _ _ (0, 0) k1.1]; rfl
  have x4 : V4.cell? ⟨by1, 4, none⟩ = some (.int .i64 f4) := by rw [cell_of_row V4 by1 4 _ _ (0, 0) k1.1]; rfl
  have x5 : V4.cell? ⟨by1, 5, none⟩ = some (.int .i64 f5) := by rw [cell_of_row V4 by1 5 _ _ (0, 0) k1.1]; rfl
  have x6 : V4.cell? ⟨by1, 6, none⟩ = some (.int .i64 f6) := by rw [cell_of_row V4 by1 6 _ _ (0, 0) k1.1]; rfl
  have x7 : V4.cell? ⟨by1, 7, none⟩ = some (.int .i64 f7) := by rw [cell_of_row V4 by1 7 _ _ (0, 0) k1.1]; rfl
  have x8 : V4.cell? ⟨by1, 8, none⟩ = some (.int .i64 f8) := by rw [cell_of_row V4 by1 8 _ _ (0, 0) k1.1]; rfl
  have x9 : V4.cell? ⟨by1, 9, none⟩ = some (.int .i64 f9) := by rw [cell_of_row V4 by1 9 _ _ (0, 0) k1.1]; rfl
  have x10 : V4.cell? ⟨by1, 10, none⟩ = some (.int .i64 f10) := by rw [cell_of_row V4 by1 10 _ _ (0, 0) k1.1]; rfl
  have y0 : V4.cell? ⟨by2, 0, none⟩ = some (.int .i64 f0) := by rw [cell_of_row V4 by2 0 _ _ (0, 0) k2.1]; rfl
  have y1 : V4.cell? ⟨by2, 1, none⟩ = some (.int .i64 f1) := by rw [cell_of_row V4 by2 1 _ _ (0, 0) k2.1]; rfl
  have y2 : V4.cell? ⟨by2, 2, none⟩ = some (.int .i64 f2) := by rw [cell_of_row V4 by2 2 _ _ (0, 0) k2.1]; rfl
  have y3 : V4.cell? ⟨by2, 3, none⟩ = some (.int .i64 f3) := by rw [cell_of_row V4 by2 3 _ _ (0, 0) k2.1]; rfl
  have y4 : V4.cell? ⟨by2, 4, none⟩ = some (.int .i64 f4) := by rw [cell_of_row V4 by2 4 _ _ (0, 0) k2.1]; rfl
  have y5 : V4.cell? ⟨by2, 5, none⟩ = some (.int .i64 f5) := by rw [cell_of_row V4 by2 5 _ _ (0, 0) k2.1]; rfl
  have y6 : V4.cell? ⟨by2, 6, none⟩ = some (.int .i64 f6) := by rw [cell_of_row V4 by2 6 _ _ (0, 0) k2.1]; rfl
  have y7 : V4.cell? ⟨by2, 7, none⟩ = some (.int .i64 f7) := by rw [cell_of_row V4 by2 7 _ _ (0, 0) k2.1]; rfl
  have y8 : V4.cell? ⟨by2, 8, none⟩ = some (.int .i64 f8) := by rw [cell_of_row V4 by2 8 _ _ (0, 0) k2.1]; rfl
  have y9 : V4.cell? ⟨by2, 9, none⟩ = some (.int .i64 f9) := by rw [cell_of_row V4 by2 9 _ _ (0, 0) k2.1]; rfl
  have y10 : V4.cell? ⟨by2, 10, none⟩ = some (.int .i64 f10) := by rw [cell_of_row V4 by2 10 _ _ (0, 0) k2.1]; rfl
  clear t1 k1 k2
  have HS := hid (same11_any sa sb X4 [f0, f1, f2, f3, f4, f5, f6, f7, f8, f9, f10] es V4 T1.out.a.ar.vw T1.out.b.ar.vw T1.out.a.ar.ok rfl rfl HH.out HZ.out)
  unfold epV at HS
  have HBF := hid (fun (U : World) (hb : Below V4.heap.size V4 U) => HB2.out.trans ((T1.out.ext hb).a.bl.mono HB2.out.size))
  clear T1
  go_wp2_with fail
  refine HS.out.mono ?_
  rintro e w14 ⟨rfl, bs⟩
  have HBG := hid (HBF.out w14 bs)
  clear bs HBF HS
  go_wp2_with fail
  go_ret
  exact ⟨rfl, HBG.out⟩
end Go.Proofs.YtkgobglmkhkbbaaGreatDoor

/- Arguments opened: what the walk is told of a value that can be read. Of no program. -/
namespace Go.KK
open Go.ChangeShapes Go.WideShapes Go.ChangeAt Go.RowKit Go.Deep
set_option linter.unusedVariables false
set_option linter.unusedSimpArgs false

section
variable {H : Type} {enc : TypeId × Value → H} {P : Program} {w : World} {base : Nat} {spare : Nat → Bool} {held : Bool}
/-- A slice of integers that came in. -/
theorem opens_ints {r : Reach} {b0 : Nat} {t e : TypeId} {k : IntKind} {v : Value} {d : DataW H} {p : List MemPlace} (ht : P.underlying t = some (.slice e)) (he : P.underlying e = some (.int k)) (hc : P.cellsOf e = 1)
    (hv : Value.okWide P w r b0 t v) (h : DataW.Trod enc P w base spare held t v d p) :
    ∃ (A : Option Addr) (n c : Nat) (l : List Int), v = .slice A n c ∧ SlA w 1 A n c (l.map (Value.int k)) ∧ ∀ x ∈ l, (Lit.int k x).wf = true := by
  obtain ⟨A, n, c, rfl⟩ := okWide_slice ht hv
  obtain ⟨fuel, hf⟩ := h
  rcases open_ints ht he hc hf with ⟨hcs, _⟩ | ⟨x, l, c', zs, hcs, _, hl, hm, hz, _, hcell, hwz⟩
  · simp [Value.cells] at hcs
    obtain ⟨rfl, rfl, rfl⟩ := hcs
    exact ⟨_, _, _, [], rfl, SlA.nil _ _, by simp⟩
  · simp [Value.cells] at hcs
    obtain ⟨rfl, rfl, rfl⟩ := hcs
    have hzl : n ≤ zs.length := by rw [hz]; split <;> omega
    refine ⟨_, _, _, zs.take n, rfl, ⟨hl, hm, by simp; omega, fun j u hj => ?_⟩, fun y hy => hwz y (List.mem_of_mem_take hy)⟩
    rw [List.getElem?_map, List.getElem?_take] at hj
    split at hj
    · rename_i hjn
      have hc := hcell j (by omega)
      have hjl : j < zs.length := by omega
      rw [List.getElem?_eq_getElem hjl] at hj
      simp only [Option.map_some, Option.some.injEq] at hj
      obtain ⟨b, off, spot⟩ := x
      have hs : spot = none ∨ 0 < j := by
        rcases Nat.eq_zero_or_pos j with h0 | h0
        · subst h0
          left
          have := World.cell?_spot hc
          simpa [Addr.add] using this
        · exact .inr h0
      have h0 := hcell 0 (by omega)
      have hspot : spot = none := by simpa [Addr.add] using World.cell?_spot h0
      subst hspot
      refine ⟨b, off, rfl, ?_⟩
      rw [add_lit] at hc
      rw [hc, ← hj, List.getD, List.getElem?_eq_getElem hjl]
      rfl
    · cases hj

def intV : Value → Int
  | .int _ n => n
  | _ => 0
/-- A struct of integers, by value. -/
theorem opens_struct_ints {r : Reach} {b0 : Nat} {t ti : TypeId} {fs : Array Field} {v : Value} {d : DataW H} {p : List MemPlace} (hs : P.underlying t = some (.struct fs)) (hone : oneCellFields P fs = true) (hC : P.cellsOf t = fs.size)
    (hT : fs.all (fun f => f.type == ti) = true) (hti : P.underlying ti = some (.int .i64)) (hv : Value.okWide P w r b0 t v) (h : DataW.Trod enc P w base spare held t v d p) :
    ∃ l : List Int, l.length = fs.size ∧ v = .agg (l.map (Value.int .i64)).toArray ∧ ∀ x ∈ l, (Lit.int .i64 x).wf = true := by
  obtain ⟨cs, rfl, hsz⟩ := okWide_struct hs hv
  obtain ⟨l⟩ := cs
  have hsz' : l.length = fs.size := by simpa using hsz.trans hC
  obtain ⟨fuel, hf⟩ := h
  obtain ⟨xs, n, _, hx, _, hlen, hg⟩ := DataW.trod_struct hs hf
  have each : ∀ j (hj : j < l.length), ∃ a, l[j] = Value.int .i64 a ∧ (Lit.int .i64 a).wf = true := by
    intro j hj
    have hfj : fs[j]? = some fs[j] := Array.getElem?_eq_getElem (by omega)
    obtain ⟨ho, hk⟩ := hone_of hone j fs[j] hfj
    have h1 := hg j fs[j] hfj
    rw [ho, hk] at h1
    have ht : fs[j].type = ti := by
      have := Array.all_eq_true.1 hT j (by omega)
      simpa using this
    have hcell : (((Value.agg ⟨l⟩).cells.toList.drop j).take 1) = [l[j]] := by
      show (l.drop j).take 1 = _
      rw [List.drop_eq_getElem_cons hj]; rfl
    rw [hcell, ht] at h1
    have hy : xs[j]? = some (xs[j]'(by omega)) := List.getElem?_eq_getElem _
    obtain ⟨a, ha, _, hw⟩ := DataW.trod_int hti (h1.trans hy)
    injection ha with ha
    exact ⟨a, ha, hw⟩
  refine ⟨l.map intV, by simpa using hsz', ?_, ?_⟩
  · congr 2
    apply List.ext_getElem
    · simp
    · intro j h1 h2
      obtain ⟨a, ha, _⟩ := each j h1
      simp [ha, intV]
  · intro x hx
    obtain ⟨v, hv, rfl⟩ := List.mem_map.1 hx
    obtain ⟨j, hj, rfl⟩ := List.getElem_of_mem hv
    obtain ⟨a, ha, hw⟩ := each j hj
    rw [ha]
    exact hw
end
end Go.KK

