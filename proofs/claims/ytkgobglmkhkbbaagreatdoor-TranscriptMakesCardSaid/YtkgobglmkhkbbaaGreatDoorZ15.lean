import Derived.Test.YtkgobglmkhkbbaaGreatDoorZ14
import Derived.BigQuiet
import Derived.Test.YtkgobglmkhkbbaaGreatDoorZ11
import Derived.Test.YtkgobglmkhkbbaaGreatDoorZ05
/- transcript's law: TranscriptApart walked. -/
namespace Go.KK
open Go.RowKit
set_option linter.unusedVariables false
set_option linter.unusedSimpArgs false

/-- Two chains of one arena, one behind the other. -/
theorem apart_law {xs : List ND} (ok : Okay xs) {start : Int} {L M : List (Int × Int × Int)} {s1 s2 : Cs} (h1 : s1 = chF xs start L) (h2 : s2 = chF s1.1 start M) (e1 : s1.2.2.2 = 0) (e2 : s2.2.2.2 = 0) :
    s1.2.2.1.length = L.length ∧ s2.2.2.1.length = M.length ∧ ∀ i a b, L[i]? = some a → M[i]? = some b → (s1.2.2.1.getD i 0 = s2.2.2.1.getD i 0 ↔ L.take i = M.take i ∧ a.1 = b.1 ∧ a.2.1 = b.2.1) := by
  have o1 : Okay s1.1 := by rw [h1]; exact chF_okay ok start L
  have o2 : Okay s2.1 := by rw [h2]; exact chF_okay o1 start M
  obtain ⟨v, hv⟩ := ch_grow s1.1 start M
  rw [← h2] at hv
  have c1 : ChAt s1.1 start L s1.2.2.1 s1.2.1 := by rw [h1] at e1 ⊢; exact chF_at xs start L e1
  have c2 : ChAt s2.1 start M s2.2.2.1 s2.2.1 := by rw [h2] at e2 ⊢; exact chF_at _ start M e2
  refine ⟨by rw [h1] at e1 ⊢; exact chF_len xs start L e1, by rw [h2] at e2 ⊢; exact chF_len _ start M e2, fun i a b ha hb => ?_⟩
  have c1' := c1.ext v
  rw [← hv] at c1'
  exact ch_apart o2 c1' c2 i a b ha hb
theorem take_next {L M : List (Int × Int × Int)} {i : Nat} {a b : Int × Int × Int} (ha : L[i]? = some a) (hb : M[i]? = some b) : L.take (i + 1) = M.take (i + 1) ↔ L.take i = M.take i ∧ a.1 = b.1 ∧ a.2.1 = b.2.1 ∧ a.2.2 = b.2.2 := by
  rw [take_one ha, take_one hb]
  constructor
  · intro e
    obtain ⟨e1, e2⟩ := List.append_inj' e rfl
    simp only [List.cons.injEq, and_true] at e2
    subst e2
    exact ⟨e1, rfl, rfl, rfl⟩
  · rintro ⟨e, e1, e2, e3⟩
    obtain ⟨a1, a2, a3⟩ := a
    obtain ⟨b1, b2, b3⟩ := b
    simp only at e1 e2 e3
    rw [e, e1, e2, e3]
theorem fl3_app (L M : List (Int × Int × Int)) : fl3 (L ++ M) = fl3 L ++ fl3 M := by unfold fl3; rw [List.map_append, List.flatten_append]
end Go.KK
namespace Go.Proofs.YtkgobglmkhkbbaaGreatDoor
open Go.RowKit Go.KK Go.Shelf Go.Maps


theorem info3 : (Tryz.prog.info? 39).map (fun i => (i.zero, i.size, i.bytes)) = some (some (.agg #[.int .i64 0, .int .i64 0, .int .i64 0]), 3, 24) := by kernel_rfl
set_option maxHeartbeats 8000000 in
set_option maxRecDepth 100000 in
theorem aparts_go (start : Int) (A : Option Addr) (n c : Nat) (L : List (Int × Int × Int)) (A' : Option Addr) (n' c' : Nat) (M : List (Int × Int × Int)) (w : World) (hst : I64 start) (hl : SlA w 3 A n c ((fl3 L).map (.int .i64))) (hn : L.length = n) (hi : ∀ m ∈ L, I64 m.1 ∧ I64 m.2.1 ∧ I64 m.2.2)
    (hl' : SlA w 3 A' n' c' ((fl3 M).map (.int .i64))) (hn' : M.length = n') (hi' : ∀ m ∈ M, I64 m.1 ∧ I64 m.2.1 ∧ I64 m.2.2) (hT : Tb w.heap.size w) (hE : EvS w.heap.size w) :
    Calls Tryz.prog 12 #[.int .i64 start, .slice A n c, .slice A' n' c'] w fun e w' => e = .returned (.bool true) ∧ Below w.heap.size w w' := by
  obtain ⟨i0, hi0, hz0, hz1, hz2⟩ := info_parts info3
  have HLV := hid (live12_any w hT hE)
  have HT := hid hT; have HL := hid hl; have HI := hid hi; have HN := hid hn
  have HM := hid hl'; have HJ := hid hi'; have HK := hid hn'
  clear hT hE hl hi hn hl' hi' hn'
  go_enter Tryz.func12, Tryz.ntmps12
  go_wp2_with fail
  refine HLV.out.mono ?_
  rintro e w1 ⟨rfl, b1⟩
  have HB1 := hid b1
  have HT1 := hid (show Tb w1.heap.size w1 from Tb.up (HT.out.on b1) b1.size)
  have HL1 := hid (HL.out.ext b1); have HM1 := hid (HM.out.ext b1)
  clear b1 HLV HT HL HM
  by_cases hn40 : 40 < n
  · have hn1 : (40 : Int) < (n : Int) := by omega
    clear hn40
    go_wp2_with fail
    go_ret
    exact ⟨rfl, HB1.out⟩
  have hn1 : ¬ (40 : Int) < (n : Int) := by omega
  have hn2 : n ≤ 40 := by omega
  clear hn40
  by_cases hm40 : 40 < n'
  · have hm1 : (40 : Int) < (n' : Int) := by omega
    clear hm40
    go_wp2_with fail
    go_ret
    exact ⟨rfl, HB1.out⟩
  have hm1 : ¬ (40 : Int) < (n' : Int) := by omega
  have hm2 : n' ≤ 40 := by omega
  clear hm40
  have HBY := hid (beyond_any 10 (some ⟨w1.heap.size, 0, none⟩) 1 1 [start] (w1.alloc (.cells #[.int .i64 start] 3)) (sla_row #[.int .i64 start] (by unfold maxLen; simp)) (by omega))
  have HBA := hid (show Below w1.heap.size w1 (w1.alloc (.cells #[.int .i64 start] 3)) from (Below.refl _ _).alloc (Nat.le_refl _) _)
  go_wp2_with fail
  refine HBY.out.mono ?_
  rintro e w2 ⟨⟨b, rfl⟩, hw⟩
  subst hw
  rcases b with _ | _
  rotate_left
  · go_wp2_with fail
    go_ret
    exact ⟨rfl, HB1.out.trans (HBA.out.mono HB1.out.size)⟩
  have HB2 := hid (HB1.out.trans (HBA.out.mono HB1.out.size))
  have HT2 := hid (show Tb (w1.alloc (.cells #[.int .i64 start] 3)).heap.size (w1.alloc (.cells #[.int .i64 start] 3)) from Tb.up (HT1.out.on HBA.out) HBA.out.size)
  have HL2 := hid (HL1.out.ext HBA.out); have HM2 := hid (HM1.out.ext HBA.out)
  clear HB1 HT1 HL1 HBA HBY HM1
  generalize w1.alloc (.cells #[.int .i64 start] 3) = w2 at *
  go_wp2_with (first
    | (at_builtin; refine wpList_append_new _ rfl _ _ 77 rfl 39 i0 (.agg #[.int .i64 0, .int .i64 0, .int .i64 0]) 3 24 Tryz.underlying77 hi0 hz0 hz1 hz2 rfl (by decide) rfl A n c ((fl3 L).map (.int .i64)) rfl HL2.out (ints_one _ _) (by unfold maxLen; omega) (by omega) ?_; intro v3 w3 own3 bel3; have HO3 := hid own3; have HB3 := hid bel3; have HM3 := hid (HM2.out.ext bel3); clear own3 bel3)
    | (at_builtin; refine wpList_append_sl _ rfl _ _ 77 rfl _ 39 i0 (.agg #[.int .i64 0, .int .i64 0, .int .i64 0]) 3 24 Tryz.underlying77 hi0 hz0 hz1 hz2 rfl (by decide) v3 n ((fl3 L).map (.int .i64)) rfl HO3.out A' n' c' ((fl3 M).map (.int .i64)) rfl HM3.out (ints_one _ _) (by unfold maxLen; omega) (by omega) HB3.out.size ?_; intro v4 w4 own4 gr4 loc4; obtain ⟨A4, c4, rfl, hs4⟩ := SlA.owned own4; have HS4 := hid hs4; have HB4 := hid (below_append HB3.out gr4 HO3.out (Nat.le_refl _) HB3.out.size); clear own4 gr4 loc4 hs4)
    | fail)
  have HR4 := hid (show SlA w4 3 A4 (n + n') c4 ((fl3 (L ++ M)).map (.int .i64)) by rw [fl3_app, List.map_append]; exact HS4.out)
  have HN4 := hid (show (L ++ M).length = n + n' by rw [List.length_append, HN.out, HK.out])
  have HT4 := hid (show Tb w4.heap.size w4 from Tb.up (HT2.out.on HB4.out) HB4.out.size)
  have HL4 := hid (HL2.out.ext HB4.out); have HM4 := hid (HM2.out.ext HB4.out)
  have HB4' := hid (HB2.out.trans (HB4.out.mono HB2.out.size))
  clear HO3 HB3 HM3 HS4 HB4 HL2 HM2 HT2 HB2
  go_loopw [39] (fun v wr => ∃ j : Nat, v = .int .i64 j ∧ j ≤ n + n' ∧ Hid (Below w4.heap.size w4 wr)) (fun v _ => n + n' - (intOf v).toNat)
  case atStart => exact ⟨0, rfl, Nat.zero_le _, hid (Below.refl _ _)⟩
  case round =>
    obtain ⟨j, hv, hj, HBW⟩ := hrel
    subst hv
    by_cases hlt : j < n + n'
    · obtain ⟨b, off, m, rfl, hm, c0, c1, c2⟩ := sl3_here (HR4.out.ext HBW.out) HN4.out hlt
      obtain ⟨m1, m2, m3⟩ := m
      dsimp only at c0 c1 c2
      clear hm
      have hlt' : (j : Int) < ((n : Int) + (n' : Int)) := by omega
      have HLT := hid hlt
      have HBY := hid (beyond_any 10 (some ⟨wr.heap.size, 0, none⟩) 3 3 [m1, m2, m3] (wr.alloc (.cells #[.int .i64 m1, .int .i64 m2, .int .i64 m3] 39)) (sla_row #[.int .i64 m1, .int .i64 m2, .int .i64 m3] (by unfold maxLen; simp)) (by omega))
      have HB3 := hid (HBW.out.alloc HBW.out.size (.cells #[.int .i64 m1, .int .i64 m2, .int .i64 m3] 39))
      clear hlt
      go_wp2_with fail
      refine HBY.out.mono ?_
      rintro e w3 ⟨⟨b, rfl⟩, hw⟩
      subst hw
      rcases b with _ | _
      rotate_left
      · go_wp2_with fail
        go_ret
        exact ⟨rfl, HB4'.out.trans (HB3.out.mono HB4'.out.size)⟩
      go_wp2_with fail
      go_roundw
      case rel => exact ⟨j + 1, by go_num, by have := HLT.out; omega, HB3⟩
      case measure => have := HLT.out; simp [intOf]; omega
    · obtain rfl : j = n + n' := by omega
      have hlt' : ¬ ((n : Int) + (n' : Int)) < ((n : Int) + (n' : Int)) := by omega
      have HT3 := hid (show Tb wr.heap.size wr from Tb.up (HT4.out.on HBW.out) HBW.out.size)
      have HL3 := hid (HL4.out.ext HBW.out); have HM3 := hid (HM4.out.ext HBW.out)
      have HB3 := hid (HB4'.out.trans (HBW.out.mono HB4'.out.size))
      clear hlt HBW HL4 HM4 HT4 HB4' hj HR4 HN4
      go_wp2_with fail
      refine (two12_any wr HT3.out).mono ?_
      rintro e w5 ⟨sa, sb, Z, Z', rfl, htw⟩
      have L5 := hid htw.la; have HOK := hid htw.la.ar.ok
      clear htw
      have HS5 := hid (Sl3.of_in HL3.out HN.out L5.out)
      have HQ5 := hid (Sl3.of_in HM3.out HK.out L5.out)
      obtain ⟨s1, hs1⟩ : ∃ s1 : Cs, s1 = chF (atoms 10) start L := ⟨_, rfl⟩
      have HCH := hid (l_chain L5.out HT3.out hst HS5.out (by omega) HI.out)
      rw [← hs1] at HCH
      have H1 := hid hs1
      clear hs1
      go_wp2_with fail
      refine HCH.out.mono ?_
      rintro e w6 ⟨Z6, v1, rfl, l6, o6, z6, t6⟩
      have L6 := hid l6; have O6 := hid o6
      have M6 := hid (Mv.mk t6 z6)
      clear l6 o6 z6 t6 HCH
      obtain ⟨X1, n1, out, er1⟩ := s1
      dsimp only at L6 O6
      obtain ⟨A1, c1, hv1, -⟩ := O6.out.sla
      subst hv1
      have HQ6 := hid (Sl3.mv HQ5.out M6.out); have HS6 := hid (Sl3.mv HS5.out M6.out)
      obtain ⟨s2, hs2⟩ : ∃ s2 : Cs, s2 = chF X1 start M := ⟨_, rfl⟩
      have HCH := hid (l_chain L6.out HT3.out hst HQ6.out (by omega) HJ.out)
      rw [← hs2] at HCH
      have H2 := hid hs2
      clear hs2 HQ5 HS5 M6
      go_wp2_with fail
      refine HCH.out.mono ?_
      rintro e w7 ⟨Z7, v2, rfl, l7, o7, z7, t7⟩
      have L7 := hid l7; have O7 := hid o7
      have M7 := hid (Mv.mk t7 z7)
      have O1 := hid (O6.out.mv M7.out)
      have HQ7 := hid (Sl3.mv HQ6.out M7.out); have HS7 := hid (Sl3.mv HS6.out M7.out)
      clear l7 o7 z7 t7 HCH O6 L6 HQ6 HS6
      obtain ⟨X2, n2, out2, er2⟩ := s2
      dsimp only at L7 O7
      obtain ⟨A2, c2, hv2, -⟩ := O7.out.sla
      subst hv2
      have HBF := hid (HB3.out.trans (L7.out.bl.mono HB3.out.size))
      by_cases e1 : er1 = 0
      rotate_left
      · have hne : (er1 != 0) = true := bne_iff_ne.2 e1
        have hne2 : (er1 == 0) = false := beq_eq_false_iff_ne.2 e1
        have hlen : out.length = 0 := by
          have := chF_err (atoms 10) start L (by rw [← H1.out]; exact e1)
          rw [← H1.out] at this
          rw [show out = [] from this]; rfl
        rw [hlen]
        by_cases e2 : er2 = 0
        · subst e2
          clear e1
          go_wp2_with fail
          go_ret
          exact ⟨rfl, HBF.out⟩
        · have hne3 : (er2 == 0) = false := beq_eq_false_iff_ne.2 e2
          have hlen2 : out2.length = 0 := by
            have := chF_err X1 start M (by rw [← H2.out]; exact e2)
            rw [← H2.out] at this
            rw [show out2 = [] from this]; rfl
          rw [hlen2]
          clear e1 e2
          go_wp2_with fail
          go_ret
          exact ⟨rfl, HBF.out⟩
      subst e1
      by_cases e2 : er2 = 0
      rotate_left
      · have hne : (er2 != 0) = true := bne_iff_ne.2 e2
        have hne3 : (er2 == 0) = false := beq_eq_false_iff_ne.2 e2
        have hlen2 : out2.length = 0 := by
          have := chF_err X1 start M (by rw [← H2.out]; exact e2)
          rw [← H2.out] at this
          rw [show out2 = [] from this]; rfl
        rw [hlen2]
        clear e2
        go_wp2_with fail
        go_ret
        exact ⟨rfl, HBF.out⟩
      subst e2
      have HAP := hid (apart_law HOK.out H1.out H2.out rfl rfl)
      have hol : out.length = n := HAP.out.1.trans HN.out
      have hol2 : out2.length = n' := HAP.out.2.1.trans HK.out
      rw [hol, hol2]
      have SX := hid (show SlA w7 1 A1 n c1 (out.map (.int .i64)) by
        obtain ⟨A', c', e', hs⟩ := O1.out.sla
        rw [hol] at e' hs
        injection e' with ea eb ec
        subst ea; subst ec
        exact hs)
      have SY := hid (show SlA w7 1 A2 n' c2 (out2.map (.int .i64)) by
        obtain ⟨A', c', e', hs⟩ := O7.out.sla
        rw [hol2] at e' hs
        injection e' with ea eb ec
        subst ea; subst ec
        exact hs)
      clear hol hol2 O1 O7 H1 H2
      have hmin : ∃ p : Nat, min (n : Int) (n' : Int) = (p : Int) ∧ p ≤ n ∧ p ≤ n' ∧ p = min n n' := ⟨min n n', by omega, by omega, by omega, rfl⟩
      obtain ⟨p, hp, hpn, hpm, -⟩ := hmin
      have HPN := hid hpn; have HPM := hid hpm
      clear hpn hpm
      go_wp2_with fail
      go_loopw [107, 16, 17, 18] (fun v a _ _ wr2 => ∃ j2 : Nat, v = .int .i64 j2 ∧ j2 ≤ p ∧ a = .bool (decide (L.take j2 = M.take j2)) ∧ Hid (Below w7.heap.size w7 wr2)) (fun v _ _ _ _ => p - (intOf v).toNat)
      case atStart => exact ⟨0, rfl, Nat.zero_le _, by simp, hid (Below.refl _ _)⟩
      case round =>
        obtain ⟨j2, hv, hj2, ha, HB7⟩ := hrel
        subst hv
        subst ha
        by_cases hlt : j2 < p
        · have hlt' : (j2 : Int) < (p : Int) := by omega
          have HLT := hid hlt
          have hjn : j2 < n := by have := HPN.out; omega
          have hjm : j2 < n' := by have := HPM.out; omega
          obtain ⟨b1, o1, a, hA1, ham, ca0, ca1, ca2⟩ := (Sl3.mv HS7.out (Mv.below HB7.out)).at hjn
          obtain ⟨b2, o2, b, hA2, hbm, cb0, cb1, cb2⟩ := (Sl3.mv HQ7.out (Mv.below HB7.out)).at hjm
          obtain ⟨b3, o3, x, hA3, hx, cx⟩ := (SX.out.ext HB7.out).elemI hjn
          obtain ⟨b4, o4, y, hA4, hy, cy⟩ := (SY.out.ext HB7.out).elemI hjm
          subst hA1; subst hA2; subst hA3; subst hA4
          have hiff := HAP.out.2.2 j2 a b ham hbm
          rw [List.getD, List.getD, hx, hy] at hiff
          have hnext := take_next ham hbm
          simp only [Option.getD_some] at hiff
          obtain ⟨a1, a2, a3⟩ := a
          obtain ⟨d1, d2, d3⟩ := b
          dsimp only at ca0 ca1 ca2 cb0 cb1 cb2 hiff hnext
          have q1 : (j2 : Int) < (n : Int) := by omega
          have q2 : (j2 : Int) < (n' : Int) := by omega
          clear ham hbm hx hy hjn hjm
          by_cases zA : L.take j2 = M.take j2
          rotate_left
          · have hah : decide (L.take j2 = M.take j2) = false := decide_eq_false zA
            rw [hah]
            clear hah
            have hxy : (x == y) = false := beq_eq_false_iff_ne.2 (fun e => zA (hiff.1 e).1)
            have hnx : decide (L.take (j2 + 1) = M.take (j2 + 1)) = false := decide_eq_false (fun e => zA (hnext.1 e).1)
            have HNX := hid hnx
            clear hnx hiff hnext zA hlt
            go_wp2_with fail
            go_quiet (fail)
            go_wp2_with fail
            go_quiet (fail)
            go_wp2_with fail
            go_quiet (fail)
            go_wp2_with fail
            go_roundw
            case rel => exact ⟨j2 + 1, by go_num, by have := HLT.out; omega, by rw [HNX.out], hid (HB7.out.trans ((below_drewN (Below.refl _ _) _).mono HB7.out.size))⟩
            case measure => have := HLT.out; simp [intOf]; omega
          have hah : decide (L.take j2 = M.take j2) = true := decide_eq_true zA
          rw [hah]
          clear hah
          by_cases z1 : a1 = d1
          rotate_left
          · have y1 : (a1 == d1) = false := beq_eq_false_iff_ne.2 z1
            have hxy : (x == y) = false := beq_eq_false_iff_ne.2 (fun e => z1 (hiff.1 e).2.1)
            have hnx : decide (L.take (j2 + 1) = M.take (j2 + 1)) = false := decide_eq_false (fun e => z1 (hnext.1 e).2.1)
            have HNX := hid hnx
            clear hnx hiff hnext zA z1 hlt
            go_wp2_with fail
            go_quiet (fail)
            go_wp2_with fail
            go_quiet (fail)
            go_wp2_with fail
            go_quiet (fail)
            go_wp2_with fail
            go_roundw
            case rel => exact ⟨j2 + 1, by go_num, by have := HLT.out; omega, by rw [HNX.out], hid (HB7.out.trans ((below_drewN (Below.refl _ _) _).mono HB7.out.size))⟩
            case measure => have := HLT.out; simp [intOf]; omega
          have y1 : (a1 == d1) = true := beq_iff_eq.2 z1
          by_cases z2 : a2 = d2
          rotate_left
          · have y2 : (a2 == d2) = false := beq_eq_false_iff_ne.2 z2
            have hxy : (x == y) = false := beq_eq_false_iff_ne.2 (fun e => z2 (hiff.1 e).2.2)
            have hnx : decide (L.take (j2 + 1) = M.take (j2 + 1)) = false := decide_eq_false (fun e => z2 (hnext.1 e).2.2.1)
            have HNX := hid hnx
            clear hnx hiff hnext zA z1 z2 hlt
            go_wp2_with fail
            go_quiet (fail)
            go_wp2_with fail
            go_quiet (fail)
            go_wp2_with fail
            go_quiet (fail)
            go_wp2_with fail
            go_roundw
            case rel => exact ⟨j2 + 1, by go_num, by have := HLT.out; omega, by rw [HNX.out], hid (HB7.out.trans ((below_drewN (Below.refl _ _) _).mono HB7.out.size))⟩
            case measure => have := HLT.out; simp [intOf]; omega
          have y2 : (a2 == d2) = true := beq_iff_eq.2 z2
          by_cases z3 : a3 = d3
          rotate_left
          · have y3 : (a3 == d3) = false := beq_eq_false_iff_ne.2 z3
            have hxy : (x == y) = true := beq_iff_eq.2 (hiff.2 ⟨zA, z1, z2⟩)
            have hnx : decide (L.take (j2 + 1) = M.take (j2 + 1)) = false := decide_eq_false (fun e => z3 (hnext.1 e).2.2.2)
            have HNX := hid hnx
            clear hnx hiff hnext zA z1 z2 z3 hlt
            go_wp2_with fail
            go_quiet (fail)
            go_wp2_with fail
            go_quiet (fail)
            go_wp2_with fail
            go_quiet (fail)
            go_wp2_with fail
            go_roundw
            case rel => exact ⟨j2 + 1, by go_num, by have := HLT.out; omega, by rw [HNX.out], hid (HB7.out.trans ((below_drewN (Below.refl _ _) _).mono HB7.out.size))⟩
            case measure => have := HLT.out; simp [intOf]; omega
          have y3 : (a3 == d3) = true := beq_iff_eq.2 z3
          have hxy : (x == y) = true := beq_iff_eq.2 (hiff.2 ⟨zA, z1, z2⟩)
          have hnx : decide (L.take (j2 + 1) = M.take (j2 + 1)) = true := decide_eq_true (hnext.2 ⟨zA, z1, z2, z3⟩)
          have HNX := hid hnx
          clear hnx hiff hnext zA z1 z2 z3 hlt
          go_wp2_with fail
          go_quiet (fail)
          go_wp2_with fail
          go_quiet (fail)
          go_wp2_with fail
          go_quiet (fail)
          go_wp2_with fail
          go_roundw
          case rel => exact ⟨j2 + 1, by go_num, by have := HLT.out; omega, by rw [HNX.out], hid (HB7.out.trans ((below_drewN (Below.refl _ _) _).mono HB7.out.size))⟩
          case measure => have := HLT.out; simp [intOf]; omega
        · obtain rfl : j2 = p := by omega
          have hlt' : ¬ (j2 : Int) < (j2 : Int) := by omega
          go_wp2_with fail
          go_ret
          exact ⟨rfl, HBF.out.trans (HB7.out.mono HBF.out.size)⟩
theorem aparts_rows (start : Int) (A : Option Addr) (n c : Nat) (ls : List (List Int)) (A' : Option Addr) (n' c' : Nat) (ms : List (List Int)) (w : World) (hst : I64 start) (hs : SlA w 3 A n c (ls.flatten.map (.int .i64))) (hn : ls.length = n) (hls : ∀ l ∈ ls, l.length = 3 ∧ ∀ x ∈ l, I64 x)
    (hs' : SlA w 3 A' n' c' (ms.flatten.map (.int .i64))) (hn' : ms.length = n') (hls' : ∀ l ∈ ms, l.length = 3 ∧ ∀ x ∈ l, I64 x) (hT : Tb w.heap.size w) (hE : EvS w.heap.size w) :
    Calls Tryz.prog 12 #[.int .i64 start, .slice A n c, .slice A' n' c'] w fun e w' => e = .returned (.bool true) ∧ Below w.heap.size w w' :=
  aparts_go start A n c (ls.map tr3) A' n' c' (ms.map tr3) w hst (by rw [fl3_tr ls fun l hl => (hls l hl).1]; exact hs) (by rw [List.length_map, hn]) (tr3_i64 hls) (by rw [fl3_tr ms fun l hl => (hls' l hl).1]; exact hs') (by rw [List.length_map, hn']) (tr3_i64 hls') hT hE
end Go.Proofs.YtkgobglmkhkbbaaGreatDoor

/- the document's arena: Len, Node; digits told one by one (plain). -/
namespace Go.KK
open Go.RowKit
set_option linter.unusedVariables false
set_option linter.unusedSimpArgs false

theorem decFrom_step {l : List UInt8} {j acc : Nat} {b : UInt8} (h : Lib.decFrom 0 (l.take j) = some acc) (hb : l[j]? = some b) (h48 : 48 ≤ b.toNat) (h57 : b.toNat ≤ 57) : Lib.decFrom 0 (l.take (j + 1)) = some (acc * 10 + (b.toNat - 48)) :=
  Lib.decFrom_take l j 0 acc b _ h hb (by unfold Lib.digitVal; rw [if_pos ⟨h48, h57⟩])
theorem decFrom_ten {l : List UInt8} {j acc : Nat} (h : Lib.decFrom 0 (l.take j) = some acc) (hj : j ≤ 9) : acc < 1000000000 := by
  have h1 := Lib.decFrom_lt _ 0 acc h
  have h2 : (l.take j).length ≤ 9 := by rw [List.length_take]; omega
  have h3 : 10 ^ (l.take j).length ≤ 10 ^ 9 := Nat.pow_le_pow_right (by omega) h2
  omega
/-- A text with a byte that is no digit, or a longer one, is no number. -/
theorem numO_bad {s : ByteArray} {j : Nat} {b : UInt8} (hb : s.data.toList[j]? = some b) (h : ¬ (48 ≤ b.toNat ∧ b.toNat ≤ 57)) : numO s = none := by
  rcases hn : numO s with _ | v
  · rfl
  · exfalso
    obtain ⟨h0, h1, rfl⟩ := numO_iff.1 hn
    have e : (digB v).data.toList = Lib.decDigits v.toNat := by unfold digB; rw [itoa_pos h0]
    rw [e] at hb
    obtain ⟨d, hd⟩ := Lib.digit_of_decFrom _ 0 _ (decFrom_digits v.toNat) j b hb
    have := Lib.digitVal_eq hd
    exact h ⟨this.1, this.2.1⟩
theorem numO_long {s : ByteArray} (h : ¬ s.size ≤ 9) : numO s = none := by
  rcases hn : numO s with _ | v
  · rfl
  · exfalso
    obtain ⟨h0, h1, rfl⟩ := numO_iff.1 hn
    exact h ((dig_nine h0).2 h1)
end Go.KK
namespace Go.Proofs.YtkgobglmkhkbbaaGreatDoor
open Go.RowKit Go.KK Go.Shelf Go.Maps

theorem digS_B (k : Nat) : digS k = digB (k : Int) := by
  apply str_ext
  show Lib.decDigits k = Lib.itoa (k : Int)
  rw [itoa_pos (by omega), Int.toNat_natCast]
theorem numO_eq {s : ByteArray} {k : Nat} (h : Lib.decFrom 0 s.data.toList = some k) (h9 : s.size ≤ 9) : numO s = if digS k = s then some (k : Int) else none := by
  have hk : k < 1000000000 := by
    have hl : s.data.toList.length ≤ 9 := by rw [Array.length_toList]; exact h9
    exact decFrom_ten (l := s.data.toList) (j := 9) (by rw [List.take_of_length_le hl]; exact h) (Nat.le_refl _)
  by_cases e : digS k = s
  · rw [if_pos e]
    exact numO_iff.2 ⟨by omega, by omega, by rw [← e, digS_B]⟩
  · rw [if_neg e]
    rcases hn : numO s with _ | v
    · rfl
    · exfalso
      obtain ⟨h0, h1, rfl⟩ := numO_iff.1 hn
      have e2 : (digB v).data.toList = Lib.decDigits v.toNat := by unfold digB; rw [itoa_pos h0]
      rw [e2, decFrom_digits] at h
      injection h with h
      apply e
      rw [digS_B, ← h, Int.toNat_of_nonneg h0]
theorem rlen_any (st : Nat) (xs : List ND) (w : World) (h : ArV w 104 st xs) :
    Calls Tryz.prog 40 #[.pointer (some ⟨st, 0, none⟩)] w fun e w' => e = .returned (.int .i64 xs.length) ∧ w' = w := by
  obtain ⟨A, c, m, h0, h1, hn⟩ := h.parts
  clear hn h
  go_enter Tryz.func40, Tryz.ntmps40
  go_wp2
  go_ret
  exact ⟨rfl, rfl⟩
set_option maxHeartbeats 2000000 in
theorem rnode_any (st : Nat) (xs : List ND) (t : Int) (w : World) (h : ArV w 104 st xs) :
    Calls Tryz.prog 81 #[.pointer (some ⟨st, 0, none⟩), .int .i64 t] w fun e w' => ∃ A c, e = .returned (.tuple #[.agg #[.int .i64 (nodeF xs t).o, .int .i64 (nodeF xs t).n, .string (nodeF xs t).s, .slice A (nodeF xs t).l.length c], .int .i64 (nodeE xs t)]) ∧ SlA w' 1 A (nodeF xs t).l.length c ((nodeF xs t).l.map (.int .i64)) ∧ Below w.heap.size w w' := by
  have up : ∀ {p : Addr} {u : Value}, w.cell? p = some u → (w.alloc (.cells #[.int .i64 0, .int .i64 0, .string ⟨#[]⟩, .slice none 0 0] 88)).cell? p = some u := fun hc => (((Below.refl w.heap.size w).alloc (Nat.le_refl _) _).cell (p := _) (block_lt_of_cell hc)).trans hc
  obtain ⟨A, c, m, h0', h1', hn⟩ := h.parts
  have h0 := up h0'; have h1 := up h1'
  have HN := hid hn
  clear h hn h0' h1'
  rcases hh : hasB xs t with _ | _
  · have HF := hid (show nodeF xs t = nd0 by unfold nodeF; rw [hh]; rfl)
    have HE := hid (show nodeE xs t = 4 by unfold nodeE; rw [hh]; rfl)
    have hno : t < 0 ∨ (0 ≤ t ∧ (xs.length : Int) ≤ t) := by
      rcases Int.lt_or_le t 0 with h | h
      · exact .inl h
      · refine .inr ⟨h, ?_⟩
        rcases Int.lt_or_le t (xs.length : Int) with h2 | h2
        · rw [has_iff.2 ⟨h, h2⟩] at hh; cases hh
        · exact h2
    clear hh
    rcases hno with hneg | ⟨h0', hge⟩
    all_goals
      go_enter Tryz.func81, Tryz.ntmps81
      go_wp2_with fail
      refine bodyPost_ret (v := .tuple #[.agg #[.int .i64 0, .int .i64 0, .string ⟨#[]⟩, .slice none 0 0], .int .i64 4]) ?_ rfl ⟨none, 0, ?_, ?_, (Below.refl _ _).alloc (Nat.le_refl _) _⟩
      · rw [results_cell_tmp rfl]
        go_simp
      · rw [HF.out, HE.out]; rfl
      · rw [HF.out]; exact SlA.nil _ _
  · have HF := hid (show nodeE xs t = 0 by unfold nodeE; rw [hh]; rfl)
    have h2 := has_iff.1 hh
    obtain ⟨j, rfl⟩ := Int.eq_ofNat_of_zero_le h2.1
    have hjn : j < xs.length := by omega
    have hjn' : ¬ (xs.length : Int) ≤ (j : Int) := by omega
    have hj0' : ¬ (j : Int) < 0 := by omega
    obtain ⟨bn, on, y, Ay, cy, rfl, hy, y0', y1', y2', y3', hsy⟩ := HN.out.at hjn
    have y0 := up y0'; have y1 := up y1'; have y2 := up y2'; have y3 := up y3'
    have HY := hid (show nodeF xs (j : Int) = y by
      unfold nodeF
      rw [hh, if_pos rfl, Int.toNat_natCast, List.getD, hy]; rfl)
    have HSY := hid hsy
    clear hh hy hsy h2 up y0' y1' y2' y3'
    go_enter Tryz.func81, Tryz.ntmps81
    go_wp2_with fail
    refine bodyPost_ret (v := .tuple #[.agg #[.int .i64 y.o, .int .i64 y.n, .string y.s, .slice Ay y.l.length cy], .int .i64 0]) ?_ rfl ⟨Ay, cy, ?_, ?_, (Below.refl _ _).alloc (Nat.le_refl _) _⟩
    · rw [results_cell_tmp rfl]
      go_simp
    · rw [HY.out, HF.out]
    · rw [HY.out]; exact HSY.out.alloc _
end Go.Proofs.YtkgobglmkhkbbaaGreatDoor

