import Derived.Test.YtpkijlmkgomfeaaGreatDoorY14
import Derived.Test.YtpkijlmkgomfeaaGreatDoorY15
import Derived.Deep.DeepCutAuto
import Derived.Deep.RegionHeld3
import Derived.Test.YtpkijlmkgomfeaaGreatDoorY01
import Derived.ProofKit
import Derived.OpenShut
import Derived.ShutString
import Derived.ChangeOld
import Derived.Deep.Slices
import Derived.Deep.Fields
import Derived.ChangeArms
import Derived.Test.YtpkijlmkgomfeaaGreatDoorY09
import Derived.Test.YtpkijlmkgomfeaaGreatDoorY05
import Derived.Test.YtpkijlmkgomfeaaGreatDoorCards
import Derived.Test.YtpkijlmkgomfeaaGreatDoorTie
import Derived.SevenTiedAt
import Derived.Lib.LaidTab
import Derived.Stop.LaidErr
import Derived.LaidMore
import Derived.Lay
import Derived.Handed
import Derived.MakeChecks
/- proposals: ProposalTerms walked. -/
namespace Go.Proofs.YtpkijlmkgomfeaaGreatDoor
open Go.RowKit Go.KK Go.Shelf Go.Maps
set_option linter.unusedVariables false
set_option linter.unusedSimpArgs false

theorem few_len {xs : List TN} {l : List PR} (h : few15 xs l = true) : l.length ≤ 30 ∧ (∀ p ∈ l, p.n.u.length ≤ 10) ∧ xs.length ≤ 70 ∧ ∀ x ∈ xs, x.u.length ≤ 40 := by
  unfold few15 at h
  simp only [Bool.and_eq_true, decide_eq_true_eq, List.all_eq_true] at h
  exact ⟨h.1.2, h.2.2, h.1.1, h.2.1⟩
/-- Cells of a proposal in a row. -/
def PcC (V : World) (b o j : Nat) (p : PR) (A : Option Addr) (c : Nat) : Prop :=
  V.cell? ⟨b, o + j * 10, none⟩ = some (.int .i64 p.k) ∧ V.cell? ⟨b, o + j * 10 + 1, none⟩ = some (.int .i64 p.f) ∧ V.cell? ⟨b, o + j * 10 + 2, none⟩ = some (.int .i64 p.n.k) ∧ V.cell? ⟨b, o + j * 10 + 3, none⟩ = some (.int .i64 p.n.i) ∧ V.cell? ⟨b, o + j * 10 + 4, none⟩ = some (.int .i64 p.n.e) ∧
      V.cell? ⟨b, o + j * 10 + 5, none⟩ = some (.int .i64 p.n.s) ∧ V.cell? ⟨b, o + j * 10 + 6, none⟩ = some (.int .i64 p.n.h) ∧ V.cell? ⟨b, o + j * 10 + 7, none⟩ = some (.slice A p.n.u.length c) ∧ V.cell? ⟨b, o + j * 10 + 8, none⟩ = some (.int .i64 p.a) ∧ V.cell? ⟨b, o + j * 10 + 9, none⟩ = some (.int .i64 p.t)
theorem PcC.ext {V V' : World} {b o j : Nat} {p : PR} {A : Option Addr} {c : Nat} (h : PcC V b o j p A c) (hb : Below V.heap.size V V') : PcC V' b o j p A c := by
  have go : ∀ (k : Nat) (v : Value), V.cell? ⟨b, k, none⟩ = some v → V'.cell? ⟨b, k, none⟩ = some v := fun k v h => (hb.cell (p := ⟨b, k, none⟩) (block_lt_of_cell h)).trans h
  exact ⟨go _ _ h.1, go _ _ h.2.1, go _ _ h.2.2.1, go _ _ h.2.2.2.1, go _ _ h.2.2.2.2.1, go _ _ h.2.2.2.2.2.1, go _ _ h.2.2.2.2.2.2.1, go _ _ h.2.2.2.2.2.2.2.1, go _ _ h.2.2.2.2.2.2.2.2.1, go _ _ h.2.2.2.2.2.2.2.2.2⟩
theorem samP_self (p : PR) : samP p p = true := samP_iff.2 rfl
theorem prF_none {X : List ND} {l : List PR} (h : (prF X l).2.2 = 0) : l.any prX = false := by
  unfold prF at h
  rcases hx : l.any prX with _ | _
  · rfl
  · rw [hx, if_pos rfl] at h; exact absurd h (show ¬ (1 : Int) = 0 by decide)
theorem prF_has {X : List ND} {l : List PR} (h : (prF X l).2.2 = 0) : hasB (prF X l).1 (prF X l).2.1 = true := by
  obtain ⟨⟨Y, x, e⟩, hq⟩ : ∃ q, q = prF X l := ⟨_, rfl⟩
  rw [← hq] at h ⊢
  dsimp only at h
  subst h
  obtain ⟨⟨ts, _, _, h3⟩, _⟩ := prF_at hq.symm
  exact h3.has
set_option maxHeartbeats 8000000 in
set_option maxRecDepth 100000 in
theorem terms_go (A : Option Addr) (n c : Nat) (l : List PR) (w : World) (hP : Pr w A n c l) (hi : ∀ p ∈ l, PrI p) (hT : Tb w.heap.size w) (hB : Tab w) :
    Calls Tryz.prog 4 #[.slice A n c] w fun e w' => e = .returned (.bool true) ∧ Below w.heap.size w w' := by
  have HT := hid hT; have HP := hid hP; have HI := hid hi
  have HTB := hid (fun (U : World) (hU : Below w.heap.size w U) => (show Tab U from hB.ext hU))
  have HL := hid hP.len
  have HLV := hid (live15_any w hT HTB.out)
  have hnm : n ≤ 9223372036854775807 := by have := hP.nc; unfold maxLen at this; omega
  have hmm := @run_makeMap Tryz.prog
  clear hT hP hi hB
  go_enter Tryz.func4, Tryz.ntmps4
  go_wp2_with fail
  refine HLV.out.mono ?_
  rintro e w1 ⟨rfl, b1⟩
  have HB1 := hid b1
  have HFW := hid (few15_any (Tr.nil w1) (HP.out.ext b1))
  clear b1 HLV
  rcases hfw : few15 [] l with _ | _
  · rw [hfw] at HFW
    clear hfw
    go_wp2_with fail
    refine HFW.out.mono ?_
    rintro e w2 ⟨rfl, b2⟩
    have HB2 := hid (HB1.out.trans (b2.mono HB1.out.size))
    clear b2 HFW
    go_wp2_with fail
    go_ret
    exact ⟨rfl, HB2.out⟩
  rw [hfw] at HFW
  obtain ⟨fl, fu, -⟩ := few_len hfw
  have hn30 : n ≤ 30 := by rw [HL.out] at fl; exact fl
  have HFU := hid fu
  clear hfw fl fu
  go_wp2_with fail
  refine HFW.out.mono ?_
  rintro e w2 ⟨rfl, b2⟩
  have HB2 := hid (HB1.out.trans (b2.mono HB1.out.size))
  clear b2 HFW HB1
  go_wp2_with fail
  go_loopw [21] (fun i wr => ∃ j : Nat, i = .int .i64 j ∧ j ≤ n ∧ Hid (Below w.heap.size w wr)) (fun i _ => n - (intOf i).toNat)
  case atStart => exact ⟨0, rfl, by omega, HB2⟩
  case round =>
    clear HB2
    obtain ⟨j, hij, hj, HB⟩ := hrel
    by_cases hlt : j < n
    · subst hij
      obtain ⟨b, o, p, A', c', rfl, hp, hsx, d0, d1, d2, d3, d4, d5, d6, d7, d8, d9⟩ := (HP.out.ext HB.out).at hlt
      have hlt' : (j : Int) < (n : Int) := by omega
      have HSX := hid hsx
      have HB1 := hid (show Below wr.heap.size wr (wr.alloc (prO p (.slice A' p.n.u.length c'))) from (Below.refl _ _).alloc (Nat.le_refl _) _)
      have HHO := hid (heap_alloc_new wr (prO p (.slice A' p.n.u.length c')))
      clear hp hsx
      unfold prO at HB1 HHO
      go_upto_region 7 with fail
      obtain ⟨bx, hbx⟩ : ∃ bx, bx = wr.heap.size := ⟨_, rfl⟩
      rw [← hbx] at HHO ⊢
      clear d0 d1 d2 d3 d4 d5 d6 d7 d8 d9 hbx
      refine forget (R := fun V => Below wr.heap.size wr V ∧ V.heap[bx]? = some (prO p (.slice A' p.n.u.length c'))) ?_ ⟨HB1.out, HHO.out⟩
      clear HB1 HHO
      rintro V ⟨bv, ho⟩
      have HBV := hid (HB.out.trans (bv.mono HB.out.size))
      have B3 := hid ((Below.refl V.heap.size V).alloc (Nat.le_refl _) (.cells #[.int .i64 p.t] 3))
      obtain ⟨x0, x1, x2, x3, x4, x5, x6, x7, x8, x9⟩ := prA10 ho
      obtain ⟨z0, z1, z2, z3, z4, z5, z6, z7, z8, z9⟩ := prA10 ((B3.out.block _ (Array.getElem?_eq_some_iff.1 ho).1).trans ho)
      have HC := hid (beyond_any 40 (some ⟨V.heap.size, 0, none⟩) 1 1 [p.t] (V.alloc (.cells #[.int .i64 p.t] 3)) (SlA.lit1 _) (by decide))
      have HSV := hid ((HSX.out.ext bv).ext B3.out)
      have HC2 := hid (rbey7_any (tr_one HSV.out) 40 (by decide))
      rw [size_al] at HC2
      have HB4 := hid (HBV.out.trans ((B3.out.alloc (by simp) (.cells #[.int .i64 p.n.k, .int .i64 p.n.i, .int .i64 p.n.e, .int .i64 p.n.s, .int .i64 p.n.h, .slice A' p.n.u.length c'] 37)).mono HBV.out.size))
      have HB3 := hid (HBV.out.trans (B3.out.mono HBV.out.size))
      clear bv ho HB
      go_wp2_with fail
      refine HC.out.mono ?_
      rintro e w3 ⟨⟨b2, rfl⟩, hw⟩
      have hw' := hw.symm
      clear hw
      subst hw'
      clear HC
      rcases b2 with _ | _
      · go_wp2_with fail
        refine HC2.out.mono ?_
        rintro e w4 ⟨⟨b4, rfl⟩, hb4⟩
        have HB5 := hid (HB4.out.trans (hb4.mono HB4.out.size))
        clear hb4 HC2
        rcases b4 with _ | _
        · go_wp2_with fail
          go_roundw
          case rel => exact ⟨j + 1, by go_num, by omega, HB5⟩
          case measure => simp [intOf]; omega
        · go_wp2_with fail
          go_ret
          exact ⟨rfl, HB5.out⟩
      · go_wp2_with fail
        go_ret
        exact ⟨rfl, HB3.out⟩
    · have hjn : j = n := by omega
      subst hjn
      subst hij
      have HTW := hid (two15_any wr (Tb.up (HT.out.on HB.out) HB.out.size))
      have HBW := hid HB.out
      have HTR := hid (Tb.up (HT.out.on HB.out) HB.out.size)
      obtain ⟨w3, rfl⟩ : ∃ w3 : World, w3 = wr := ⟨_, rfl⟩
      clear HB hlt
      go_wp2_with fail
      refine HTW.out.mono ?_
      rintro e w4 ⟨sa, sb, Z, Z', rfl, htx⟩
      have HTX := hid htx
      have HPP := hid (HP.out.ext (HBW.out.trans (htx.a.bl.mono HBW.out.size)))
      have HPL := hid (HP.out.ext HBW.out)
      have HFA := hid (show Fx w4 Z fun V => Pr V A j c l from
        ⟨fun b => b < w3.heap.size, fun b hb => ⟨fun hz => by have := htx.a.z b hz; omega, Nat.lt_of_lt_of_le hb htx.a.bl.size⟩, fun V hv => HPL.out.keep fun b o u hc => (World.cell?_of_block (a := ⟨b, o, none⟩) ((hv b (block_lt_of_cell hc)).trans (htx.a.bl.block b (block_lt_of_cell hc)))).trans hc⟩)
      have HTM := hid (l_pterm htx.a HTR.out HFA.out (by omega) HI.out)
      obtain ⟨⟨X1, i1, e1⟩, hq⟩ : ∃ q, q = prF x15 l := ⟨_, rfl⟩
      have HQ := hid hq
      rw [← hq] at HTM
      unfold LrS at HTM
      clear htx hq HTW
      go_wp2_with fail
      refine HTM.out.mono ?_
      rintro e w5 ⟨Z5, rfl, l5, m5⟩
      have HTX5 := hid (HTX.out.onA l5 m5)
      have HFB := hid (show Fx w5 Z' fun V => Pr V A j c l from
        ⟨fun b => b < w3.heap.size, fun b hb => ⟨fun hz => by have := HTX5.out.b.z b hz; omega, Nat.lt_of_lt_of_le hb HTX5.out.a.bl.size⟩, fun V hv => HPL.out.keep fun b o u hc => (World.cell?_of_block (a := ⟨b, o, none⟩) ((hv b (block_lt_of_cell hc)).trans (HTX5.out.a.bl.block b (block_lt_of_cell hc)))).trans hc⟩)
      have HTM2 := hid (q_pterm HTX5.out.b HTR.out HFB.out (by omega) HI.out)
      rw [← HQ.out] at HTM2
      unfold QtS at HTM2
      dsimp only at HTM2
      clear l5 m5 HTM HFA HTX
      go_wp2_with fail
      refine HTM2.out.mono ?_
      rintro e w6 ⟨Z6, X', rfl, l6, hX', m6⟩
      have HTX6 := hid (HTX5.out.onB l6 m6)
      have HX' := hid hX'
      clear l6 m6 hX' HTM2 HTX5 HFB
      go_upto_region 13 with fail
      go_cut [69] (fun v U => v = .bool false ∧ Below w3.heap.size w3 U)
      case first =>
        by_cases he : e1 = 0
        · subst he
          have hpe : (prF x15 l).2.2 = 0 := by rw [← HQ.out]
          have hXe := HX'.out (prF_none hpe)
          subst hXe
          have HHB := hid (show hasB X' i1 = true from by have := prF_has hpe; rw [← HQ.out] at this; exact this)
          have HDM := hid (dump_any sa X' w6 HTX6.out.a.ar.vw)
          clear hpe
          go_wp2_with fail
          refine HDM.out.mono ?_
          rintro e w7 ⟨A7, c7, rfl, hnd, b7⟩
          have HOK := hid HTX6.out.a.ar.ok
          have HX7 := hid ((HTX6.out.ext b7).alloc (.map #[] 0))
          have HBS := hid (bisim_any (sb := sb) (mb := w7.heap.size) HOK.out.len HOK.out (bs_same HOK.out HHB.out) HX7.out.b.ar.vw (hnd.ext ((Below.refl _ _).alloc (Nat.le_refl _) (.map #[] 0))) (MtP.new w7))
          have hsz : w3.heap.size ≤ w7.heap.size := Nat.le_trans HTX6.out.a.bl.size b7.size
          have HSZ := hid hsz
          clear hnd b7 HDM hsz
          go_wp2_with fail
          refine HBS.out.mono ?_
          rintro e w8 ⟨rfl, -, t8⟩
          have HB8 := hid (show Below w3.heap.size w3 w8 from HX7.out.a.bl.trans (t8.below (fun b e => e ▸ HSZ.out) HX7.out.a.bl.size))
          clear t8 HBS HX7
          go_wp2_with fail
          go_meet
          exact ⟨rfl, HB8.out⟩
        · have he1 : (e1 == 0) = false := beq_eq_false_iff_ne.2 he
          have HB6 := hid HTX6.out.a.bl
          clear he
          go_wp2_with fail
          go_meet
          exact ⟨rfl, HB6.out⟩
      case rest =>
        obtain ⟨rfl, hb⟩ := hcut
        have HBC := hid hb
        clear hb HTX6 HQ HX'
        go_wp2_with fail
        go_loopw [72] (fun i wr => ∃ k : Nat, i = .int .i64 k ∧ k ≤ j ∧ Hid (Below w3.heap.size w3 wr)) (fun i _ => j - (intOf i).toNat)
        case atStart => exact ⟨0, rfl, by omega, HBC⟩
        case round =>
          clear HBC
          obtain ⟨k, hik, hk, HB⟩ := hrel
          subst hik
          by_cases hkj : k < j
          · have hkj' : (k : Int) < (j : Int) := by omega
            have HB0 := hid HB.out
            obtain ⟨w9, rfl⟩ : ∃ w9 : World, w9 = wr := ⟨_, rfl⟩
            clear HB
            go_wp2_with fail
            go_loopw [76] (fun i wr => ∃ m : Nat, i = .int .i64 m ∧ m ≤ k ∧ Hid (Below w3.heap.size w3 wr)) (fun i _ => k - (intOf i).toNat)
            case atStart => exact ⟨0, rfl, by omega, HB0⟩
            case round =>
              clear HB0
              obtain ⟨m, him, hm, HB⟩ := hrel
              subst him
              have hPR := HPL.out.ext HB.out
              obtain ⟨b, o, p, Ap, cp, rfl, hp, hsp, hcp⟩ := hPR.at hkj
              have HPP2 := hid (show p.n.u.length ≤ 2147483648 from by have := HFU.out p (List.mem_of_getElem? hp); omega)
              have hcp' : PcC wr b o k p Ap cp := hcp
              have HSP := hid hsp
              by_cases hmk : m < k
              · obtain ⟨b', o', q, Aq, cq, e, hq, hsq, hcq⟩ := hPR.at (show m < j by omega)
                injection e with e
                injection e with e1 e2
                subst e1; subst e2
                have hmk' : (m : Int) < (k : Int) := by omega
                have hmj' : (m : Int) < (j : Int) := by omega
                have HQQ := hid (show q.n.u.length ≤ 2147483648 from by have := HFU.out q (List.mem_of_getElem? hq); omega)
                have hcq' : PcC wr b o m q Aq cq := hcq
                have HSM := hid (fun (U : World) (hU : Below wr.heap.size wr U) => psame_any (hsp.ext hU) (hsq.ext hU) HPP2.out HQQ.out)
                have HRS := hid (fun (U : World) (hU : Below wr.heap.size wr U) => rpsame_any (hsp.ext hU) (hsq.ext hU) HPP2.out HQQ.out)
                have HCE := hid (fun (U : World) (hU : Below wr.heap.size wr U) => And.intro (hcp'.ext hU) (hcq'.ext hU))
                unfold prV at HSM HRS
                unfold PcC at HCE
                generalize samP p q = z at *
                have DZ := hid (Below.refl wr.heap.size wr)
                clear hp hq hsp hsq hcp hcq hcp' hcq' hPR
                go_upto_region 21 with fail
                go_cut [97] (fun v U => v = .bool false ∧ Below w3.heap.size w3 U)
                case first =>
                  go_region_held3 (fun U => (U.cell? ⟨b, o + k * 10, none⟩ = some (.int .i64 p.k) ∧ U.cell? ⟨b, o + k * 10 + 1, none⟩ = some (.int .i64 p.f) ∧ U.cell? ⟨b, o + k * 10 + 2, none⟩ = some (.int .i64 p.n.k) ∧ U.cell? ⟨b, o + k * 10 + 3, none⟩ = some (.int .i64 p.n.i) ∧ U.cell? ⟨b, o + k * 10 + 4, none⟩ = some (.int .i64 p.n.e) ∧ U.cell? ⟨b, o + k * 10 + 5, none⟩ = some (.int .i64 p.n.s) ∧ U.cell? ⟨b, o + k * 10 + 6, none⟩ = some (.int .i64 p.n.h) ∧ U.cell? ⟨b, o + k * 10 + 7, none⟩ = some (.slice Ap p.n.u.length cp) ∧ U.cell? ⟨b, o + k * 10 + 8, none⟩ = some (.int .i64 p.a) ∧ U.cell? ⟨b, o + k * 10 + 9, none⟩ = some (.int .i64 p.t)) ∧ (U.cell? ⟨b, o + m * 10, none⟩ = some (.int .i64 q.k) ∧ U.cell? ⟨b, o + m * 10 + 1, none⟩ = some (.int .i64 q.f) ∧ U.cell? ⟨b, o + m * 10 + 2, none⟩ = some (.int .i64 q.n.k) ∧ U.cell? ⟨b, o + m * 10 + 3, none⟩ = some (.int .i64 q.n.i) ∧ U.cell? ⟨b, o + m * 10 + 4, none⟩ = some (.int .i64 q.n.e) ∧ U.cell? ⟨b, o + m * 10 + 5, none⟩ = some (.int .i64 q.n.s) ∧ U.cell? ⟨b, o + m * 10 + 6, none⟩ = some (.int .i64 q.n.h) ∧ U.cell? ⟨b, o + m * 10 + 7, none⟩ = some (.slice Aq q.n.u.length cq) ∧ U.cell? ⟨b, o + m * 10 + 8, none⟩ = some (.int .i64 q.a) ∧ U.cell? ⟨b, o + m * 10 + 9, none⟩ = some (.int .i64 q.t)))
                    (first | exact HCE.out _ N2.out | exact HCE.out _ N1.out | exact HCE.out _ DZ.out | exact HCE.out _ (below_drew DZ.out) | go_keep) (first
                    | (go_at_call 18; refine (HSM.out _ (by first | exact below_drew N2.out | exact N2.out | exact below_drew DZ.out | exact DZ.out)).mono ?_; rintro e u1 ⟨rfl, b1⟩; have N1 := hid (show Below wr.heap.size wr u1 from (by first | exact (below_drew N2.out).trans (b1.mono (below_drew N2.out).size) | exact N2.out.trans (b1.mono N2.out.size) | exact (below_drew DZ.out).trans (b1.mono (below_drew DZ.out).size) | exact DZ.out.trans b1)); clear b1)
                    | (go_at_call 19; refine (HRS.out _ (by first | exact below_drew N1.out | exact N1.out | exact below_drew DZ.out | exact DZ.out)).mono ?_; rintro e u2 ⟨rfl, b2⟩; have N2 := hid (show Below wr.heap.size wr u2 from (by first | exact (below_drew N1.out).trans (b2.mono (below_drew N1.out).size) | exact N1.out.trans (b2.mono N1.out.size) | exact (below_drew DZ.out).trans (b2.mono (below_drew DZ.out).size) | exact DZ.out.trans b2)); clear b2))
                  all_goals
                    go_wp2_with fail
                    go_meet
                    exact ⟨by simp, by first | exact HB.out.trans (N2.out.mono HB.out.size) | exact HB.out.trans (N1.out.mono HB.out.size) | exact HB.out.trans ((below_drew N2.out).mono HB.out.size) | exact HB.out.trans ((below_drew N1.out).mono HB.out.size)⟩
                case rest =>
                  obtain ⟨rfl, hb⟩ := hcut
                  have HB9 := hid hb
                  clear hb
                  go_wp2_with fail
                  go_roundw
                  case rel => exact ⟨m + 1, by go_num, by omega, HB9⟩
                  case measure => simp [intOf]; omega
              · have HSM := hid (fun (U : World) (hU : Below wr.heap.size wr U) => psame_any (hsp.ext hU) (hsp.ext hU) HPP2.out HPP2.out)
                have HCE := hid (fun (U : World) (hU : Below wr.heap.size wr U) => hcp'.ext hU)
                unfold prV at HSM
                unfold PcC at HCE
                rw [samP_self] at HSM
                have DZ := hid (Below.refl wr.heap.size wr)
                clear hp hsp hcp hcp' hPR
                go_upto_region 24 with fail
                go_cut [108] (fun v U => v = .bool false ∧ Below w3.heap.size w3 U)
                case first =>
                  go_region_held3 (fun U => U.cell? ⟨b, o + k * 10, none⟩ = some (.int .i64 p.k) ∧ U.cell? ⟨b, o + k * 10 + 1, none⟩ = some (.int .i64 p.f) ∧ U.cell? ⟨b, o + k * 10 + 2, none⟩ = some (.int .i64 p.n.k) ∧ U.cell? ⟨b, o + k * 10 + 3, none⟩ = some (.int .i64 p.n.i) ∧ U.cell? ⟨b, o + k * 10 + 4, none⟩ = some (.int .i64 p.n.e) ∧ U.cell? ⟨b, o + k * 10 + 5, none⟩ = some (.int .i64 p.n.s) ∧ U.cell? ⟨b, o + k * 10 + 6, none⟩ = some (.int .i64 p.n.h) ∧ U.cell? ⟨b, o + k * 10 + 7, none⟩ = some (.slice Ap p.n.u.length cp) ∧ U.cell? ⟨b, o + k * 10 + 8, none⟩ = some (.int .i64 p.a) ∧ U.cell? ⟨b, o + k * 10 + 9, none⟩ = some (.int .i64 p.t))
                    (first | exact HCE.out _ N1.out | exact HCE.out _ DZ.out | exact HCE.out _ (below_drew DZ.out) | go_keep) (first
                    | (go_at_call 18; refine (HSM.out _ (by first | exact below_drew DZ.out | exact DZ.out)).mono ?_; rintro e u1 ⟨rfl, b1⟩; have N1 := hid (show Below wr.heap.size wr u1 from (by first | exact (below_drew DZ.out).trans (b1.mono (below_drew DZ.out).size) | exact DZ.out.trans b1)); clear b1))
                  all_goals
                    go_wp2_with fail
                    go_meet
                    exact ⟨by simp, by first | exact HB.out.trans (N1.out.mono HB.out.size) | exact HB.out.trans ((below_drew N1.out).mono HB.out.size)⟩
                case rest =>
                  obtain ⟨rfl, hb⟩ := hcut
                  have HB9 := hid hb
                  clear hb
                  go_wp2_with fail
                  go_roundw
                  case rel => exact ⟨k + 1, by go_num, by omega, HB9⟩
                  case measure => simp [intOf]; omega
          · have HBE := hid (HBW.out.trans (HB.out.mono HBW.out.size))
            go_wp2_with fail
            go_ret
            exact ⟨rfl, HBE.out⟩
end Go.Proofs.YtpkijlmkgomfeaaGreatDoor

/- Arguments opened: what the walk is told of a value that can be read. Of no program. -/
namespace Go.KK
open Go.ChangeShapes Go.WideShapes Go.ChangeAt Go.RowKit Go.Deep
set_option linter.unusedVariables false
set_option linter.unusedSimpArgs false

section
variable {H : Type} {enc : TypeId × Value → H} {P : Program} {w : World} {base : Nat} {spare : Nat → Bool} {held : Bool}
end
end Go.KK

/- Arguments opened: a row of term's nodes. Of no program. -/
namespace Go.KK
open Go.ChangeShapes Go.WideShapes Go.ChangeAt Go.RowKit Go.Deep
set_option linter.unusedVariables false
set_option linter.unusedSimpArgs false

/-- What is known of a node that came in. -/
structure NdW (x : ND) : Prop where
  o : -9223372036854775808 ≤ x.o ∧ x.o ≤ 9223372036854775807
  n : -9223372036854775808 ≤ x.n ∧ x.n ≤ 9223372036854775807
  l : ∀ i ∈ x.l, -9223372036854775808 ≤ i ∧ i ≤ 9223372036854775807
  s : x.s.size ≤ maxLen
section
variable {H : Type} {enc : TypeId × Value → H} {P : Program} {w : World} {base : Nat} {spare : Nat → Bool} {held : Bool}
theorem trod_ints {fuel : Nat} {t e : TypeId} {k : IntKind} {v : Value} {y : DataW H × List MemPlace} (ht : P.underlying t = some (.slice e)) (he : P.underlying e = some (.int k)) (hc : P.cellsOf e = 1)
    (h : DataW.trod enc P w base spare held fuel t [v] = some y) : ∃ (A : Option Addr) (n c : Nat) (l : List Int), v = .slice A n c ∧ SlA w 1 A n c (l.map (Value.int k)) ∧ ∀ x ∈ l, (Lit.int k x).wf = true := by
  rcases open_ints ht he hc h with ⟨hcs, _⟩ | ⟨x, l, c', zs, hcs, _, hl, hm, hz, _, hcell, hwz⟩
  · injection hcs with hcs
    subst hcs
    exact ⟨_, _, _, [], rfl, SlA.nil _ _, by simp⟩
  · injection hcs with hcs
    subst hcs
    have hzl : l ≤ zs.length := by rw [hz]; split <;> omega
    refine ⟨_, _, _, zs.take l, rfl, ⟨hl, hm, by simp; omega, fun j u hj => ?_⟩, fun y hy => hwz y (List.mem_of_mem_take hy)⟩
    rw [List.getElem?_map, List.getElem?_take] at hj
    split at hj
    · rename_i hjn
      have hc := hcell j (by omega)
      have hjl : j < zs.length := by omega
      rw [List.getElem?_eq_getElem hjl] at hj
      simp only [Option.map_some, Option.some.injEq] at hj
      obtain ⟨b, off, spot⟩ := x
      have h0 := hcell 0 (by omega)
      have hspot : spot = none := by simpa [Addr.add] using World.cell?_spot h0
      subst hspot
      refine ⟨b, off, rfl, ?_⟩
      rw [add_lit] at hc
      rw [hc, ← hj, List.getD, List.getElem?_eq_getElem hjl]
      rfl
    · cases hj
theorem choose_list {α : Type} {Q : Nat → α → Prop} : ∀ (n : Nat), (∀ j, j < n → ∃ x, Q j x) → ∃ l : List α, l.length = n ∧ ∀ j x, l[j]? = some x → Q j x
  | 0, _ => ⟨[], rfl, fun j x h => by simp at h⟩
  | n + 1, h => by
    obtain ⟨l, hl, hq⟩ := choose_list n (fun j hj => h j (by omega))
    obtain ⟨x, hx⟩ := h n (by omega)
    refine ⟨l ++ [x], by simp [hl], fun j y hy => ?_⟩
    by_cases hj : j < n
    · rw [List.getElem?_append_left (by omega)] at hy
      exact hq j y hy
    · by_cases hjn : j = n
      · subst hjn
        rw [List.getElem?_append_right (by omega), hl, Nat.sub_self] at hy
        injection hy with hy
        rw [← hy]; exact hx
      · rw [List.getElem?_eq_none (by simp; omega)] at hy; cases hy
end
end Go.KK

/- Arguments opened: a node, and a row of nodes. -/
namespace Go.Proofs.YtpkijlmkgomfeaaGreatDoor
open Go.ChangeShapes Go.WideShapes Go.ChangeAt Go.RowKit Go.Deep Go.KK
set_option linter.unusedVariables false
set_option linter.unusedSimpArgs false

section
variable {H : Type} {enc : TypeId × Value → H} {P : Program} {w : World} {base : Nat} {spare : Nat → Bool} {held : Bool}
theorem wf_w64 {a : Int} (h : (Lit.int .i64 a).wf = true) : W64 a := by
  have := bounds_i64 h
  unfold W64
  omega
theorem fld_lo {fs : Array Field} {ti : TypeId} {k : Nat} {f : Field} (h : (fs.toList.take 5).all (fun f => f.type == ti) = true) (hk : k < 5) (hf : fs[k]? = some f) : f.type = ti := by
  have := List.all_eq_true.1 h f (List.mem_of_getElem? (i := k) (by rw [List.getElem?_take, if_pos hk]; simpa using hf))
  simpa using this
theorem fld_hi {fs : Array Field} {tl : TypeId} {f : Field} (h : (fs.toList.drop 5).all (fun f => f.type == tl) = true) (hf : fs[5]? = some f) : f.type = tl := by
  have := List.all_eq_true.1 h f (List.mem_of_getElem? (i := 0) (by rw [List.getElem?_drop]; simpa using hf))
  simpa using this
end
end Go.Proofs.YtpkijlmkgomfeaaGreatDoor

/- Arguments opened: a tree, its lists' numbers too. -/
namespace Go.Proofs.YtpkijlmkgomfeaaGreatDoor
open Go.ChangeShapes Go.WideShapes Go.ChangeAt Go.RowKit Go.Deep Go.KK
set_option linter.unusedVariables false
set_option linter.unusedSimpArgs false

section
variable {H : Type} {enc : TypeId × Value → H} {P : Program} {w : World} {base : Nat} {spare : Nat → Bool} {held : Bool}
/-- A node's cells that read. -/
theorem node_of_trod2 {fuel : Nat} {t ti tl : TypeId} {fs : Array Field} {cs : List Value} {y : DataW H × List MemPlace} (hs : P.underlying t = some (.struct fs)) (hone : oneCellFields P fs = true) (hsz : fs.size = 6) (hC : P.cellsOf t = 6)
    (h0 : (fs.toList.take 5).all (fun f => f.type == ti) = true) (h5 : (fs.toList.drop 5).all (fun f => f.type == tl) = true) (hti : P.underlying ti = some (.int .i64)) (htl : P.underlying tl = some (.slice ti)) (hci : P.cellsOf ti = 1)
    (h : DataW.trod enc P w base spare held fuel t cs = some y) : ∃ (x : TN) (q : Value), cs = x.cells q ∧ In1 w q x.u ∧ (W64 x.k ∧ W64 x.i ∧ W64 x.e ∧ W64 x.s ∧ W64 x.h) ∧ ∀ i ∈ x.u, I64 i := by
  have h0 := fun k f hk hf => fld_lo (k := k) (f := f) h0 hk hf
  have h5 := fun f hf => fld_hi (f := f) h5 hf
  obtain ⟨xs, n, _, _, hlen, hxl, hg⟩ := DataW.trod_struct hs h
  rw [hC] at hlen
  match cs, hlen with
  | [a0, a1, a2, a3, a4, a5], _ =>
    have fld : ∀ k (hk : k < 6), ∃ f z, fs[k]? = some f ∧ DataW.trod enc P w base spare held n f.type [([a0, a1, a2, a3, a4, a5])[k]] = some z := by
      intro k hk
      have hf : fs[k]? = some (fs[k]'(by omega)) := Array.getElem?_eq_getElem _
      obtain ⟨ho, hc⟩ := hone_of hone k _ hf
      have := hg k _ hf
      rw [ho, hc, List.drop_eq_getElem_cons (by simpa using hk)] at this
      exact ⟨_, _, hf, this.trans (List.getElem?_eq_getElem (by omega))⟩
    have num : ∀ k (hk : k < 5), ∃ a, ([a0, a1, a2, a3, a4, a5])[k]'(by simp; omega) = Value.int .i64 a ∧ W64 a := by
      intro k hk
      obtain ⟨f, z, hf, ht⟩ := fld k (by omega)
      rw [h0 k f hk hf] at ht
      obtain ⟨a, e, _, hw⟩ := DataW.trod_int hti ht
      injection e with e
      exact ⟨a, e, wf_w64 hw⟩
    obtain ⟨k, e0, w0⟩ := num 0 (by omega)
    obtain ⟨i, e1, w1⟩ := num 1 (by omega)
    obtain ⟨e, e2, w2⟩ := num 2 (by omega)
    obtain ⟨s, e3, w3⟩ := num 3 (by omega)
    obtain ⟨h', e4, w4⟩ := num 4 (by omega)
    obtain ⟨f, z, hf, ht⟩ := fld 5 (by omega)
    rw [h5 f hf] at ht
    obtain ⟨A, m, c, u, e5, hsl, hwu⟩ := trod_ints htl hti hci ht
    simp only [List.getElem_cons_zero, List.getElem_cons_succ] at e0 e1 e2 e3 e4 e5
    subst e0; subst e1; subst e2; subst e3; subst e4; subst e5
    have hm := hsl.lenI
    subst hm
    exact ⟨⟨k, i, e, s, h', u⟩, _, rfl, ⟨A, c, rfl, hsl⟩, ⟨w0, w1, w2, w3, w4⟩, fun i hi => bounds_i64 (hwu i hi)⟩
end
end Go.Proofs.YtpkijlmkgomfeaaGreatDoor

/- Arguments opened: a row of proposals. -/
namespace Go.Proofs.YtpkijlmkgomfeaaGreatDoor
open Go.ChangeShapes Go.WideShapes Go.ChangeAt Go.RowKit Go.Deep Go.KK
set_option linter.unusedVariables false
set_option linter.unusedSimpArgs false

section
variable {H : Type} {enc : TypeId × Value → H} {P : Program} {w : World} {base : Nat} {spare : Nat → Bool} {held : Bool}
theorem w64_i64 {a : Int} (h : W64 a) : I64 a := by unfold W64 at h; unfold I64; omega
/-- A proposal's cells that read. -/
theorem prop_of_trod {fuel : Nat} {t ti tl tn : TypeId} {fs gs : Array Field} {cs : List Value} {y : DataW H × List MemPlace} (hs : P.underlying t = some (.struct fs)) (hfs : fs.toList.map (fun f => (f.type, f.offset)) = [(ti, 0), (ti, 1), (tn, 2), (ti, 8), (ti, 9)]) (hC : P.cellsOf t = 10)
    (hsn : P.underlying tn = some (.struct gs)) (hone : oneCellFields P gs = true) (hsz : gs.size = 6) (hCn : P.cellsOf tn = 6)
    (h0 : (gs.toList.take 5).all (fun f => f.type == ti) = true) (h5 : (gs.toList.drop 5).all (fun f => f.type == tl) = true) (hti : P.underlying ti = some (.int .i64)) (htl : P.underlying tl = some (.slice ti)) (hci : P.cellsOf ti = 1)
    (h : DataW.trod enc P w base spare held fuel t cs = some y) : ∃ (p : PR) (q : Value), cs = p.cells q ∧ In1 w q p.n.u ∧ PrI p := by
  obtain ⟨xs, n, _, _, hlen, hxl, hg⟩ := DataW.trod_struct hs h
  rw [hC] at hlen
  have hf5 : fs.size = 5 := by have := congrArg List.length hfs; simpa using this
  match cs, hlen with
  | [a0, a1, a2, a3, a4, a5, a6, a7, a8, a9], _ =>
    have fld : ∀ (k : Nat) (ty : TypeId) (o : Nat), ([(ti, 0), (ti, 1), (tn, 2), (ti, 8), (ti, 9)] : List (TypeId × Nat))[k]? = some (ty, o) → ∃ z, DataW.trod enc P w base spare held n ty ((([a0, a1, a2, a3, a4, a5, a6, a7, a8, a9] : List Value).drop o).take (P.cellsOf ty)) = some z := by
      intro k ty o hk
      rw [← hfs, List.getElem?_map] at hk
      rcases hf : fs.toList[k]? with _ | f
      · rw [hf] at hk; cases hk
      · rw [hf] at hk
        injection hk with hk
        obtain ⟨e1, e2⟩ := Prod.mk.inj hk
        have hf' : fs[k]? = some f := by rw [← hf]; simp
        have := hg k f hf'
        rw [e1, e2] at this
        have hkl : k < xs.length := by
          have := (List.getElem?_eq_some_iff.1 hf).1
          simp at this
          omega
        exact ⟨_, this.trans (List.getElem?_eq_getElem hkl)⟩
    have num : ∀ (k o : Nat) (v : Value), ([(ti, 0), (ti, 1), (tn, 2), (ti, 8), (ti, 9)] : List (TypeId × Nat))[k]? = some (ti, o) → (([a0, a1, a2, a3, a4, a5, a6, a7, a8, a9] : List Value).drop o).take 1 = [v] → ∃ a, v = Value.int .i64 a ∧ I64 a := by
      intro k o v hk hv
      obtain ⟨z, hz⟩ := fld k ti o hk
      rw [hci, hv] at hz
      obtain ⟨a, e, _, hw⟩ := DataW.trod_int hti hz
      injection e with e
      exact ⟨a, e, bounds_i64 hw⟩
    obtain ⟨k, e0, w0⟩ := num 0 0 a0 rfl rfl
    obtain ⟨f, e1, w1⟩ := num 1 1 a1 rfl rfl
    obtain ⟨a, e8, w8⟩ := num 3 8 a8 rfl rfl
    obtain ⟨t', e9, w9⟩ := num 4 9 a9 rfl rfl
    obtain ⟨z, hz⟩ := fld 2 tn 2 rfl
    rw [hCn] at hz
    have hz' : DataW.trod enc P w base spare held n tn [a2, a3, a4, a5, a6, a7] = some z := hz
    obtain ⟨x, q, e, hin, ⟨v0, v1, v2, v3, v4⟩, hu⟩ := node_of_trod2 hsn hone hsz hCn h0 h5 hti htl hci hz'
    unfold TN.cells at e
    simp only [List.cons.injEq, and_true] at e
    obtain ⟨e2, e3, e4, e5, e6, e7⟩ := e
    subst e0; subst e1; subst e2; subst e3; subst e4; subst e5; subst e6; subst e7; subst e8; subst e9
    exact ⟨⟨k, f, x, a, t'⟩, _, rfl, hin, w0, w1, ⟨w64_i64 v1, w64_i64 v2, w64_i64 v3, w64_i64 v4⟩, w8, w9⟩
/-- A row of proposals that came in. -/
theorem opens_props {r : Reach} {b0 : Nat} {tt t ti tl tn : TypeId} {fs gs : Array Field} {v : Value} {d : DataW H} {p : List MemPlace} (htt : P.underlying tt = some (.slice t)) (hs : P.underlying t = some (.struct fs)) (hfs : fs.toList.map (fun f => (f.type, f.offset)) = [(ti, 0), (ti, 1), (tn, 2), (ti, 8), (ti, 9)]) (hC : P.cellsOf t = 10)
    (hsn : P.underlying tn = some (.struct gs)) (hone : oneCellFields P gs = true) (hsz : gs.size = 6) (hCn : P.cellsOf tn = 6)
    (h0 : (gs.toList.take 5).all (fun f => f.type == ti) = true) (h5 : (gs.toList.drop 5).all (fun f => f.type == tl) = true) (hti : P.underlying ti = some (.int .i64)) (htl : P.underlying tl = some (.slice ti)) (hci : P.cellsOf ti = 1)
    (hv : Value.okWide P w r b0 tt v) (h : DataW.Trod enc P w base spare held tt v d p) : ∃ A n c l, v = .slice A n c ∧ Pr w A n c l ∧ ∀ x ∈ l, PrI x := by
  obtain ⟨A, n, c, rfl⟩ := okWide_slice htt hv
  obtain ⟨fuel, hf⟩ := h
  rcases open_slice htt hf with ⟨hcs, _⟩ | ⟨a, len, cap, m, n', D, Pl, hcs, _, hl, hm, hmm, _, hi⟩
  · simp [Value.cells] at hcs
    obtain ⟨rfl, rfl, rfl⟩ := hcs
    exact ⟨_, _, _, [], rfl, ⟨[], ⟨rfl, rfl⟩, ⟨Nat.le_refl _, by unfold maxLen; omega, rfl, fun j u hj => by simp [pcs] at hj⟩, fun j p q hp _ => by simp at hp⟩, fun x h => by simp at h⟩
  · simp [Value.cells] at hcs
    obtain ⟨rfl, rfl, rfl⟩ := hcs
    have hnm : n ≤ m := by rw [hmm]; split <;> omega
    have each : ∀ j, j < n → ∃ xq : PR × Value, (∀ k, k < 10 → w.cell? (a.add (j * 10 + k)) = (xq.1.cells xq.2)[k]?) ∧ In1 w xq.2 xq.1.n.u ∧ PrI xq.1 := by
      intro j hj
      obtain ⟨cs', hc, ht⟩ := hi j (by omega)
      obtain ⟨x, q, e, hin, hw⟩ := prop_of_trod hs hfs hC hsn hone hsz hCn h0 h5 hti htl hci ht
      rw [hC] at hc
      obtain ⟨_, _, hat⟩ := World.cells?_some hc
      refine ⟨⟨x, q⟩, fun k hk => ?_, hin, hw⟩
      rw [← Go.Deep.add_add, hat k hk, e]
    obtain ⟨l, hll, hq⟩ := choose_list n each
    have hx : ∀ {j : Nat} {x : PR}, (l.map (·.1))[j]? = some x → ∃ q, l[j]? = some (x, q) := by
      intro j x h
      rw [List.getElem?_map] at h
      rcases hh : l[j]? with _ | ⟨y, q⟩
      · rw [hh] at h; cases h
      · rw [hh] at h; injection h with h; subst h; exact ⟨q, rfl⟩
    have plen : (pcs (l.map (·.1)) (l.map (·.2))).length = n * 10 := by
      unfold pcs
      rw [List.length_flatten]
      have : (List.zipWith PR.cells (l.map (·.1)) (l.map (·.2))).map List.length = List.replicate n 10 := by
        apply List.ext_getElem
        · simp [hll]
        · intro i h1 h2
          simp [PR.cells]
      rw [this]; simp
    refine ⟨_, _, _, l.map (·.1), rfl, ⟨l.map (·.2), ⟨by simp, by simp [hll]⟩, ⟨hl, hm, plen, fun i u hu => ?_⟩, fun j x q hxj hqj => ?_⟩, fun x hxm => ?_⟩
    · have hil : i < n * 10 := by
        rcases Nat.lt_or_ge i (n * 10) with hh | hh
        · exact hh
        · rw [List.getElem?_eq_none (by rw [plen]; omega)] at hu; cases hu
      have hjn : i / 10 < n := by omega
      have hlj : l[i / 10]? = some (l[i / 10]'(by omega)) := List.getElem?_eq_getElem _
      obtain ⟨b, off, spot⟩ := a
      have c0 := (hq 0 _ (List.getElem?_eq_getElem (by omega))).1 0 (by omega)
      have hspot : spot = none := by
        simp only [Nat.zero_mul, Nat.add_zero, PR.cells, List.getElem?_cons_zero] at c0
        simpa [Addr.add] using World.cell?_spot c0
      subst hspot
      refine ⟨b, off, rfl, ?_⟩
      have hg := pcs_get (l := l.map (·.1)) (qs := l.map (·.2)) (j := i / 10) (k := i % 10) (by rw [List.getElem?_map, hlj]; rfl) (by rw [List.getElem?_map, hlj]; rfl) (Nat.mod_lt _ (by omega))
      rw [show i / 10 * 10 + i % 10 = i by omega] at hg
      have hc := (hq _ _ hlj).1 (i % 10) (Nat.mod_lt _ (by omega))
      rw [show i / 10 * 10 + i % 10 = i by omega, add_lit] at hc
      rw [hc, ← hg, hu]
    · obtain ⟨q', hl'⟩ := hx hxj
      rw [List.getElem?_map, hl'] at hqj
      injection hqj with hqj
      subst hqj
      exact (hq j _ hl').2.1
    · obtain ⟨j, hj⟩ := List.mem_iff_getElem?.1 hxm
      obtain ⟨q', hl'⟩ := hx hj
      exact (hq j _ hl').2.2
end
end Go.Proofs.YtpkijlmkgomfeaaGreatDoor

/- ProposalTerms' card: what the kernel reckons of the program, limb by limb. -/
namespace Go.Proofs.YtpkijlmkgomfeaaGreatDoor.proposalTermsLaw
open Go.ChangeShapes Go.WideShapes Go.ChangeAt Go.RowKit Go.KK
set_option linter.unusedVariables false
set_option linter.unusedSimpArgs false

theorem band {a b : Bool} (ha : a = true) (hb : b = true) : (a && b) = true := by rw [ha, hb]; rfl
set_option maxHeartbeats 4000000 in
set_option maxRecDepth 100000 in
theorem closed : joinedFacts Tryz.pinned.checked.prog 4 Tryz.f4 Rows.proposalTermsSpec Rows.proposalTermsRow = true := by
  unfold joinedFacts
  repeat' (with_reducible refine band ?_ ?_)
  all_goals as_aux_lemma => kernel_rfl
theorem inst : Tryz.f4.isInstance Tryz.pinned.checked.prog Rows.proposalTermsRow.origin Rows.proposalTermsRow.targs := of_decide_eq_true (by kernel_rfl)
theorem wrap : Tryz.f4.isWrapper Tryz.pinned.checked.prog Rows.proposalTermsRow.wrapper Rows.proposalTermsRow.mainSum := by
  unfold Func.isWrapper; first | (rw [if_pos (by decide +kernel)]; kernel_rfl) | (rw [if_neg (by decide +kernel)]; exact ⟨rfl, rfl⟩)
theorem named : Tryz.pinned.checked.prog.funcNamed Rows.proposalTermsRow.func = some 4 := by kernel_rfl
end Go.Proofs.YtpkijlmkgomfeaaGreatDoor.proposalTermsLaw

