import Derived.Test.YtpkijlmkgomfeaaGreatDoorY14
import Derived.Test.YtpkijlmkgomfeaaGreatDoorY09
import Derived.Test.YtpkijlmkgomfeaaGreatDoorY05
import Derived.Deep.CutBlock
import Derived.Deep.DeepCutAuto
import Derived.Deep.RegionHeld3
import Derived.Deep.QuietTactic
import Derived.BigQuiet
import Derived.Test.YtpkijlmkgomfeaaGreatDoorY06
import Derived.Test.YtpkijlmkgomfeaaGreatDoorY04
/- proposal.Term. -/
namespace Go.Proofs.YtpkijlmkgomfeaaGreatDoor
open Go.RowKit Go.KK Go.Shelf Go.Maps
set_option linter.unusedVariables false
set_option linter.unusedSimpArgs false

theorem any_pr {α : Type} {p : α → Bool} {l : List α} {j : Nat} {x : α} (h : l[j]? = some x) : (l.drop j).any p = (p x || (l.drop (j + 1)).any p) := by
  rw [drop_get h, List.any_cons]
/-- A walk with a row of terms, and a box of its own. -/
structure TB (w0 W V : World) (Z Z' : Nat → Prop) (sa : Nat) (v : Value) (l : List Int) (X : List ND) (P : World → Prop) (O : Obj) (bx : Nat) : Prop where
  t : TM w0 W V Z Z' sa v l X P
  o : HasO O bx V
  z : ¬ Z' bx
theorem TB.mv {w0 W V V' : World} {Z Z' Z2 : Nat → Prop} {sa bx : Nat} {v : Value} {l : List Int} {X X2 : List ND} {P : World → Prop} {O : Obj} (h : TB w0 W V Z Z' sa v l X P O bx) (k : LA w0 V' Z2 sa X2) (m : Mv Z' V Z2 V') : TB w0 W V' Z Z2 sa v l X2 P O bx :=
  ⟨h.t.mv k m, (m.t.block bx h.o.lt h.z).trans h.o, fun h2 => (m.n bx h2).elim h.z fun h' => by have := h.o.lt; omega⟩
theorem TB.ext {w0 W V V' : World} {Z Z' : Nat → Prop} {sa bx : Nat} {v : Value} {l : List Int} {X : List ND} {P : World → Prop} {O : Obj} (h : TB w0 W V Z Z' sa v l X P O bx) (hb : Below V.heap.size V V') : TB w0 W V' Z Z' sa v l X P O bx := h.mv (h.t.la.ext hb) (Mv.below hb)
theorem mk_zero9 {xs : List ND} {x : ND} (h : (mk xs x).2.2 ≠ 0) : (mk xs x).2.1 = 0 := by
  unfold mk at *
  dsimp only at *
  unfold makE at h
  unfold makI
  split
  · next hm =>
    rw [if_pos hm] at h
    split
    · next hx => rw [if_pos hx] at h; exact absurd rfl h
    · next hx =>
      rw [if_neg hx] at h
      split
      · rfl
      · next hl => rw [if_neg hl] at h; exact absurd rfl h
  · rfl
theorem prS_i {S : KS} (ok : Okay S.x) (p : PR) : I64 (prS S p).2 := li_i (((prB_go S p).trans (prW_go _ p)).ok ok) _
theorem prA_i {S : KS} (ok : Okay S.x) (l : List PR) : ∀ j, ∀ i ∈ (prA S l j).2, I64 i
  | 0 => fun i hi => by simp [prA] at hi
  | j + 1 => fun i hi => by
    rcases List.mem_append.1 hi with hi | hi
    · exact prA_i ok l j i hi
    · rw [List.mem_singleton.1 hi]
      exact prS_i ((prA_go S l j).ok ok) _
section
variable {w0 W : World} {Z : Nat → Prop} {sa : Nat} {X : List ND}
set_option maxHeartbeats 4000000 in
set_option maxRecDepth 100000 in
theorem l_pterm (h : LA w0 W Z sa X) (hT : Tb w0.heap.size w0) {A : Option Addr} {n c : Nat} {l : List PR} (hf : Fx W Z fun V => Pr V A n c l) (hn : n ≤ 1000000) (hi : ∀ p ∈ l, PrI p) :
    Calls Tryz.prog 14 #[.pointer (some ⟨sa, 0, none⟩), .slice A n c] W (LrS w0 W Z sa (prF X l)) := by
  have H := hid h; have HT := hid hT; have HF := hid hf; have HI := hid hi
  have HL := hid hf.here.len
  have HP := hid hf.here
  obtain ⟨r, hr⟩ : ∃ r : Rs, r = prF X l := ⟨_, rfl⟩
  have HR := hid hr
  rw [← hr]
  clear h hT hf hi hr
  obtain ⟨i0, hii, hz0, hz1, hz2⟩ := info_parts Tryz.infoInt
  go_enter Tryz.func14, Tryz.ntmps14
  go_wp2_with fail
  go_loopw [18] (fun i wr => ∃ j : Nat, i = .int .i64 j ∧ j ≤ n ∧ Hid (l.any prX = (l.drop j).any prX) ∧ Hid (Below W.heap.size W wr)) (fun i _ => n - (intOf i).toNat)
  case atStart => exact ⟨0, rfl, by omega, hid rfl, hid (Below.refl _ _)⟩
  case round =>
    obtain ⟨j, hij, hj, HJ, HB⟩ := hrel
    subst hij
    by_cases hlt : j < n
    · obtain ⟨b, o, p, A', c', rfl, hp, -, d0, d1, d2, d3, d4, d5, d6, d7, d8, d9⟩ := (HP.out.ext HB.out).at hlt
      have hlt' : (j : Int) < (n : Int) := by omega
      have HD := hid (any_pr (p := prX) hp)
      have HB2 := hid (HB.out.alloc HB.out.size (.cells #[.int .i64 p.k, .int .i64 p.f, .int .i64 p.n.k, .int .i64 p.n.i, .int .i64 p.n.e, .int .i64 p.n.s, .int .i64 p.n.h, .slice A' p.n.u.length c', .int .i64 p.a, .int .i64 p.t] 39))
      clear hp
      rcases hx : prX p with _ | _
      · have HF1 := hid (show l.any prX = (l.drop (j + 1)).any prX by rw [HJ.out, HD.out, hx]; rfl)
        unfold prX at hx
        simp only [Bool.or_eq_false_iff, decide_eq_false_iff_not] at hx
        obtain ⟨⟨⟨x1, x2⟩, x3⟩, x4⟩ := hx
        go_wp2_with fail
        go_roundw
        case rel => exact ⟨j + 1, by go_num, by omega, HF1, HB2⟩
        case measure => simp [intOf]; omega
      · have HF1 := hid (show r = (X, 0, 1) by rw [HR.out]; unfold prF; rw [HJ.out, HD.out, hx]; rfl)
        unfold prX at hx
        simp only [Bool.or_eq_true, decide_eq_true_eq] at hx
        by_cases x1 : p.k < 1
        · go_wp2_with fail
          go_ret2
          rw [HF1.out]
          exact ⟨Z, rfl, H.out.ext HB2.out, Mv.below HB2.out⟩
        by_cases x2 : 5 < p.k
        · go_wp2_with fail
          go_ret2
          rw [HF1.out]
          exact ⟨Z, rfl, H.out.ext HB2.out, Mv.below HB2.out⟩
        by_cases x3 : p.f < 0
        · go_wp2_with fail
          go_ret2
          rw [HF1.out]
          exact ⟨Z, rfl, H.out.ext HB2.out, Mv.below HB2.out⟩
        have x4 : p.a < 0 := by omega
        go_wp2_with fail
        go_ret2
        rw [HF1.out]
        exact ⟨Z, rfl, H.out.ext HB2.out, Mv.below HB2.out⟩
    · have HN := hid (show l.any prX = false by rw [HJ.out, List.drop_of_length_le (by have := HL.out; omega)]; rfl)
      have hjn : j = n := by omega
      subst hjn
      clear HJ hlt
      obtain ⟨W1, rfl⟩ : ∃ W1 : World, W1 = wr := ⟨_, rfl⟩
      have T0 := hid (TM.start (P := fun U => Pr U A j c l) (H.out.ext HB.out) (HF.out.ext HB.out))
      clear HF HP
      go_wp2_with fail
      go_loopw [43, 6] (fun i v V => ∃ (k : Nat) (Zq : Nat → Prop), i = .int .i64 k ∧ k ≤ j ∧ TM w0 W1 V Z Zq sa v (prA ⟨X, 0⟩ l k).2 (prA ⟨X, 0⟩ l k).1.x (fun U => Pr U A j c l) ∧ (prA ⟨X, 0⟩ l k).1.e = 0) (fun i _ _ => j - (intOf i).toNat)
      case atStart => exact ⟨0, Z, rfl, by omega, T0.out, rfl⟩
      case round =>
        clear T0
        obtain ⟨k, Zq, hik, hk, htm, he⟩ := hrel
        subst hik
        by_cases hlt : k < j
        · obtain ⟨b, o, p, A', c', rfl, hp, -, d0, d1, d2, d3, d4, d5, d6, d7, d8, d9⟩ := htm.here.at hlt
          have hlt' : (k : Int) < (j : Int) := by omega
          have HTM := hid htm; have HE := hid he
          have HPI := hid (HI.out p (List.mem_of_getElem? hp))
          have HS := hid (prA_succ (S := ⟨X, 0⟩) hp)
          obtain ⟨S, hS⟩ : ∃ S, S = prA ⟨X, 0⟩ l k := ⟨_, rfl⟩
          have HSK := hid hS
          rw [← hS] at HTM HE HS
          clear htm he hp
          obtain ⟨Av, cv, rfl, -⟩ := SlA.owned HTM.out.un
          clear hS
          go_upto_region 11 with fail
          obtain ⟨bx, hbx⟩ : ∃ bx, bx = wr.heap.size := ⟨_, rfl⟩
          have HP := hid (show TM w0 W1 (wr.alloc (.cells #[.int .i64 p.k, .int .i64 p.f, .int .i64 p.n.k, .int .i64 p.n.i, .int .i64 p.n.e, .int .i64 p.n.s, .int .i64 p.n.h, .slice A' p.n.u.length c', .int .i64 p.a, .int .i64 p.t] 39)) Z Zq sa (.slice Av S.2.length cv) S.2 S.1.x (fun U => Pr U (some ⟨b, o, none⟩) j c l) ∧ HasO (.cells #[.int .i64 p.k, .int .i64 p.f, .int .i64 p.n.k, .int .i64 p.n.i, .int .i64 p.n.e, .int .i64 p.n.s, .int .i64 p.n.h, .slice A' p.n.u.length c', .int .i64 p.a, .int .i64 p.t] 39 (0, 0)) bx (wr.alloc (.cells #[.int .i64 p.k, .int .i64 p.f, .int .i64 p.n.k, .int .i64 p.n.i, .int .i64 p.n.e, .int .i64 p.n.s, .int .i64 p.n.h, .slice A' p.n.u.length c', .int .i64 p.a, .int .i64 p.t] 39)) ∧ ¬ Zq bx from
            ⟨HTM.out.ext ((Below.refl _ _).alloc (Nat.le_refl _) _), by rw [hbx]; exact HasO.new _ _, fun hz => by have := HTM.out.la.ar.zlt _ hz; omega⟩)
          rw [← hbx]
          clear hbx d0 d1 d2 d3 d4 d5 d6 d7 d8 d9 HTM
          refine forget (R := fun V => TM w0 W1 V Z Zq sa (.slice Av S.2.length cv) S.2 S.1.x (fun U => Pr U (some ⟨b, o, none⟩) j c l) ∧ HasO (.cells #[.int .i64 p.k, .int .i64 p.f, .int .i64 p.n.k, .int .i64 p.n.i, .int .i64 p.n.e, .int .i64 p.n.s, .int .i64 p.n.h, .slice A' p.n.u.length c', .int .i64 p.a, .int .i64 p.t] 39 (0, 0)) bx V ∧ ¬ Zq bx) ?_ HP.out
          clear HP
          rintro V1 ⟨t1, o1, z1⟩
          have HC := hid (fun (U : World) (h : HasO (.cells #[.int .i64 p.k, .int .i64 p.f, .int .i64 p.n.k, .int .i64 p.n.i, .int .i64 p.n.e, .int .i64 p.n.s, .int .i64 p.n.h, .slice A' p.n.u.length c', .int .i64 p.a, .int .i64 p.t] 39 (0, 0)) bx U) => (show U.cell? ⟨bx, 0, none⟩ = some (.int .i64 p.k) ∧ U.cell? ⟨bx, 1, none⟩ = some (.int .i64 p.f) ∧ U.cell? ⟨bx, 3, none⟩ = some (.int .i64 p.n.i) ∧ U.cell? ⟨bx, 4, none⟩ = some (.int .i64 p.n.e) ∧ U.cell? ⟨bx, 5, none⟩ = some (.int .i64 p.n.s) ∧ U.cell? ⟨bx, 6, none⟩ = some (.int .i64 p.n.h) ∧ U.cell? ⟨bx, 8, none⟩ = some (.int .i64 p.a) ∧ U.cell? ⟨bx, 9, none⟩ = some (.int .i64 p.t) from by
            refine ⟨?_, ?_, ?_, ?_, ?_, ?_, ?_, ?_⟩ <;> (rw [cell_of_row _ bx _ _ _ (0, 0) h]; rfl)))
          generalize hO : (Obj.cells #[.int .i64 p.k, .int .i64 p.f, .int .i64 p.n.k, .int .i64 p.n.i, .int .i64 p.n.e, .int .i64 p.n.s, .int .i64 p.n.h, .slice A' p.n.u.length c', .int .i64 p.a, .int .i64 p.t] 39 (0, 0)) = O at *
          clear hO
          have T1 := hid (show TB w0 W1 V1 Z Zq sa (.slice Av S.2.length cv) S.2 S.1.x (fun U => Pr U (some ⟨b, o, none⟩) j c l) O bx from ⟨t1, o1, z1⟩)
          obtain ⟨k0, -⟩ := HC.out V1 o1
          have HIT := hid (itoa_any p.k HPI.out.1 V1 (Tb.up (HT.out.on t1.la.bl) t1.la.sz))
          clear t1 o1 z1
          go_wp2_with fail
          refine HIT.out.mono ?_
          rintro e w2 ⟨s1, rfl, hs1, b2⟩
          have T2 := hid (T1.out.ext b2)
          have HX1 := hid (l_text T2.out.t.la HT.out s1)
          obtain ⟨⟨X1, i1, e1⟩, hr1⟩ : ∃ q, q = mk S.1.x (txN s1) := ⟨_, rfl⟩
          have HD1 := hid (show doF S.1 (txF (digB p.k)) = (⟨X1, e1⟩, i1) from by unfold doF txF; rw [if_pos HE.out, show digB p.k = s1 from hs1.symm, ← hr1])
          have HI1 := hid (show I64 i1 from by have := tx_i (S := S.1) T2.out.t.la.ar.ok (digB p.k); rw [HD1.out] at this; exact this)
          rw [← hr1] at HX1
          unfold LrS at HX1
          clear hr1 b2 T1 HIT k0 hs1
          go_wp2_with fail
          refine HX1.out.mono ?_
          rintro e w3 ⟨Z3, rfl, l3, m3⟩
          have T3 := hid (T2.out.mv l3 m3)
          clear l3 m3 T2 HX1
          by_cases he1 : e1 = 0
          case neg =>
            have hne : (e1 != 0) = true := bne_iff_ne.2 he1
            have HF1 := hid (show r = (X1, 0, e1) from by
              rw [HR.out]
              exact prF_err HN.out (j := k + 1) (T := ⟨X1, e1⟩) (by have := HL.out; omega) (by rw [HS.out]; exact prS_e1 (by rw [HD1.out]) he1) he1)
            clear he1
            go_wp2_with fail
            go_ret2
            rw [HF1.out]
            exact ⟨Z3, rfl, T3.out.t.la, (Mv.below HB.out).trans T3.out.t.m⟩
          subst he1
          obtain ⟨-, k1, -⟩ := HC.out w3 T3.out.o
          have HIT := hid (itoa_any p.f HPI.out.2.1 w3 (Tb.up (HT.out.on T3.out.t.la.bl) T3.out.t.la.sz))
          go_wp2_with fail
          refine HIT.out.mono ?_
          rintro e w4 ⟨s2, rfl, hs2, b4⟩
          have T4 := hid (T3.out.ext b4)
          have HX2 := hid (l_text T4.out.t.la HT.out s2)
          obtain ⟨⟨X2, i2, e2⟩, hr2⟩ : ∃ q, q = mk X1 (txN s2) := ⟨_, rfl⟩
          have HD2 := hid (show prB S.1 p = (⟨X2, e2⟩, i2) from by
            unfold prB
            rw [HD1.out]
            unfold doF txF
            rw [if_pos rfl, show digB p.f = s2 from hs2.symm]
            dsimp only
            rw [← hr2])
          have HI12 := hid (show I64 i1 ∧ I64 i2 from ⟨HI1.out, by have := tx_i (S := (⟨X1, 0⟩ : KS)) T4.out.t.la.ar.ok (digB p.f); have e := congrArg Prod.snd HD2.out; unfold prB at e; rw [HD1.out] at e; rw [e] at this; exact this⟩)
          clear HI1
          rw [← hr2] at HX2
          unfold LrS at HX2
          clear hr2 b4 T3 HIT k1 hs2
          go_wp2_with fail
          refine HX2.out.mono ?_
          rintro e w5 ⟨Z5, rfl, l5, m5⟩
          have T5 := hid (T4.out.mv l5 m5)
          clear l5 m5 T4 HX2
          by_cases he2 : e2 = 0
          case neg =>
            have hne : (e2 != 0) = true := bne_iff_ne.2 he2
            have HF1 := hid (show r = (X2, 0, e2) from by
              rw [HR.out]
              exact prF_err HN.out (j := k + 1) (T := ⟨X2, e2⟩) (by have := HL.out; omega) (by rw [HS.out]; exact prS_e2 (by rw [HD2.out]) he2) he2)
            clear he2
            go_wp2_with fail
            go_ret2
            rw [HF1.out]
            exact ⟨Z5, rfl, T5.out.t.la, (Mv.below HB.out).trans T5.out.t.m⟩
          subst he2
          obtain ⟨q0, q1, q3, q4, q5, q6, q8, q9⟩ := HC.out w5 T5.out.o
          go_upto_block 4 with fail
          have HI1 := hid (show I64 i1 ∧ I64 i2 from HI12.out)
          clear HI12
          go_cut [14, 12] (fun x e V => ∃ X3 i3 e3 Z6, x = .int .i64 i3 ∧ e = .int .i64 e3 ∧ prW ⟨X2, 0⟩ p = (⟨X3, e3⟩, i3) ∧ TB w0 W1 V Z Z6 sa (.slice Av S.2.length cv) S.2 X3 (fun U => Pr U (some ⟨b, o, none⟩) j c l) O bx ∧ I64 i3)
          case first =>
            obtain ⟨hp1, hp2, hp3, hp4⟩ := HPI.out.2.2.1
            by_cases hk12 : p.k = 1 ∨ p.k = 2
            · have HW := hid (show prW ⟨X2, 0⟩ p = doF ⟨X2, 0⟩ (liF [p.n.i, p.n.e, p.n.s, p.n.h]) from if_pos hk12)
              have HRW := hid (T5.out.ext ((Below.refl w5.heap.size w5).alloc (Nat.le_refl _) (.cells #[.int .i64 p.n.i, .int .i64 p.n.e, .int .i64 p.n.s, .int .i64 p.n.h] 3)))
              have HM := hid (l_list HRW.out.t.la HT.out (l := [p.n.i, p.n.e, p.n.s, p.n.h]) (sla_row #[.int .i64 p.n.i, .int .i64 p.n.e, .int .i64 p.n.s, .int .i64 p.n.h] (by unfold maxLen; simp)) (fun i hi => by
                simp only [List.mem_cons, List.mem_nil_iff, or_false] at hi
                rcases hi with rfl | rfl | rfl | rfl
                · exact hp1
                · exact hp2
                · exact hp3
                · exact hp4))
              obtain ⟨⟨X3, i3, e3⟩, hr3⟩ : ∃ q, q = mk X2 (ndN 3 [p.n.i, p.n.e, p.n.s, p.n.h]) := ⟨_, rfl⟩
              have HI3 := hid (li_i (S := (⟨X2, 0⟩ : KS)) T5.out.t.la.ar.ok [p.n.i, p.n.e, p.n.s, p.n.h])
              have HW3 := hid (show doF ⟨X2, 0⟩ (liF [p.n.i, p.n.e, p.n.s, p.n.h]) = (⟨X3, e3⟩, i3) from by
                unfold doF liF
                rw [if_pos rfl]
                dsimp only
                rw [← hr3])
              rw [HW3.out] at HI3
              rw [← hr3] at HM
              unfold LrS at HM
              clear hr3 hp1 hp2 hp3 hp4
              rcases hk12 with hk | hk
              · have hk1 : (p.k == 1) = true := by rw [hk]; rfl
                clear hk
                go_wp2_with fail
                refine HM.out.mono ?_
                rintro e w6 ⟨Z6, rfl, l6, m6⟩
                have T6 := hid (HRW.out.mv l6 m6)
                clear l6 m6 HM HRW
                go_wp2_with fail
                go_meet
                exact ⟨X3, i3, e3, Z6, rfl, rfl, HW.out.trans HW3.out, T6.out, HI3.out⟩
              · have hk1 : (p.k == 1) = false := by rw [hk]; rfl
                have hk2 : (p.k == 2) = true := by rw [hk]; rfl
                clear hk
                go_wp2_with fail
                refine HM.out.mono ?_
                rintro e w6 ⟨Z6, rfl, l6, m6⟩
                have T6 := hid (HRW.out.mv l6 m6)
                clear l6 m6 HM HRW
                go_wp2_with fail
                go_meet
                exact ⟨X3, i3, e3, Z6, rfl, rfl, HW.out.trans HW3.out, T6.out, HI3.out⟩
            · have hk1 : (p.k == 1) = false := beq_eq_false_iff_ne.2 fun e => hk12 (.inl e)
              have hk2 : (p.k == 2) = false := beq_eq_false_iff_ne.2 fun e => hk12 (.inr e)
              clear hp1 hp2 hp3 hp4
              by_cases hk3 : p.k = 3
              · have HW := hid (show prW ⟨X2, 0⟩ p = doF ⟨X2, 0⟩ (txF (digB p.a)) from by unfold prW; rw [if_neg hk12, if_pos hk3])
                have HIT := hid (itoa_any p.a HPI.out.2.2.2.1 w5 (Tb.up (HT.out.on T5.out.t.la.bl) T5.out.t.la.sz))
                have hk3' : (p.k == 3) = true := by rw [hk3]; rfl
                clear hk12 hk3
                go_wp2_with fail
                refine HIT.out.mono ?_
                rintro e w6 ⟨s3, rfl, hs3, b6⟩
                have T6 := hid (T5.out.ext b6)
                have HX3 := hid (l_text T6.out.t.la HT.out s3)
                obtain ⟨⟨X3, i3, e3⟩, hr3⟩ : ∃ q, q = mk X2 (txN s3) := ⟨_, rfl⟩
                have HI3 := hid (tx_i (S := (⟨X2, 0⟩ : KS)) T6.out.t.la.ar.ok (digB p.a))
                have HW3 := hid (show doF ⟨X2, 0⟩ (txF (digB p.a)) = (⟨X3, e3⟩, i3) from by
                  unfold doF txF
                  rw [if_pos rfl, show digB p.a = s3 from hs3.symm]
                  dsimp only
                  rw [← hr3])
                rw [HW3.out] at HI3
                rw [← hr3] at HX3
                unfold LrS at HX3
                clear hr3 b6 HIT hs3
                go_wp2_with fail
                refine HX3.out.mono ?_
                rintro e w7 ⟨Z7, rfl, l7, m7⟩
                have T7 := hid (T6.out.mv l7 m7)
                clear l7 m7 HX3
                go_wp2_with fail
                go_meet
                exact ⟨X3, i3, e3, Z7, rfl, rfl, HW.out.trans HW3.out, T7.out, HI3.out⟩
              · have HW := hid (show prW ⟨X2, 0⟩ p = (⟨X2, 0⟩, p.t) from by unfold prW; rw [if_neg hk12, if_neg hk3])
                have hk3' : (p.k == 3) = false := beq_eq_false_iff_ne.2 hk3
                clear hk12 hk3
                go_wp2_with fail
                go_meet
                exact ⟨X2, p.t, 0, Z5, rfl, rfl, HW.out, T5.out, HPI.out.2.2.2.2⟩
          case rest =>
            obtain ⟨X3, i3, e3, Z6, rfl, rfl, hW, t6, hi3⟩ := hcut
            have T6 := hid t6; have HW := hid hW; have HI3 := hid hi3
            clear t6 hW hi3 q0 q1 q3 q4 q5 q6 q8 q9 T5
            by_cases he3 : e3 = 0
            case neg =>
              have hne : (e3 != 0) = true := bne_iff_ne.2 he3
              have HF1 := hid (show r = (X3, 0, e3) from by
                rw [HR.out]
                exact prF_err HN.out (j := k + 1) (T := ⟨X3, e3⟩) (by have := HL.out; omega) (by rw [HS.out]; exact prS_e3 (by rw [HD2.out, HW.out]) he3) he3)
              clear he3
              go_wp2_with fail
              go_ret2
              rw [HF1.out]
              exact ⟨Z6, rfl, T6.out.t.la, (Mv.below HB.out).trans T6.out.t.m⟩
            subst he3
            have HRW := hid (T6.out.ext ((Below.refl wc.heap.size wc).alloc (Nat.le_refl _) (.cells #[.int .i64 i1, .int .i64 i2, .int .i64 i3] 3)))
            have HM := hid (l_list HRW.out.t.la HT.out (l := [i1, i2, i3]) (sla_row #[.int .i64 i1, .int .i64 i2, .int .i64 i3] (by unfold maxLen; simp)) (fun i hi => by
              simp only [List.mem_cons, List.mem_nil_iff, or_false] at hi
              rcases hi with rfl | rfl | rfl
              · exact HI1.out.1
              · exact HI1.out.2
              · exact HI3.out))
            obtain ⟨⟨X4, i4, e4⟩, hr4⟩ : ∃ q, q = mk X3 (ndN 3 [i1, i2, i3]) := ⟨_, rfl⟩
            have HSS := hid (show prS S.1 p = (⟨X4, e4⟩, i4) from by
              unfold prS
              rw [HD1.out, HD2.out]
              dsimp only
              rw [HW.out]
              unfold doF liF
              dsimp only
              rw [if_pos rfl, ← hr4])
            rw [← hr4] at HM
            unfold LrS at HM
            clear hr4
            go_wp2_with fail
            refine HM.out.mono ?_
            rintro e w7 ⟨Z7, rfl, l7, m7⟩
            have T7 := hid (HRW.out.mv l7 m7)
            clear l7 m7 HM HRW T6
            by_cases he4 : e4 = 0
            case neg =>
              have hne : (e4 != 0) = true := bne_iff_ne.2 he4
              have HF1 := hid (show r = (X4, 0, e4) from by
                rw [HR.out]
                exact prF_err HN.out (j := k + 1) (T := ⟨X4, e4⟩) (by have := HL.out; omega) (by rw [HS.out, HSS.out]) he4)
              clear he4
              go_wp2_with fail
              go_ret2
              rw [HF1.out]
              exact ⟨Z7, rfl, T7.out.t.la, (Mv.below HB.out).trans T7.out.t.m⟩
            subst he4
            rw [HSS.out] at HS
            have HLS := hid (show S.2.length ≤ 1000000 from by have := prA_len (⟨X, 0⟩ : KS) l k; rw [← HSK.out] at this; omega)
            obtain ⟨ll, hll⟩ : ∃ ll, ll = S.2 := ⟨_, rfl⟩
            rw [← hll] at HS T7 HLS ⊢
            clear hll HD1 HD2 HW HC HPI
            have HLN := hid HLS.out
            clear HLS
            go_wp2_with (first
              | (at_builtin; refine wpList_append_sl _ rfl _ _ 30 rfl W1.heap.size 3 i0 (.int .i64 0) 1 8 Tryz.underlying30 hii hz0 hz1 hz2 rfl (by decide) (.slice Av ll.length cv) ll.length (ll.map (.int .i64)) rfl (T7.out.ext ((Below.refl _ _).alloc (Nat.le_refl _) _)).t.un _ 1 1 [.int .i64 i4] rfl (SlA.lit1 _) (one_int _ _) (by have := HLN.out; unfold maxLen; omega) (by have := HLN.out; omega) (by have := T7.out.t.m.t.size; simp; omega) ?_; intro v8 w8 own8 gr8 loc8; have T8 := hid ((T7.out.ext ((Below.refl _ _).alloc (Nat.le_refl _) (.cells #[.int .i64 i4] 3))).t.app (l' := ll ++ [i4]) (by rw [List.length_append, List.map_append]; exact own8) gr8 loc8); clear own8 gr8 loc8))
            go_roundw
            case rel => exact ⟨k + 1, Z7, by go_num, by omega, by rw [HS.out]; exact T8.out, by rw [HS.out]⟩
            case measure => simp [intOf]; omega
        · have hkj : k = j := by omega
          subst hkj
          clear hlt
          have HTM := hid htm; have HE := hid he
          clear htm he
          obtain ⟨S, hS⟩ : ∃ S, S = prA ⟨X, 0⟩ l k := ⟨_, rfl⟩
          have HSI := hid (prA_i (S := (⟨X, 0⟩ : KS)) H.out.ar.ok l k)
          rw [← hS] at HTM HE HSI
          have HF1 := hid (show r = mk S.1.x (ndN 3 S.2) from by
            rw [HR.out]
            unfold prF prZ
            rw [if_neg (by rw [HN.out]; decide), show l.length = k from HL.out, ← hS]
            unfold doF liF
            rw [if_pos HE.out]
            dsimp only
            by_cases h0 : (mk S.1.x (ndN 3 S.2)).2.2 = 0
            · rw [if_pos h0]
            · rw [if_neg h0, ← mk_zero9 h0])
          obtain ⟨Av, cv, rfl, hsv⟩ := SlA.owned HTM.out.un
          have HM := hid (l_list HTM.out.la HT.out hsv HSI.out)
          rw [← HF1.out] at HM
          unfold LrS at HM
          clear hsv HF1 hS
          go_wp2_with fail
          refine HM.out.mono ?_
          rintro e w7 ⟨Z7, rfl, l7, m7⟩
          have L7 := hid l7; have M7 := hid (((Mv.below HB.out).trans HTM.out.m).trans m7)
          clear l7 m7 HM
          go_wp2_with fail
          go_ret2
          exact ⟨Z7, rfl, L7.out, M7.out⟩
end
end Go.Proofs.YtpkijlmkgomfeaaGreatDoor

/- the document's maker in memory: makes a node, its first error stays. -/
namespace Go.Proofs.YtpkijlmkgomfeaaGreatDoor
open Go.RowKit Go.KK Go.Shelf Go.Maps
set_option linter.unusedVariables false
set_option linter.unusedSimpArgs false

theorem lq_put9 {w0 W : World} {Z : Nat → Prop} {sa b o : Nat} {xs : List ND} (h : LQ w0 W Z sa xs) (v : Value) (hz : ¬ Z b) (hb : w0.heap.size ≤ b) : LQ w0 (W.setCell ⟨b, o, none⟩ v) Z sa xs := by
  have ht : Turn (fun k => k = b) W (W.setCell ⟨b, o, none⟩ v) := Turn.setCell v (.inl rfl)
  exact ⟨h.ar.turn ht fun k hk e => hz (e ▸ hk), h.z, h.bl.trans (ht.below (fun k e => e ▸ hb) h.bl.size)⟩
/-- The maker, and its arena. -/
structure MQ (w0 W : World) (Z : Nat → Prop) (sa bk : Nat) (S : KS) : Prop where
  la : LQ w0 W Z sa S.x
  k : W.heap[bk]? = some (.cells #[.pointer (some ⟨sa, 0, none⟩), .int .i64 S.e] 110 (0, 0))
  nz : ¬ Z bk
  lo : w0.heap.size ≤ bk
section
variable {w0 W W' : World} {Z Z' : Nat → Prop} {sa bk : Nat} {S : KS} {X' : List ND}
theorem MQ.lt (h : MQ w0 W Z sa bk S) : bk < W.heap.size := (Array.getElem?_eq_some_iff.1 h.k).1
theorem MQ.c0 (h : MQ w0 W Z sa bk S) : W.cell? ⟨bk, 0, none⟩ = some (.pointer (some ⟨sa, 0, none⟩)) := by rw [cell_of_row W bk 0 _ _ (0, 0) h.k]; rfl
theorem MQ.c1 (h : MQ w0 W Z sa bk S) : W.cell? ⟨bk, 1, none⟩ = some (.int .i64 S.e) := by rw [cell_of_row W bk 1 _ _ (0, 0) h.k]; rfl
theorem MQ.fz (h : MQ w0 W Z sa bk S) (i : Nat) : W.frozen? ⟨bk, i, none⟩ = false := frozen_of_row W bk i _ _ h.k
theorem MQ.ext (h : MQ w0 W Z sa bk S) (hb : Below W.heap.size W W') : MQ w0 W' Z sa bk S :=
  ⟨h.la.ext hb, (hb.block bk h.lt).trans h.k, h.nz, h.lo⟩
theorem MQ.mv (h : MQ w0 W Z sa bk S) (l : LQ w0 W' Z' sa X') (m : Mv Z W Z' W') : MQ w0 W' Z' sa bk ⟨X', S.e⟩ :=
  ⟨l, (m.t.block bk h.lt h.nz).trans h.k, fun hz => (m.n bk hz).elim h.nz fun h' => by have := h.lt; omega, h.lo⟩
theorem MQ.put (h : MQ w0 W Z sa bk S) (e : Int) : MQ w0 (W.setCell ⟨bk, 1, none⟩ (.int .i64 e)) Z sa bk ⟨S.x, e⟩ := by
  refine ⟨lq_put9 h.la _ h.nz h.lo, ?_, h.nz, h.lo⟩
  rw [heap_setCell_same W bk 1 _ _ _ h.k]; rfl
theorem MQ.i64 (h : MQ w0 W Z sa bk S) {i : Int} (hi : hasB S.x i = true) : I64 i := by
  have a := has_iff.1 hi
  have b := h.la.ar.ok.len
  exact ⟨by omega, by omega⟩
theorem MQ.new (h : MQ w0 W Z sa bk S) : ¬ Zk Z bk W.heap.size := fun hz => hz.elim (fun hz => by have := h.la.ar.zlt _ hz; omega) (fun e => by have := h.lt; omega)
end
/-- What a method leaves that makes a term. -/
def ThQ (w0 W : World) (Z : Nat → Prop) (sa bk : Nat) (r : KS × Int) (e : Ending) (w' : World) : Prop := ∃ Z', e = .returned (.int .i64 r.2) ∧ MQ w0 w' Z' sa bk r.1 ∧ Mv (Zk Z bk) W (Zk Z' bk) w'
section
variable {w0 W : World} {Z : Nat → Prop} {sa bk : Nat} {S : KS}
set_option maxHeartbeats 2000000 in
theorem qm_make (h : MQ w0 W Z sa bk S) (hT : Tb w0.heap.size w0) {x : ND} {A : Option Addr} {c : Nat} (hl : SlA W 1 A x.l.length c (x.l.map (.int .i64))) (hx : NdI x) :
    Calls Tryz.prog 121 #[.pointer (some ⟨bk, 0, none⟩), .agg #[.int .i64 x.o, .int .i64 x.n, .string x.s, .slice A x.l.length c]] W (ThQ w0 W Z sa bk (doF S fun xs => mk xs x)) := by
  have b1 : Below W.heap.size W (W.alloc (.cells #[.int .i64 x.o, .int .i64 x.n, .string x.s, .slice A x.l.length c] 86)) := (Below.refl _ _).alloc (Nat.le_refl _) _
  have HP := hid (show MQ w0 (W.alloc (.cells #[.int .i64 x.o, .int .i64 x.n, .string x.s, .slice A x.l.length c] 86)) Z sa bk S ∧ HasO (.cells #[.int .i64 x.o, .int .i64 x.n, .string x.s, .slice A x.l.length c] 86 (0, 0)) W.heap.size (W.alloc (.cells #[.int .i64 x.o, .int .i64 x.n, .string x.s, .slice A x.l.length c] 86)) ∧ Below W.heap.size W (W.alloc (.cells #[.int .i64 x.o, .int .i64 x.n, .string x.s, .slice A x.l.length c] 86)) ∧ SlA (W.alloc (.cells #[.int .i64 x.o, .int .i64 x.n, .string x.s, .slice A x.l.length c] 86)) 1 A x.l.length c (x.l.map (.int .i64)) from ⟨h.ext b1, HasO.new _ _, b1, hl.ext b1⟩)
  have HT := hid hT; have HX := hid hx
  have hnb : ¬ Z W.heap.size := fun hz => by have := h.la.ar.zlt _ hz; omega
  clear h hl hT hx b1
  by_cases he : S.e = 0
  · have HD := hid (show doF S (fun xs => mk xs x) = (⟨(mk S.x x).1, (mk S.x x).2.2⟩, (mk S.x x).2.1) from if_pos he)
    have HM := hid (fun (V : World) (h : MQ w0 V Z sa bk S) (hl : SlA V 1 A x.l.length c (x.l.map (.int .i64))) => q_mke (h.la.ext (below_drew (Below.refl _ _))) (x := x) (hl.drew) HX.out)
    rw [HD.out]
    have HE := hid he
    clear HD HX he
    obtain ⟨xo, xn, xs, xl⟩ := x
    dsimp only at HM HP ⊢
    go_enter Tryz.func121, Tryz.ntmps121
    go_upto_region 1 with fail
    generalize hb : W.heap.size = b at *
    refine forget (R := fun V => MQ w0 V Z sa bk S ∧ HasO (.cells #[.int .i64 xo, .int .i64 xn, .string xs, .slice A xl.length c] 86 (0, 0)) b V ∧ Below b W V ∧ SlA V 1 A xl.length c (xl.map (.int .i64))) ?_ HP.out
    clear HP
    rintro V ⟨h, hx, hbl, hl⟩
    have hc0 := h.c0
    have hc1 := h.c1
    rw [HE.out] at hc1
    have hz := h.nz
    obtain ⟨x0, x1, x2, x3⟩ := nd4 hx
    have HMV := hid (HM.out V h hl)
    have H := hid h
    have HB := hid (show Below W.heap.size W V by rw [hb]; exact hbl)
    clear h hx hbl hl HM hb
    go_upto_region 3 with fail
    go_region_held3 (fun U => U.cell? ⟨bk, 0, none⟩ = some (.pointer (some ⟨sa, 0, none⟩)) ∧ U.cell? ⟨b, 0, none⟩ = some (.int .i64 xo) ∧ U.cell? ⟨b, 1, none⟩ = some (.int .i64 xn) ∧ U.cell? ⟨b, 2, none⟩ = some (.string xs) ∧ U.cell? ⟨b, 3, none⟩ = some (.slice A xl.length c)) (first | exact ⟨hc0, x0, x1, x2, x3⟩ | exact ⟨N2.out.cell1 hc0 hz, N2.out.cell1 x0 hnb, N2.out.cell1 x1 hnb, N2.out.cell1 x2 hnb, N2.out.cell1 x3 hnb⟩ | go_keep) (first
      | (go_at_call 69; refine HMV.out.mono ?_; clear hc1; rintro e w2 ⟨Z2, rfl, l2, m2⟩; have N2 := hid ((Mv.below (below_drew (Below.refl V.heap.size V))).trans m2); have L2 := hid ((H.out.ext (below_drew (Below.refl _ _))).mv l2 m2); have M2 := hid (((Mv.below HB.out).trans ((Mv.below (below_drew (Below.refl V.heap.size V))).trans m2)).zk bk); have hc1 := L2.out.c1; have hf := L2.out.fz 1; clear l2 m2)
      | fail)
    all_goals
      go_wp2_with fail
      go_ret
      exact ⟨Z2, rfl, L2.out.put _, M2.out.trans (Mv.set _ _ _ _ _)⟩
  · have HD := hid (show doF S (fun xs => mk xs x) = (S, 0) from if_neg he)
    have hne : (S.e == 0) = false := beq_eq_false_iff_ne.2 he
    have hne2 : (S.e != 0) = true := bne_iff_ne.2 he
    have hc1 := HP.out.1.c1
    rw [HD.out]
    clear he HD HX
    go_enter Tryz.func121, Tryz.ntmps121
    go_wp2_with fail
    go_ret
    exact ⟨Z, rfl, HP.out.1, Mv.below HP.out.2.2.1⟩
theorem qm_text (h : MQ w0 W Z sa bk S) (hT : Tb w0.heap.size w0) (s : ByteArray) :
    Calls Tryz.prog 57 #[.pointer (some ⟨bk, 0, none⟩), .string s] W (ThQ w0 W Z sa bk (doF S (txF s))) := by
  have HM := hid (qm_make h hT (x := txN s) (SlA.nil _ _) (ndI_tx s))
  change Hid (Calls _ _ _ W (ThQ w0 W Z sa bk (doF S (txF s)))) at HM
  clear h hT
  generalize doF S (txF s) = r at *
  go_enter Tryz.func57, Tryz.ntmps57
  go_wp2_with fail
  refine HM.out.mono ?_
  rintro e w' ⟨Z', rfl, h1, h2⟩
  have H1 := hid h1; have H2 := hid h2
  clear h1 h2
  go_wp2_with fail
  go_ret
  exact ⟨Z', rfl, H1.out, H2.out⟩
theorem qm_of (h : MQ w0 W Z sa bk S) (hT : Tb w0.heap.size w0) {A : Option Addr} {n c : Nat} {l : List Int} (hl : SlA W 1 A n c (l.map (.int .i64))) (hi : ∀ i ∈ l, I64 i) {o : Int} (ho : I64 o) :
    Calls Tryz.prog 59 #[.pointer (some ⟨bk, 0, none⟩), .int .i64 o, .slice A n c] W (ThQ w0 W Z sa bk (doF S fun xs => mk xs (ndN o l))) := by
  have e := hl.lenI
  subst e
  have HM := hid (qm_make h hT (x := ndN o l) hl (ndI_nd ho hi))
  change Hid (Calls _ _ _ W (ThQ w0 W Z sa bk (doF S fun xs => mk xs (ndN o l)))) at HM
  clear h hT hl hi ho
  generalize (doF S fun xs => mk xs (ndN o l)) = r at *
  go_enter Tryz.func59, Tryz.ntmps59
  go_wp2_with fail
  refine HM.out.mono ?_
  rintro e w' ⟨Z', rfl, h1, h2⟩
  have H1 := hid h1; have H2 := hid h2
  clear h1 h2
  go_wp2_with fail
  go_ret
  exact ⟨Z', rfl, H1.out, H2.out⟩
theorem qm_done (h : MQ w0 W Z sa bk S) (t : Int) :
    Calls Tryz.prog 60 #[.pointer (some ⟨bk, 0, none⟩), .int .i64 t] W fun e w' => e = .returned (.tuple #[.int .i64 (if S.e = 0 then t else 0), .int .i64 S.e]) ∧ Below W.heap.size W w' := by
  have hc1 := h.c1
  clear h
  by_cases he : S.e = 0
  · rw [if_pos he]
    rw [he] at hc1 ⊢
    clear he
    go_enter Tryz.func60, Tryz.ntmps60
    go_wp2_with fail
    go_ret2
    exact ⟨rfl, Below.refl _ _⟩
  · rw [if_neg he]
    have hne2 : (S.e != 0) = true := bne_iff_ne.2 he
    clear he
    go_enter Tryz.func60, Tryz.ntmps60
    go_wp2_with fail
    go_quiet (fail)
    go_wp2_with fail
    go_ret2
    exact ⟨rfl, below_drewN (Below.refl _ _) _⟩
end
end Go.Proofs.YtpkijlmkgomfeaaGreatDoor

/- what a longer walk of the document's maker carries. -/
namespace Go.Proofs.YtpkijlmkgomfeaaGreatDoor
open Go.RowKit Go.KK Go.Shelf Go.Maps
set_option linter.unusedVariables false
set_option linter.unusedSimpArgs false

theorem lq9_turn {w W W' : World} {Z' F : Nat → Prop} {sb : Nat} {ys : List ND} (h : LQ w W Z' sb ys) (ht : Turn F W W') (hd : ∀ b, Z' b → ¬ F b) (hf : ∀ b, F b → w.heap.size ≤ b) : LQ w W' Z' sb ys :=
  ⟨h.ar.turn ht hd, h.z, h.bl.trans (ht.below hf h.bl.size)⟩
section
variable {w0 W V V' : World} {Z Z' Z2 : Nat → Prop} {sa bk b3 : Nat} {S S' S2 : KS} {v v' : Value} {l l' : List Int} {P : World → Prop} {bs : List (Nat × Obj)} {X : List ND}
/-- A longer walk: boxes of its own, a row of terms, what it reads. -/
structure NQ (w0 W V : World) (Z Z' : Nat → Prop) (sa bk : Nat) (bs : List (Nat × Obj)) (v : Value) (l : List Int) (S' : KS) (P : World → Prop) : Prop where
  lk : MQ w0 V Z' sa bk S'
  bx : ∀ p ∈ bs, V.heap[p.1]? = some p.2 ∧ ¬ Zk Z' bk p.1 ∧ W.heap.size ≤ p.1
  un : V.ownsRow W.heap.size 3 1 v l.length (l.map (.int .i64))
  nu : ∀ b, v.ownBlock = some b → ¬ Zk Z' bk b ∧ ∀ p ∈ bs, b ≠ p.1
  fu : ∃ R : Nat → Prop, (∀ b, R b → ¬ Zk Z' bk b ∧ b < W.heap.size) ∧ ∀ V', (∀ b, R b → V'.heap[b]? = V.heap[b]?) → P V'
  m : Mv (Zk Z bk) W (Zk Z' bk) V
  m0 : w0.heap.size ≤ W.heap.size
theorem NQ.mv (h : NQ w0 W V Z Z' sa bk bs v l S' P) (k : MQ w0 V' Z2 sa bk S2) (m : Mv (Zk Z' bk) V (Zk Z2 bk) V') : NQ w0 W V' Z Z2 sa bk bs v l S2 P := by
  have nz : ∀ b, b < V.heap.size → ¬ Zk Z' bk b → ¬ Zk Z2 bk b := fun b hb hz h2 => (m.n b h2).elim hz fun h' => by omega
  obtain ⟨R, r1, r2⟩ := h.fu
  have sz := h.m.t.size
  exact ⟨k, fun p hp => by
      obtain ⟨a1, a2, a3⟩ := h.bx p hp
      have hlt := (Array.getElem?_eq_some_iff.1 a1).1
      exact ⟨(m.t.block p.1 hlt a2).trans a1, nz p.1 hlt a2, a3⟩, own_block h.un fun b hb => m.t.block b (h.un.lt b hb).2 (h.nu b hb).1, fun b hb => ⟨nz b (h.un.lt b hb).2 (h.nu b hb).1, (h.nu b hb).2⟩,
    ⟨R, fun b hr => ⟨nz b (Nat.lt_of_lt_of_le (r1 b hr).2 sz) (r1 b hr).1, (r1 b hr).2⟩, fun V2 hv => r2 V2 fun b hr => (hv b hr).trans (m.t.block b (Nat.lt_of_lt_of_le (r1 b hr).2 sz) (r1 b hr).1)⟩, h.m.trans m, h.m0⟩
theorem NQ.ext (h : NQ w0 W V Z Z' sa bk bs v l S' P) (hb : Below V.heap.size V V') : NQ w0 W V' Z Z' sa bk bs v l S' P := h.mv (h.lk.ext hb) (Mv.below hb)
theorem NQ.app (h : NQ w0 W V Z Z' sa bk bs v l S' P) (hn : V'.ownsRow W.heap.size 3 1 v' l'.length (l'.map (.int .i64))) (hg : V.grownBy V' v.ownBlock) (hl : v'.ownBlock = v.ownBlock ∨ v'.ownBlock = some V.heap.size) : NQ w0 W V' Z Z' sa bk bs v' l' S' P := by
  have ht : Turn (fun b => v.ownBlock = some b) V V' := Turn.grown hg fun b hb => .inl hb
  have sz := h.m.t.size
  obtain ⟨R, r1, r2⟩ := h.fu
  have new : ∀ b, v'.ownBlock = some b → v.ownBlock = some b ∨ b = V.heap.size := fun b hb => by
    rcases hl with hl | hl
    · exact .inl (hl ▸ hb)
    · rw [hl] at hb; injection hb with hb; exact .inr hb.symm
  refine ⟨⟨lq9_turn h.lk.la ht (fun b hz e => (h.nu b e).1 (.inl hz)) (fun b e => Nat.le_trans (h.m0) (h.un.lt b e).1), (ht.block bk h.lk.lt fun e => (h.nu bk e).1 (.inr rfl)).trans h.lk.k, h.lk.nz, h.lk.lo⟩, fun p hp => ?_, hn, fun b hb => ?_, ⟨R, r1, fun V2 hv => r2 V2 fun b hr => (hv b hr).trans (ht.block b (Nat.lt_of_lt_of_le (r1 b hr).2 sz) fun e => by have := (h.un.lt b e).1; have := (r1 b hr).2; omega)⟩, ⟨h.m.t.trans ht fun b e => .inr (h.un.lt b e).1, h.m.n⟩, h.m0⟩
  · obtain ⟨a1, a2, a3⟩ := h.bx p hp
    exact ⟨(ht.block p.1 (Array.getElem?_eq_some_iff.1 a1).1 fun e => (h.nu _ e).2 p hp rfl).trans a1, a2, a3⟩
  · rcases new b hb with e | e
    · exact h.nu b e
    · subst e
      exact ⟨h.lk.new, fun p hp e => by have := (Array.getElem?_eq_some_iff.1 (h.bx p hp).1).1; omega⟩
/-- A box more. -/
theorem NQ.push (h : NQ w0 W V Z Z' sa bk bs v l S' P) (o : Obj) : NQ w0 W (V.alloc o) Z Z' sa bk ((V.heap.size, o) :: bs) v l S' P := by
  have h2 := h.ext ((Below.refl V.heap.size V).alloc (Nat.le_refl _) o)
  refine ⟨h2.lk, fun p hp => ?_, h2.un, fun b hb => ⟨(h2.nu b hb).1, fun p hp => ?_⟩, h2.fu, h2.m, h2.m0⟩
  · rcases List.mem_cons.1 hp with rfl | hp
    · exact ⟨heap_alloc_new V o, h.lk.new, h.m.t.size⟩
    · exact h2.bx p hp
  · rcases List.mem_cons.1 hp with rfl | hp
    · have := (h.un.lt b hb).2; show b ≠ V.heap.size; omega
    · exact (h2.nu b hb).2 p hp
theorem NQ.fx (h : NQ w0 W V Z Z' sa bk bs v l S' P) : Fx V (Zk Z' bk) P := by
  obtain ⟨R, r1, r2⟩ := h.fu
  exact ⟨R, fun b hb => ⟨(r1 b hb).1, Nat.lt_of_lt_of_le (r1 b hb).2 h.m.t.size⟩, r2⟩
theorem NQ.here (h : NQ w0 W V Z Z' sa bk bs v l S' P) : P V := h.fx.here
/-- It begins. -/
theorem NQ.begin0 (h : MQ w0 W Z sa bk S) (hf : Fx W (Zk Z bk) P) : NQ w0 W W Z Z sa bk [] (.slice none 0 0) [] S P :=
  ⟨h, fun p hp => (by simp at hp), World.ownsRow_nil _ _ _ _, fun b hb => (by cases hb), hf, Mv.below (Below.refl _ _), h.la.bl.size⟩
theorem NQ.fz (h : NQ w0 W V Z Z' sa bk bs v l S' P) {b : Nat} {cs : Array Value} {T : TypeId} (hp : (b, .cells cs T (0, 0)) ∈ bs) (o : Nat) : V.frozen? ⟨b, o, none⟩ = false := frozen_of_row V b o _ _ (h.bx _ hp).1
theorem NQ.sub (h : NQ w0 W V Z Z' sa bk bs v l S' P) {bs' : List (Nat × Obj)} (hs : ∀ p ∈ bs', p ∈ bs) : NQ w0 W V Z Z' sa bk bs' v l S' P :=
  ⟨h.lk, fun p hp => h.bx p (hs p hp), h.un, fun b hb => ⟨(h.nu b hb).1, fun p hp => (h.nu b hb).2 p (hs p hp)⟩, h.fu, h.m, h.m0⟩
theorem NQ.cell (h : NQ w0 W V Z Z' sa bk bs v l S' P) {b : Nat} {cs : Array Value} {T : TypeId} (hp : (b, .cells cs T (0, 0)) ∈ bs) (o : Nat) : V.cell? ⟨b, o, none⟩ = cs[o]? := cell_of_row V b o _ _ (0, 0) (h.bx _ hp).1
end
end Go.Proofs.YtpkijlmkgomfeaaGreatDoor

/- layer 9: what a child says of a node. -/
namespace Go.Proofs.YtpkijlmkgomfeaaGreatDoor
open Go.RowKit Go.KK Go.Shelf Go.Maps
set_option linter.unusedVariables false
set_option linter.unusedSimpArgs false

/-- The tree, its lists' heads these. -/
def TrP (A : Option Addr) (n c : Nat) (xs : List TN) (qs : List Value) (V : World) : Prop :=
  qs.length = xs.length ∧ SlA V 6 A n c (ncs xs qs) ∧ ∀ (j : Nat) x q, xs[j]? = some x → qs[j]? = some q → In1 V q x.u
theorem TrP.tr {A : Option Addr} {n c : Nat} {xs : List TN} {qs : List Value} {V : World} (h : TrP A n c xs qs V) : Tr V A n c xs := ⟨qs, h⟩
theorem Mv.unz {W V : World} {Z Z' : Nat → Prop} {bk : Nat} (m : Mv (Zk Z bk) W (Zk Z' bk) V) (hb : W.heap.size ≤ bk) : Mv Z W Z' V :=
  ⟨⟨m.t.os, m.t.tape, m.t.output, m.t.size, fun k hk hn => m.t.block k hk fun h => h.elim hn fun e => by omega⟩, fun b hz => (m.n b (.inl hz)).elim (fun h => h.elim .inl fun e => .inr (e ▸ hb)) .inr⟩
section
variable {w0 W : World} {Z : Nat → Prop} {sa bk : Nat} {S : KS}
end
end Go.Proofs.YtpkijlmkgomfeaaGreatDoor

/- the document's proposals as one term. -/
namespace Go.Proofs.YtpkijlmkgomfeaaGreatDoor
open Go.RowKit Go.KK Go.Shelf Go.Maps
set_option linter.unusedVariables false
set_option linter.unusedSimpArgs false

theorem digS_B9 (k : Nat) : digS k = digB (k : Int) := by
  apply str_ext
  show Lib.decDigits k = Lib.itoa (k : Int)
  rw [itoa_pos (by omega), Int.toNat_natCast]
theorem qdig (n : Int) (w : World) (h0 : 0 ≤ n) (h : I64 n) : Calls Tryz.prog 58 #[.int .i64 n] w fun e w' => e = .returned (.string (digB n)) ∧ Below w.heap.size w w' := by
  refine (digits_q n w h0 (by have := h.2; omega)).mono ?_
  rintro e w' ⟨rfl, m, rfl⟩
  exact ⟨by rw [digS_B9, Int.toNat_of_nonneg h0], below_drewN (Below.refl _ _) m⟩
def QtS (w0 W : World) (Z : Nat → Prop) (sa : Nat) (X : List ND) (l : List PR) (r : Rs) (e : Ending) (w' : World) : Prop := ∃ Z' X', e = .returned (.tuple #[.int .i64 r.2.1, .int .i64 r.2.2]) ∧ LQ w0 w' Z' sa X' ∧ (l.any prX = false → X' = r.1) ∧ Mv Z W Z' w'
theorem nq_box {w0 W V : World} {Z Z' : Nat → Prop} {sa bk bx : Nat} {p : PR} {q v : Value} {bs : List (Nat × Obj)} {l : List Int} {S : KS} {P : World → Prop} (h : NQ w0 W V Z Z' sa bk ((bx, prO p q) :: bs) v l S P) : V.cell? ⟨bx, 0, none⟩ = some (.int .i64 p.k) ∧ V.cell? ⟨bx, 1, none⟩ = some (.int .i64 p.f) ∧ V.cell? ⟨bx, 3, none⟩ = some (.int .i64 p.n.i) ∧ V.cell? ⟨bx, 4, none⟩ = some (.int .i64 p.n.e) ∧ V.cell? ⟨bx, 5, none⟩ = some (.int .i64 p.n.s) ∧ V.cell? ⟨bx, 6, none⟩ = some (.int .i64 p.n.h) ∧ V.cell? ⟨bx, 8, none⟩ = some (.int .i64 p.a) ∧ V.cell? ⟨bx, 9, none⟩ = some (.int .i64 p.t) :=
  pr10 (h.bx _ (List.mem_cons_self ..)).1
section
variable {w0 W : World} {Z : Nat → Prop} {sa : Nat} {X : List ND}
set_option maxHeartbeats 4000000 in
set_option maxRecDepth 100000 in
theorem q_pterm (h : LQ w0 W Z sa X) (hT : Tb w0.heap.size w0) {A : Option Addr} {n c : Nat} {l : List PR} (hf : Fx W Z fun V => Pr V A n c l) (hn : n ≤ 1000000) (hi : ∀ p ∈ l, PrI p) :
    Calls Tryz.prog 15 #[.pointer (some ⟨sa, 0, none⟩), .slice A n c] W (QtS w0 W Z sa X l (prF X l)) := by
  have HT := hid hT; have HI := hid hi
  have HL := hid hf.here.len
  have HOX := hid h.ar.ok
  obtain ⟨r, hr⟩ : ∃ r : Rs, r = prF X l := ⟨_, rfl⟩
  have HR := hid hr
  rw [← hr]
  have hsz := h.bl.size
  have HM0 := hid (show MQ w0 (W.alloc (.cells #[.pointer (some ⟨sa, 0, none⟩), .int .i64 0] 110)) Z sa W.heap.size ⟨X, 0⟩ from
    ⟨h.alloc _, heap_alloc_new W _, fun hz => by have := h.ar.zlt _ hz; omega, hsz⟩)
  have HF0 := hid (show Fx (W.alloc (.cells #[.pointer (some ⟨sa, 0, none⟩), .int .i64 0] 110)) (Zk Z W.heap.size) fun V => Pr V A n c l from by
    obtain ⟨R, r1, r2⟩ := hf
    exact ⟨R, fun b hb => ⟨fun hz => hz.elim (r1 b hb).1 fun e => by have := (r1 b hb).2; omega, by have := (r1 b hb).2; simp; omega⟩, fun V hv => r2 V fun b hb => (hv b hb).trans (heap_alloc_old _ _ (r1 b hb).2)⟩)
  have HN0 := hid (NQ.begin0 HM0.out HF0.out)
  have HM := hid (show Mv Z W Z (W.alloc (.cells #[.pointer (some ⟨sa, 0, none⟩), .int .i64 0] 110)) from Mv.alloc Z W _)
  clear h hT hf hi hr HM0 HF0 hsz
  obtain ⟨i0, hii, hz0, hz1, hz2⟩ := info_parts Tryz.infoInt
  go_enter Tryz.func15, Tryz.ntmps15
  go_upto_region 2 with fail
  obtain ⟨bk, hbk⟩ : ∃ bk, bk = W.heap.size := ⟨_, rfl⟩
  rw [← hbk] at HN0 ⊢
  have HBK := hid (show W.heap.size ≤ bk from by omega)
  clear hbk
  generalize hW1 : W.alloc (.cells #[.pointer (some ⟨sa, 0, none⟩), .int .i64 0] 110) = W1 at *
  clear hW1
  go_wp2_with fail
  go_loopw [18, 7] (fun i v V => ∃ (k : Nat) (Zq : Nat → Prop), i = .int .i64 k ∧ k ≤ n ∧ Hid (l.any prX = (l.drop k).any prX) ∧ Hid (NQ w0 W1 V Z Zq sa bk [] v (prA ⟨X, 0⟩ l k).2 (prA ⟨X, 0⟩ l k).1 (fun U => Pr U A n c l))) (fun i _ _ => n - (intOf i).toNat)
  case atStart => exact ⟨0, Z, rfl, by omega, hid rfl, HN0⟩
  case round =>
    clear HN0
    obtain ⟨k, Zq, hik, hk, HJ, HN⟩ := hrel
    subst hik
    by_cases hlt : k < n
    · obtain ⟨b, o, p, A', c', rfl, hp, -, d0, d1, d2, d3, d4, d5, d6, d7, d8, d9⟩ := HN.out.here.at hlt
      have hlt' : (k : Int) < (n : Int) := by omega
      have HD := hid (any_pr (p := prX) hp)
      have HS := hid (prA_succ (S := ⟨X, 0⟩) hp)
      have HPI := hid (HI.out p (List.mem_of_getElem? hp))
      obtain ⟨S, hS⟩ : ∃ S, S = prA ⟨X, 0⟩ l k := ⟨_, rfl⟩
      rw [← hS] at HN HS
      have HSL := hid (show S.2.length = k from by rw [hS]; exact prA_len _ _ _)
      obtain ⟨Av, cv, rfl, -⟩ := SlA.owned HN.out.un
      have HN1 := hid (HN.out.push (prO p (.slice A' p.n.u.length c')))
      clear hp HN hS
      go_upto_region 6 with fail
      obtain ⟨bx, hbx⟩ : ∃ bx, bx = wr.heap.size := ⟨_, rfl⟩
      rw [← hbx] at HN1 ⊢
      clear hbx d0 d1 d2 d3 d4 d5 d6 d7 d8 d9
      refine forget (R := fun V => NQ w0 W1 V Z Zq sa bk [(bx, prO p (.slice A' p.n.u.length c'))] (.slice Av S.2.length cv) S.2 S.1 (fun U => Pr U (some ⟨b, o, none⟩) n c l)) ?_ HN1.out
      clear HN1
      intro V hn1
      have HN1 := hid hn1
      clear hn1
      obtain ⟨x0, x1, x3, x4, x5, x6, x8, x9⟩ := nq_box HN1.out
      rcases hx : prX p with _ | _
      case true =>
        have HA := hid (show l.any prX = true from by rw [HJ.out, HD.out, hx]; rfl)
        have HF1 := hid (show r = (X, 0, 1) from by rw [HR.out]; unfold prF; rw [if_pos HA.out])
        have HE := hid (show ∃ Z' X', LQ w0 V Z' sa X' ∧ (l.any prX = false → X' = X) ∧ Mv Z W Z' V from ⟨Zq, S.1.x, HN1.out.lk.la, fun h => by (rw [HA.out] at h; cases h), ((HM.out.zk bk).trans HN1.out.m).unz HBK.out⟩)
        unfold prX at hx
        simp only [Bool.or_eq_true, decide_eq_true_eq] at hx
        clear HN1 HD HJ
        by_cases y1 : p.k < 1
        · go_wp2_with fail
          go_ret2
          rw [HF1.out]
          obtain ⟨Z', X', a1, a2, a3⟩ := HE.out
          exact ⟨Z', X', rfl, a1, a2, a3⟩
        by_cases y2 : 5 < p.k
        · go_wp2_with fail
          go_ret2
          rw [HF1.out]
          obtain ⟨Z', X', a1, a2, a3⟩ := HE.out
          exact ⟨Z', X', rfl, a1, a2, a3⟩
        by_cases y3 : p.f < 0
        · go_wp2_with fail
          go_ret2
          rw [HF1.out]
          obtain ⟨Z', X', a1, a2, a3⟩ := HE.out
          exact ⟨Z', X', rfl, a1, a2, a3⟩
        have y4 : p.a < 0 := by omega
        go_wp2_with fail
        go_ret2
        rw [HF1.out]
        obtain ⟨Z', X', a1, a2, a3⟩ := HE.out
        exact ⟨Z', X', rfl, a1, a2, a3⟩
      have HJ1 := hid (show l.any prX = (l.drop (k + 1)).any prX by rw [HJ.out, HD.out, hx]; rfl)
      unfold prX at hx
      simp only [Bool.or_eq_false_iff, decide_eq_false_iff_not] at hx
      obtain ⟨⟨⟨y1, y2⟩, y3⟩, y4⟩ := hx
      have HY := hid (show 1 ≤ p.k ∧ p.k ≤ 5 ∧ 0 ≤ p.f ∧ 0 ≤ p.a from by omega)
      clear HJ HD
      have HOK := hid HN1.out.lk.la.ar.ok
      obtain ⟨⟨T1, i1⟩, hq1⟩ : ∃ q, q = doF S.1 (txF (digB p.k)) := ⟨_, rfl⟩
      have HI1 := hid (show I64 i1 from by have := tx_i HOK.out (digB p.k); rw [← hq1] at this; exact this)
      have HO1 := hid (show Okay T1.x from by have := (tx_go S.1 (digB p.k)).ok HOK.out; rw [← hq1] at this; exact this)
      obtain ⟨⟨T2, i2⟩, hq2⟩ : ∃ q, q = doF T1 (txF (digB p.f)) := ⟨_, rfl⟩
      have HI2 := hid (show I64 i2 from by have := tx_i HO1.out (digB p.f); rw [← hq2] at this; exact this)
      have HO2 := hid (show Okay T2.x from by have := (tx_go T1 (digB p.f)).ok HO1.out; rw [← hq2] at this; exact this)
      have HQB := hid (show prB S.1 p = (T2, i2) from by unfold prB; rw [← hq1, ← hq2])
      obtain ⟨⟨T3, i3⟩, hq3⟩ : ∃ q, q = prW T2 p := ⟨_, rfl⟩
      have HI3 := hid (show I64 i3 from by
        have h : I64 (prW T2 p).2 := by
          unfold prW
          split
          · exact li_i HO2.out _
          · split
            · exact tx_i HO2.out _
            · exact HPI.out.2.2.2.2
        rw [← hq3] at h; exact h)
      have HO3 := hid (show Okay T3.x from by have := (prW_go T2 p).ok HO2.out; rw [← hq3] at this; exact this)
      obtain ⟨⟨T4, i4⟩, hq4⟩ : ∃ q, q = doF T3 (liF [i1, i2, i3]) := ⟨_, rfl⟩
      have HSS := hid (show prS S.1 p = (T4, i4) from by unfold prS; rw [← hq1, HQB.out]; dsimp only; rw [← hq3]; dsimp only; rw [← hq4])
      rw [HSS.out] at HS
      have HQ1 := hid hq1.symm; have HQ2 := hid hq2.symm; have HQ3 := hid hq3.symm; have HQ4 := hid hq4.symm
      clear hq1 hq2 hq3 hq4 HQB HSS
      have HG1 := hid (qdig p.k V (by omega) HPI.out.1)
      go_wp2_with fail
      refine HG1.out.mono ?_
      rintro e w2 ⟨rfl, b2⟩
      have HN2 := hid (HN1.out.ext b2)
      have HM1 := hid (qm_text HN2.out.lk HT.out (digB p.k))
      rw [HQ1.out] at HM1
      clear b2 HG1 HN1
      go_wp2_with fail
      refine HM1.out.mono ?_
      rintro e w3 ⟨Z3, rfl, l3, m3⟩
      have HN3 := hid (HN2.out.mv l3 m3)
      clear l3 m3 HN2 HM1 x0 x1 x3 x4 x5 x6 x8 x9
      dsimp only at HN3
      obtain ⟨x0, x1, x3, x4, x5, x6, x8, x9⟩ := nq_box HN3.out
      have HG1 := hid (qdig p.f w3 HY.out.2.2.1 HPI.out.2.1)
      go_wp2_with fail
      refine HG1.out.mono ?_
      rintro e w4 ⟨rfl, b4⟩
      have HN4 := hid (HN3.out.ext b4)
      have HM1 := hid (qm_text HN4.out.lk HT.out (digB p.f))
      rw [HQ2.out] at HM1
      clear b4 HG1 HN3
      go_wp2_with fail
      refine HM1.out.mono ?_
      rintro e w5 ⟨Z5, rfl, l5, m5⟩
      have HN5 := hid (HN4.out.mv l5 m5)
      clear l5 m5 HN4 HM1 x0 x1 x3 x4 x5 x6 x8 x9
      dsimp only at HN5
      obtain ⟨x0, x1, x3, x4, x5, x6, x8, x9⟩ := nq_box HN5.out
      go_upto_block 2 with fail
      go_cut [12] (fun x V => ∃ Z6, x = .int .i64 i3 ∧ NQ w0 W1 V Z Z6 sa bk [(bx, prO p (.slice A' p.n.u.length c'))] (.slice Av S.2.length cv) S.2 T3 (fun U => Pr U (some ⟨b, o, none⟩) n c l))
      case first =>
        obtain ⟨hp1, hp2, hp3, hp4⟩ := HPI.out.2.2.1
        by_cases hk12 : p.k = 1 ∨ p.k = 2
        · have HW := hid (show doF T2 (liF [p.n.i, p.n.e, p.n.s, p.n.h]) = (T3, i3) from by rw [← HQ3.out]; exact (if_pos hk12).symm)
          have HRW := hid (HN5.out.ext ((Below.refl w5.heap.size w5).alloc (Nat.le_refl _) (.cells #[.int .i64 p.n.i, .int .i64 p.n.e, .int .i64 p.n.s, .int .i64 p.n.h] 3)))
          have HMM := hid (qm_of HRW.out.lk HT.out (l := [p.n.i, p.n.e, p.n.s, p.n.h]) (sla_row #[.int .i64 p.n.i, .int .i64 p.n.e, .int .i64 p.n.s, .int .i64 p.n.h] (by unfold maxLen; simp)) (fun i hi => by
            simp only [List.mem_cons, List.mem_nil_iff, or_false] at hi
            rcases hi with rfl | rfl | rfl | rfl
            · exact hp1
            · exact hp2
            · exact hp3
            · exact hp4) (o := 3) (i64_lit (by decide) (by decide)))
          change Hid (Calls _ _ _ _ (ThQ w0 _ Z5 sa bk (doF T2 (liF [p.n.i, p.n.e, p.n.s, p.n.h])))) at HMM
          rw [HW.out] at HMM
          clear hp1 hp2 hp3 hp4 HW
          rcases hk12 with hk | hk
          · have hk1 : (p.k == 1) = true := by rw [hk]; rfl
            clear hk
            go_wp2_with fail
            refine HMM.out.mono ?_
            rintro e w6 ⟨Z6, rfl, l6, m6⟩
            have HN6 := hid (HRW.out.mv l6 m6)
            clear l6 m6 HMM HRW
            go_wp2_with fail
            go_meet
            exact ⟨Z6, rfl, HN6.out⟩
          · have hk1 : (p.k == 1) = false := by rw [hk]; rfl
            have hk2 : (p.k == 2) = true := by rw [hk]; rfl
            clear hk
            go_wp2_with fail
            refine HMM.out.mono ?_
            rintro e w6 ⟨Z6, rfl, l6, m6⟩
            have HN6 := hid (HRW.out.mv l6 m6)
            clear l6 m6 HMM HRW
            go_wp2_with fail
            go_meet
            exact ⟨Z6, rfl, HN6.out⟩
        · have hk1 : (p.k == 1) = false := beq_eq_false_iff_ne.2 fun e => hk12 (.inl e)
          have hk2 : (p.k == 2) = false := beq_eq_false_iff_ne.2 fun e => hk12 (.inr e)
          clear hp1 hp2 hp3 hp4
          by_cases hk3 : p.k = 3
          · have HW := hid (show doF T2 (txF (digB p.a)) = (T3, i3) from by rw [← HQ3.out]; unfold prW; rw [if_neg hk12, if_pos hk3])
            have HG := hid (qdig p.a w5 HY.out.2.2.2 HPI.out.2.2.2.1)
            have hk3' : (p.k == 3) = true := by rw [hk3]; rfl
            clear hk12 hk3
            go_wp2_with fail
            refine HG.out.mono ?_
            rintro e w6 ⟨rfl, b6⟩
            have HN6 := hid (HN5.out.ext b6)
            have HMM := hid (qm_text HN6.out.lk HT.out (digB p.a))
            rw [HW.out] at HMM
            clear b6 HG HN5
            go_wp2_with fail
            refine HMM.out.mono ?_
            rintro e w7 ⟨Z7, rfl, l7, m7⟩
            have HN7 := hid (HN6.out.mv l7 m7)
            clear l7 m7 HMM HN6
            go_wp2_with fail
            go_meet
            exact ⟨Z7, rfl, HN7.out⟩
          · have HW := hid (show (T2, p.t) = (T3, i3) from by rw [← HQ3.out]; unfold prW; rw [if_neg hk12, if_neg hk3])
            have hk3' : (p.k == 3) = false := beq_eq_false_iff_ne.2 hk3
            clear hk12 hk3
            go_wp2_with fail
            go_meet
            obtain ⟨e1, e2⟩ := Prod.mk.inj HW.out
            exact ⟨Z5, by rw [e2], by rw [← e1]; exact HN5.out⟩
      case rest =>
        obtain ⟨Z6, rfl, hn6⟩ := hcut
        have HN6 := hid hn6
        clear hn6 HN5 x0 x1 x3 x4 x5 x6 x8 x9
        have HRW := hid (HN6.out.ext ((Below.refl wc.heap.size wc).alloc (Nat.le_refl _) (.cells #[.int .i64 i1, .int .i64 i2, .int .i64 i3] 3)))
        have HMM := hid (qm_of HRW.out.lk HT.out (l := [i1, i2, i3]) (sla_row #[.int .i64 i1, .int .i64 i2, .int .i64 i3] (by unfold maxLen; simp)) (fun i hi => by
          simp only [List.mem_cons, List.mem_nil_iff, or_false] at hi
          rcases hi with rfl | rfl | rfl
          · exact HI1.out
          · exact HI2.out
          · exact HI3.out) (o := 3) (i64_lit (by decide) (by decide)))
        change Hid (Calls _ _ _ _ (ThQ w0 _ Z6 sa bk (doF T3 (liF [i1, i2, i3])))) at HMM
        rw [HQ4.out] at HMM
        clear HN6
        obtain ⟨ll, hll⟩ : ∃ ll, ll = S.2 := ⟨_, rfl⟩
        rw [← hll] at HS HRW HSL ⊢
        have HLN := hid HSL.out
        clear hll HSL
        go_wp2_with (first
          | (go_at_call 59; refine HMM.out.mono ?_; rintro e w7 ⟨Z7, rfl, l7, m7⟩; have HN7 := hid ((HRW.out.mv l7 m7).sub (bs' := []) (fun p hp => by simp at hp)); clear l7 m7)
          | (at_builtin; refine wpList_append_sl _ rfl _ _ 30 rfl W1.heap.size 3 i0 (.int .i64 0) 1 8 Tryz.underlying30 hii hz0 hz1 hz2 rfl (by decide) (.slice Av ll.length cv) ll.length (ll.map (.int .i64)) rfl (HN7.out.ext ((Below.refl _ _).alloc (Nat.le_refl _) _)).un _ 1 1 [.int .i64 i4] rfl (SlA.lit1 _) (one_int _ _) (by have := HLN.out; unfold maxLen; omega) (by have := HLN.out; omega) (by have := HN7.out.m.t.size; simp; omega) ?_; intro v8 w8 own8 gr8 loc8; have HN8 := hid ((HN7.out.ext ((Below.refl _ _).alloc (Nat.le_refl _) (.cells #[.int .i64 i4] 3))).app (l' := ll ++ [i4]) (by rw [List.length_append, List.map_append]; exact own8) gr8 loc8); clear own8 gr8 loc8))
        go_roundw
        case rel => exact ⟨k + 1, Z7, by go_num, by omega, HJ1, hid (by rw [HS.out]; exact HN8.out)⟩
        case measure => simp [intOf]; omega
    · have hkn : k = n := by omega
      subst hkn
      have HA := hid (show l.any prX = false from by rw [HJ.out, List.drop_of_length_le (by have := HL.out; omega)]; rfl)
      obtain ⟨S, hS⟩ : ∃ S, S = prA ⟨X, 0⟩ l k := ⟨_, rfl⟩
      have HOK := HOX
      have HSI := hid (prA_i (S := (⟨X, 0⟩ : KS)) HOK.out l k)
      rw [← hS] at HN HSI
      obtain ⟨⟨T1, i1⟩, hq1⟩ : ∃ q, q = doF S.1 (liF S.2) := ⟨_, rfl⟩
      have HQ1 := hid hq1.symm
      have HF1 := hid (show r = (T1.x, if T1.e = 0 then i1 else 0, T1.e) from by
        rw [HR.out]
        unfold prF prZ
        rw [if_neg (by rw [HA.out]; decide), show l.length = k from HL.out, ← hS, ← hq1])
      obtain ⟨Av, cv, rfl, hsv⟩ := SlA.owned HN.out.un
      have HMM := hid (qm_of HN.out.lk HT.out hsv HSI.out (o := 3) (i64_lit (by decide) (by decide)))
      change Hid (Calls _ _ _ _ (ThQ w0 _ Zq sa bk (doF S.1 (liF S.2)))) at HMM
      rw [HQ1.out] at HMM
      clear hsv hq1 hS hlt HQ1
      go_wp2_with fail
      refine HMM.out.mono ?_
      rintro e w7 ⟨Z7, rfl, l7, m7⟩
      have HN7 := hid (HN.out.mv l7 m7)
      have HDN := hid (qm_done l7 i1)
      clear l7 m7 HMM HN
      dsimp only at HDN HN7
      obtain ⟨g, hg⟩ : ∃ g, g = (if T1.e = 0 then i1 else 0) := ⟨_, rfl⟩
      rw [← hg] at HDN HF1
      clear hg
      go_wp2_with fail
      refine HDN.out.mono ?_
      rintro e w8 ⟨rfl, b8⟩
      have HN8 := hid (HN7.out.ext b8)
      clear b8 HN7 HDN
      go_wp2_with fail
      go_ret2
      rw [HF1.out]
      exact ⟨Z7, T1.x, rfl, HN8.out.lk.la, fun _ => rfl, ((HM.out.zk bk).trans HN8.out.m).unz HBK.out⟩
end
end Go.Proofs.YtpkijlmkgomfeaaGreatDoor

