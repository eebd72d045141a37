import Derived.Test.YtadbgmfdbahcbaaDoorZS3
import Derived.Test.YtadbgmfdbahcbaaDoorZh
/- the document's layer 5: Pattern, Alike. -/
namespace Go.Proofs.YtadbgmfdbahcbaaDoor
open Go.RowKit Go.KK Go.Shelf Go.Maps
set_option linter.unusedVariables false
set_option linter.unusedSimpArgs false

theorem rt_all (W1 : World) (ss sb mb : Nat) (xs : List ND) (IL : List Bool) (hA : ArV W1 59 sb xs) (hok : Okay xs) (hx : xs.length ≤ 1000) (hI : BlR W1 mb xs.length IL) (hs : ∀ x ∈ xs, x.s.size ≤ 1000000) : ∀ (N : Nat) (t : Int), t.toNat < N → hasB xs t = true → RtD W1 ss sb mb xs (inB IL) t := by
  intro N
  induction N with
  | zero => intro t h; omega
  | succ N ih =>
    intro t hN ht
    have ht2 := has_iff.1 ht
    have hp : ∀ y ∈ (nodeF xs t).l, RtD W1 ss sb mb xs (inB IL) y := fun y hy => by
      have := part_lt hok ht hy
      exact ih y (by omega) this.2.2
    have ht0 : ((t.toNat : Nat) : Int) = t := by omega
    rw [← ht0] at hp ⊢
    exact rpat_any W1 ss sb mb xs IL t.toNat hA hok hx hI (by omega) hs hp
theorem ShS.grown {W1 w w' : World} {ss sb mb n : Nat} {xs : List ND} {num : List Int} {v : Value} {cs : List Value} (h : ShS W1 w ss sb mb xs num) (hr : w.ownsRow (ss + 1) 9 1 v n cs) (hg : w.grownBy w' v.ownBlock) : ShS W1 w' ss sb mb xs num := by
  obtain ⟨u, h1, h2⟩ := h.box
  obtain ⟨l1, l2⟩ := h.lo
  have hs := hg.size
  refine ⟨h.low.grown hg h.low.size fun k hk => by have := (hr.lt k hk).1; omega, ⟨u, (hg.block ss l2 fun e => by have := (hr.lt ss e.symm).1; omega).trans h1, own_block h2 fun b hb => hg.block b (h2.lt b hb).2 fun e => own_apart h2 hr (by decide) b hb e.symm⟩, ⟨l1, by omega⟩, h.q, h.le⟩
set_option maxHeartbeats 4000000 in
set_option maxRecDepth 100000 in
theorem rpattern_any (W : World) (sb : Nat) (xs : List ND) (A : Option Addr) (n c : Nat) (l : List Int) (hA : ArV W 59 sb xs) (hok : Okay xs) (hx : xs.length ≤ 1000) (hl : SlA W 1 A n c (l.map (.int .i64))) (hn : n ≤ 1000) (hs : ∀ x ∈ xs, x.s.size ≤ 1000000)
    (hpl : l.all (hasB xs) = true → ∀ p ∈ (patsF xs (derB xs l) [] l).1, p.length ≤ 10000000) :
    Calls Tryd.prog 14 #[.pointer (some ⟨sb, 0, none⟩), .slice A n c] W fun e w' => PatP W xs l e w' := by
  obtain ⟨i0, hi, hz0, hz1, hz2⟩ := info_parts infoStr
  have HA := hid hA; have HOK := hid hok; have HL := hid hl; have HS := hid hs; have HPL := hid hpl
  have hln := hl.lenI
  have HBD := hid (bad_any sb xs W hA A n c l hl (by omega))
  have HDV := hid (fun (hh : ∀ t ∈ l, hasB xs t = true) => rderived_any sb xs W hA hok A n c l hl hh (by omega))
  clear hA hok hl hs hpl
  go_enter Tryd.func14, Tryd.ntmps14
  go_wp2_with fail
  refine HBD.out.mono ?_
  rintro e w1 ⟨rfl, hw1⟩
  subst hw1
  rcases hall : l.all (hasB xs) with _ | _
  · have HF := hid hall
    clear hall
    go_wp2_with fail
    first | go_ret2 | go_ret
    exact (show PatP _ _ _ _ _ from .inl ⟨HF.out, rfl, Below.refl _ _⟩)
  have HF := hid hall
  have HH := hid (List.all_eq_true.1 hall)
  have HDD := hid (HDV.out (List.all_eq_true.1 hall))
  have HPN0 := hid (HPL.out hall)
  clear hall HDV HBD HPL
  go_wp2_with fail
  refine HDD.out.mono ?_
  rintro e w2 ⟨mb, I, rfl, hI, hd, -, b2⟩
  have HB2 := hid b2
  have HCG := hid (show patsF xs (derB xs l) [] l = patsF xs (inB I) [] l from pats_congr HOK.out (fun t ht => (hd t ht).symm) l [] HH.out)
  have HPN := hid (show ∀ p ∈ (patsF xs (inB I) [] l).1, p.length ≤ 10000000 by rw [← HCG.out]; exact HPN0.out)
  have HRT := hid (fun (t : Int) (ht : hasB xs t = true) => rt_all w2 w2.heap.size sb mb xs I (HA.out.ext b2) HOK.out hx hI HS.out (t.toNat + 1) t (by omega) ht)
  have HS0 := hid (show ShS w2 (w2.alloc (.cells #[.pointer (some ⟨sb, 0, none⟩), .slice (some ⟨mb, 0, none⟩) xs.length xs.length, .slice none 0 0] 77)) w2.heap.size sb mb xs [] from
    ⟨(Below.refl _ _).alloc (Nat.le_refl _) _, ⟨.slice none 0 0, heap_alloc_new w2 _, World.ownsRow_nil _ _ _ _⟩, ⟨Nat.le_refl _, by simp⟩, numQ_nil xs, by simp⟩)
  clear hI hd b2 HDD HPN0
  go_wp2_with fail
  generalize hss : w2.heap.size = ss at *
  have HSS := hid hss
  clear hss
  go_loopw [21, 7] (fun v o wr => ∃ j : Nat, v = .int .i64 j ∧ j ≤ n ∧ Hid (ShS w2 wr ss sb mb xs (patsF xs (inB I) [] (l.take j)).2 ∧ wr.ownsRow (ss + 1) 9 1 o j ((patsF xs (inB I) [] (l.take j)).1.map strV))) (fun v _ _ => n - (intOf v).toNat)
  case atStart => exact ⟨0, rfl, Nat.zero_le _, hid ⟨by rw [List.take_zero]; exact HS0.out, by rw [List.take_zero]; exact World.ownsRow_nil _ _ _ _⟩⟩
  case round =>
    clear HS0
    obtain ⟨j, hv, hj, HR⟩ := hrel
    subst hv
    have HBW := hid (HB2.out.trans (HR.out.1.low.mono HB2.out.size))
    obtain ⟨Ao, co, rfl, -⟩ := SlA.owned HR.out.2
    by_cases hlt : j < n
    · have hlt' : (j : Int) < (n : Int) := by omega
      obtain ⟨b1, o1, t, rfl, htj, hct⟩ := (HL.out.ext HBW.out).elemI hlt
      have hth := HH.out t (List.mem_of_getElem? htj)
      have HTK := hid (show patsF xs (inB I) [] (l.take (j + 1)) = ((patsF xs (inB I) [] (l.take j)).1 ++ [(patT xs (inB I) (patsF xs (inB I) [] (l.take j)).2 t).1], (patT xs (inB I) (patsF xs (inB I) [] (l.take j)).2 t).2) by
        rw [take_one htj, pats_snoc])
      have HPLT := hid (show (patT xs (inB I) (patsF xs (inB I) [] (l.take j)).2 t).1.length ≤ 10000000 by
        refine HPN.out _ ?_
        have e : l = l.take (j + 1) ++ l.drop (j + 1) := (List.take_append_drop _ _).symm
        rw [e, pats_app, HTK.out]
        simp)
      have HCALL := hid (HRT.out t hth (patsF xs (inB I) [] (l.take j)).2 wr HR.out.1 (by have := HPLT.out; omega))
      generalize patsF xs (inB I) [] (l.take j) = PJ at *
      obtain ⟨ps, num⟩ := PJ
      simp only at HTK HPLT HCALL
      have HROW := hid (show wr.ownsRow (ss + 1) 9 1 (.slice Ao j co) j (ps.map strV) from HR.out.2)
      have hsw : ss + 1 ≤ wr.heap.size := HR.out.1.lo.2
      generalize patT xs (inB I) num t = pt at *
      obtain ⟨pb, pn⟩ := pt
      simp only at HTK HPLT HCALL
      clear htj hth HR
      go_wp2_with fail
      refine HCALL.out.mono ?_
      rintro e w3 ⟨rfl, h3, f3⟩
      have H3 := hid h3
      have HROW3 := hid (show w3.ownsRow (ss + 1) 9 1 (.slice Ao j co) j (ps.map strV) by
        refine own_block HROW.out fun k hk => ?_
        have hkl := (HROW.out.lt k hk).2
        have hks := (HROW.out.lt k hk).1
        rcases HROW.out.2 with ⟨e, _⟩ | ⟨g, cap, cur, e, _, hh, _⟩
        · injection e with e
          subst e
          cases hk
        · injection e with e
          subst e
          injection hk with hk
          subst hk
          have hks' : ss + 1 ≤ g := hks
          exact f3 _ _ _ _ hh (by decide) (by omega))
      have hs3 : ss + 1 ≤ w3.heap.size := h3.lo.2
      clear h3 f3 HROW HCALL
      unfold strV at *
      go_wp2_with (first
        | (at_builtin; refine wpList_append_sl _ rfl _ _ 33 rfl (ss + 1) 9 i0 (.string ⟨#[]⟩) 1 16 Tryd.underlying33 hi hz0 hz1 hz2 rfl (by decide) (.slice Ao j co) j (ps.map strV) rfl (HROW3.out.alloc _) _ 1 1 [strV pb] rfl (SlA.lit1 _) (fun u hu => by rw [List.mem_singleton] at hu; subst hu; rfl) (by unfold maxLen; omega) (by omega) (by simp; omega) ?_; intro v5 w5 own5 gr5 loc5; have HO5 := hid own5; have HG5 := hid gr5; clear own5 gr5 loc5)
        | fail)
      go_roundw
      case rel =>
        refine ⟨j + 1, by go_num, by omega, hid ⟨?_, ?_⟩⟩
        · rw [HTK.out]
          exact (H3.out.ext ((Below.refl _ _).alloc (Nat.le_refl _) _)).grown (HROW3.out.alloc _) HG5.out
        · rw [HTK.out, List.map_append]
          exact HO5.out
      case measure => simp [intOf]; omega
    · have hjn : j = n := by omega
      subst hjn
      have hlt' : ¬ ((j : Nat) : Int) < (j : Int) := by omega
      have HRR := hid (show wr.ownsRow w1.heap.size 9 1 (.slice Ao l.length co) l.length ((patsF xs (derB xs l) [] l).1.map strV) by
        have := HR.out.2
        rw [show l.take j = l from List.take_of_length_le (by omega), ← HCG.out] at this
        rw [hln]
        exact own_mono this (by have := HB2.out.size; have := HSS.out; omega))
      have HLN := hid hln
      clear hlt HR hln
      go_wp2_with fail
      first | go_ret2 | go_ret
      exact (show PatP _ _ _ _ _ from .inr ⟨HF.out, Ao, co, by rw [HLN.out] <;> rfl, HRR.out, HBW.out⟩)
set_option maxHeartbeats 2000000 in
set_option maxRecDepth 100000 in
theorem ralike_any (W : World) (sb : Nat) (xs : List ND) (A : Option Addr) (n c : Nat) (x : List Int) (A' : Option Addr) (n' c' : Nat) (y : List Int) (hA : ArV W 59 sb xs) (hok : Okay xs) (hx40 : xs.length ≤ 1000) (hx : SlA W 1 A n c (x.map (.int .i64))) (hy : SlA W 1 A' n' c' (y.map (.int .i64))) (hn : n ≤ 1000) (hn' : n' ≤ 1000) (hs : ∀ x ∈ xs, x.s.size ≤ 1000000)
    (hpx : x.all (hasB xs) = true → ∀ p ∈ (patsF xs (derB xs x) [] x).1, p.length ≤ 10000000) (hpy : y.all (hasB xs) = true → ∀ p ∈ (patsF xs (derB xs y) [] y).1, p.length ≤ 10000000) :
    Calls Tryd.prog 16 #[.pointer (some ⟨sb, 0, none⟩), .slice A n c, .slice A' n' c'] W fun e w' => e = .returned (.tuple #[.bool (alkB xs x y), .int .i64 (alkE xs x y)]) ∧ Below W.heap.size W w' := by
  have HP1 := hid (rpattern_any W sb xs A n c x hA hok hx40 hx hn hs hpx)
  have HP2 := hid (fun (U : World) (hb : Below W.heap.size W U) => rpattern_any U sb xs A' n' c' y (hA.ext hb) hok hx40 (hy.ext hb) hn' hs hpy)
  have HXL := hid hx.lenI; have HYL := hid hy.lenI
  clear hA hok hx hy hs hpx hpy
  go_enter Tryd.func16, Tryd.ntmps16
  go_wp2_with fail
  refine HP1.out.mono ?_
  rintro e w1 (⟨hall, rfl, hb⟩ | ⟨hall, A1, c1, rfl, hr1, hb⟩)
  · have HF := hid (show alkB xs x y = false ∧ alkE xs x y = 1 by unfold alkB alkE; rw [hall]; exact ⟨rfl, rfl⟩)
    have HB := hid hb
    clear hall hb
    go_wp2_with fail
    first | go_ret2 | go_ret
    exact ⟨by rw [HF.out.1, HF.out.2] <;> rfl, HB.out⟩
  · have HF1 := hid hall
    have HB := hid hb
    have HR1 := hid (SlA.of_own hr1).2
    clear hall hb hr1
    go_wp2_with fail
    refine (HP2.out _ HB.out).mono ?_
    rintro e w2 (⟨hall, rfl, hb⟩ | ⟨hall, A2, c2, rfl, hr2, hb⟩)
    · have HF := hid (show alkB xs x y = false ∧ alkE xs x y = 1 by unfold alkB alkE; rw [hall, HF1.out]; exact ⟨rfl, rfl⟩)
      have HB2 := hid (HB.out.trans (hb.mono HB.out.size))
      clear hall hb
      go_wp2_with fail
      first | go_ret2 | go_ret
      exact ⟨by rw [HF.out.1, HF.out.2] <;> rfl, HB2.out⟩
    · have HF := hid (show alkB xs x y = decide ((patsF xs (derB xs x) [] x).1 = (patsF xs (derB xs y) [] y).1) ∧ alkE xs x y = 0 by unfold alkB alkE; rw [hall, HF1.out]; exact ⟨rfl, rfl⟩)
      have HB2 := hid (HB.out.trans (hb.mono HB.out.size))
      have HR2 := hid (SlA.of_own hr2).2
      have HEQ := hid (same_texts A1 x.length c1 _ A2 y.length c2 _ w2 (HR1.out.ext hb) HR2.out (by have := HXL.out; omega))
      clear hall hb hr2 HR1 HR2
      go_wp2_with fail
      refine HEQ.out.mono ?_
      rintro e w3 ⟨rfl, q, rfl⟩
      generalize decide ((patsF xs (derB xs x) [] x).1 = (patsF xs (derB xs y) [] y).1) = bb at *
      go_wp2_with fail
      first | go_ret2 | go_ret
      exact ⟨by rw [HF.out.1, HF.out.2] <;> rfl, below_drewN HB2.out q⟩
end Go.Proofs.YtadbgmfdbahcbaaDoor

