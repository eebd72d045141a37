import Derived.Test.YtadbgmfdbahcbaaDoorZh
/- deduce's law: DeduceAlike walked. -/
namespace Go.Proofs.YtadbgmfdbahcbaaDoor
open Go.RowKit Go.KK Go.Shelf Go.Maps
set_option linter.unusedVariables false
set_option linter.unusedSimpArgs false

set_option maxHeartbeats 8000000 in
set_option maxRecDepth 100000 in
theorem alike_go (A : Option Addr) (n c : Nat) (l : List ND) (A1 : Option Addr) (n1 c1 : Nat) (x : List Int) (A2 : Option Addr) (n2 c2 : Nat) (y : List Int) (w : World) (hl : NdA w A n c l) (hI : ∀ x ∈ l, NdW x) (hx : SlA w 1 A1 n1 c1 (x.map (.int .i64))) (hxi : ∀ i ∈ x, I64 i) (hy : SlA w 1 A2 n2 c2 (y.map (.int .i64))) (hyi : ∀ i ∈ y, I64 i) (hT : Tb w.heap.size w) :
    Calls Tryd.prog 5 #[.slice A n c, .slice A1 n1 c1, .slice A2 n2 c2] w fun e w' => e = .returned (.bool true) ∧ Below w.heap.size w w' := by
  have hln := hl.len
  have hxn := hx.lenI
  have hyn := hy.lenI
  have HT := hid hT; have HL := hid hl; have HI := hid hI; have HX := hid hx; have HY := hid hy
  have HLV := hid (live_any w hT)
  clear hT hl hI hx hy hxi hyi
  obtain ⟨i0, hi, hz0, hz1, hz2⟩ := info_parts Tryd.infoInt
  go_enter Tryd.func5, Tryd.ntmps5
  go_wp2_with fail
  refine HLV.out.mono ?_
  rintro e w1 ⟨rfl, b1⟩
  have HB1 := hid b1
  clear b1 HLV
  go_wp2_with fail
  refine (few2_any A n c l A1 n1 c1 A2 n2 c2 w1 (HL.out.ext HB1.out)).mono ?_
  rintro e w2 ⟨rfl, b2⟩
  have HB2 := hid (HB1.out.trans (b2.mono HB1.out.size))
  clear b2 HB1
  rcases hf : few5B l [n1, n2] with _ | _
  · clear hf
    go_wp2_with fail
    go_ret
    exact ⟨rfl, HB2.out⟩
  have hfw := few5_iff.1 hf
  have hn40 : n ≤ 40 := by have := hfw.1; omega
  have h20 : n1 ≤ 20 := hfw.2.2 n1 (by simp)
  have h21 : n2 ≤ 20 := hfw.2.2 n2 (by simp)
  have HSZ := hid (szL_le (k := 60) fun z hz => (hfw.2.1 z hz).1)
  clear hf hfw
  go_wp2_with fail
  refine (two_any A n c l _ (HL.out.ext HB2.out) HI.out (Tb.up (HT.out.on HB2.out) HB2.out.size) (by omega)).mono ?_
  rintro e w3 ⟨sa, sb, Z, Z', rfl, ht⟩
  have HAA := hid ht.a.vw; have HAB := hid ht.b.vw; have HOK := hid ht.a.ok
  have HB3 := hid (HB2.out.trans (ht.bl.mono HB2.out.size))
  clear ht HB2
  generalize mksT [] l = X at *
  have HTU := hid (fun (U : World) (hb : Below w.heap.size w U) => (show Tb U.heap.size U from Tb.up (HT.out.on hb) hb.size))
  go_wp2_with fail
  refine (light_any sb X _ HAB.out HOK.out A1 n1 c1 x (HX.out.ext HB3.out) (by omega)).mono ?_
  rintro e w4 ⟨rfl, b4⟩
  have HB4 := hid b4
  clear b4
  rcases hlx : lightB X x with _ | _
  · clear hlx
    go_wp2_with fail
    go_ret
    exact ⟨rfl, HB3.out.trans (HB4.out.mono HB3.out.size)⟩
  have HPX := hid (fun (I : Int → Bool) (h : x.all (hasB X) = true) => pats_short HOK.out HSZ.out I hlx h)
  clear hlx
  go_wp2_with fail
  refine (light_any sb X _ (HAB.out.ext HB4.out) HOK.out A2 n2 c2 y (HY.out.ext (HB3.out.trans (HB4.out.mono HB3.out.size))) (by omega)).mono ?_
  rintro e w5 ⟨rfl, b5⟩
  have HB5 := hid (show Below w3.heap.size w3 w5 from HB4.out.trans (b5.mono HB4.out.size))
  clear b5 HB4
  rcases hly : lightB X y with _ | _
  · clear hly
    go_wp2_with fail
    go_ret
    exact ⟨rfl, HB3.out.trans (HB5.out.mono HB3.out.size)⟩
  have HPY := hid (fun (I : Int → Bool) (h : y.all (hasB X) = true) => pats_short HOK.out HSZ.out I hly h)
  have HAK := hid (fun (U : World) (hb : Below w3.heap.size w3 U) (B1 : Option Addr) (m1 d1 : Nat) (u : List Int) (B2 : Option Addr) (m2 d2 : Nat) (v : List Int) (hu : SlA U 1 B1 m1 d1 (u.map (.int .i64))) (hv : SlA U 1 B2 m2 d2 (v.map (.int .i64))) (h1 : m1 ≤ 1000000) (h2 : m2 ≤ 1000000) (pu : ∀ (I : Int → Bool), u.all (hasB X) = true → ∀ p ∈ (patsF X I [] u).1, p.length ≤ 10000000) (pv : ∀ (I : Int → Bool), v.all (hasB X) = true → ∀ p ∈ (patsF X I [] v).1, p.length ≤ 10000000) => alike_any U sa X B1 m1 d1 u B2 m2 d2 v (HAA.out.ext hb) HOK.out (uses_small HOK.out) hu hv h1 h2 (HTU.out U (HB3.out.trans (hb.mono HB3.out.size))) (fun z hz => by have := HSZ.out z hz; omega) (pu _) (pv _))
  have HXU := hid (fun (U : World) (hb : Below w3.heap.size w3 U) => HX.out.ext (HB3.out.trans (hb.mono HB3.out.size)))
  have HYU := hid (fun (U : World) (hb : Below w3.heap.size w3 U) => HY.out.ext (HB3.out.trans (hb.mono HB3.out.size)))
  have HPX1 := hid (fun (I : Int → Bool) (h : x.all (hasB X) = true) (p : List UInt8) (hp : p ∈ (patsF X I [] x).1) => (show p.length ≤ 10000000 by have := (HPX.out I h).1 p hp; omega))
  have HPY1 := hid (fun (I : Int → Bool) (h : y.all (hasB X) = true) (p : List UInt8) (hp : p ∈ (patsF X I [] y).1) => (show p.length ≤ 10000000 by have := (HPY.out I h).1 p hp; omega))
  clear hly HAB
  go_wp2_with fail
  refine (HAK.out w5 HB5.out A1 n1 c1 x A2 n2 c2 y (HXU.out _ HB5.out) (HYU.out _ HB5.out) (by omega) (by omega) HPX1.out HPY1.out).mono ?_
  rintro e w6 ⟨rfl, b6⟩
  have HB6 := hid (show Below w3.heap.size w3 w6 from HB5.out.trans (b6.mono HB5.out.size))
  clear b6 HB5
  have HSY := hid (alk_sym X x y)
  have HSE := hid (alk_self X x)
  generalize hab : alkB X x y = ab at *
  generalize hae : alkE X x y = ae at *
  clear hab hae
  go_wp2_with fail
  refine (HAK.out w6 HB6.out A2 n2 c2 y A1 n1 c1 x (HYU.out _ HB6.out) (HXU.out _ HB6.out) (by omega) (by omega) HPY1.out HPX1.out).mono ?_
  rintro e w7 ⟨rfl, b7⟩
  have HB7 := hid (show Below w3.heap.size w3 w7 from HB6.out.trans (b7.mono HB6.out.size))
  rw [HSY.out.1, HSY.out.2]
  clear b7 HB6 HSY
  go_wp2_with fail
  refine (HAK.out w7 HB7.out A1 n1 c1 x A1 n1 c1 x (HXU.out _ HB7.out) (HXU.out _ HB7.out) (by omega) (by omega) HPX1.out HPX1.out).mono ?_
  rintro e w8 ⟨rfl, b8⟩
  have HB8 := hid (show Below w3.heap.size w3 w8 from HB7.out.trans (b8.mono HB7.out.size))
  rw [HSE.out.1, HSE.out.2]
  have HPT := hid (fun (U : World) (hb : Below w3.heap.size w3 U) (B1 : Option Addr) (m1 d1 : Nat) (hu : SlA U 1 B1 m1 d1 ((x ++ x).map (.int .i64))) (h1 : m1 ≤ 1000000) => pattern_any U sa X B1 m1 d1 (x ++ x) (HAA.out.ext hb) HOK.out (uses_small HOK.out) hu h1 (HTU.out U (HB3.out.trans (hb.mono HB3.out.size))) (fun z hz => by have := HSZ.out z hz; omega) (fun h p hp => by
    have := (HPX.out (derB X (x ++ x)) (by rw [List.all_append, Bool.and_eq_true] at h; exact h.1)).2 p hp
    omega))
  have HTWI := hid (fun (h : x.all (hasB X) = true) => (show (patsF X (derB X (x ++ x)) [] (x ++ x)).1 = (patsF X (derB X (x ++ x)) [] x).1 ++ (patsF X (derB X (x ++ x)) [] x).1 from pats_twice HOK.out _ (List.all_eq_true.1 h)))
  have HPLN := hid (pats_len X (derB X (x ++ x)) x [])
  have HALL := hid (show (x ++ x).all (hasB X) = x.all (hasB X) by rw [List.all_append, Bool.and_self])
  clear b8 HB7 HSE HAK HPX1 HPY1 HPX HPY HYU HY
  generalize hav : x.all (hasB X) = av at *
  have h1 : (ae != ae) = false := by simp
  have h2 : (ab != ab) = false := by simp
  have hxx : (x ++ x).length = n1 + n1 := by rw [List.length_append, hxn]
  have HXX := hid hxx
  clear hxx
  rcases av with _ | _
  all_goals
    go_wp2_with (first
      | (at_builtin; refine wpList_append_new _ rfl _ _ 23 rfl 3 i0 (.int .i64 0) 1 8 Tryd.underlying23 hi hz0 hz1 hz2 rfl (by decide) rfl A1 n1 c1 (x.map (.int .i64)) rfl (HXU.out _ HB8.out) (ints_one _ _) (by unfold maxLen; omega) (by omega) ?_; intro v5 w9 own5 b5; have HO5 := hid own5; have HB9 := hid (show Below w3.heap.size w3 w9 from HB8.out.trans (b5.mono HB8.out.size)); have HS9 := hid b5.size; clear own5 b5)
      | (at_builtin; refine wpList_append_sl _ rfl _ _ 23 rfl w8.heap.size 3 i0 (.int .i64 0) 1 8 Tryd.underlying23 hi hz0 hz1 hz2 rfl (by decide) v5 n1 (x.map (.int .i64)) rfl HO5.out A1 n1 c1 (x.map (.int .i64)) rfl (HXU.out _ HB9.out) (ints_one _ _) (by unfold maxLen; omega) (by omega) HS9.out ?_; intro v6 w10 own6 gr6 loc6; obtain ⟨A6, c6, rfl, -⟩ := SlA.owned own6; have HS10 := hid (show SlA w10 1 A6 (n1 + n1) c6 ((x ++ x).map (.int .i64)) by rw [List.map_append]; exact (SlA.of_own own6).2); have HB10 := hid (below_append HB9.out gr6 HO5.out HB8.out.size HB9.out.size); clear own6 gr6 loc6)
      | fail)
    refine (HPT.out w10 HB10.out A6 (n1 + n1) c6 HS10.out (by omega)).mono ?_
    rintro e w11 (⟨hall, rfl, b11⟩ | ⟨hall, As, cs, rfl, hr, b11⟩)
  · have HBF := hid (HB3.out.trans ((HB10.out.trans (b11.mono HB10.out.size)).mono HB3.out.size))
    clear hall b11
    go_wp2_with fail
    go_ret
    exact ⟨rfl, HBF.out⟩
  · exact absurd (HALL.out.symm.trans hall) (by decide)
  · exact absurd (HALL.out.symm.trans hall) (by decide)
  · have HBF := hid (HB3.out.trans ((HB10.out.trans (b11.mono HB10.out.size)).mono HB3.out.size))
    rw [HTWI.out (by first | rfl | trivial)] at hr
    rw [HXX.out] at hr ⊢
    have hS := (SlA.of_own hr).2
    have hcs : n1 + n1 ≤ cs := hS.nc
    generalize (patsF X (derB X (x ++ x)) [] x).1 = P at *
    have hPl : P.length = n1 := by rw [HPLN.out, hxn]
    have hS1 := sla_takeV hS (p := n1) (by omega)
    have hS2 := sla_dropV hS (p := n1) (by omega)
    rw [List.map_append, List.take_left' (by rw [List.length_map, hPl])] at hS1
    rw [List.map_append, List.drop_left' (by rw [List.length_map, hPl])] at hS2
    have hcut1 := run_cut_to (P := Tryd.prog) (A := As) (n := n1 + n1) (c := cs) Tryd.underlying33 (fun W => Tryd.sizeOf9 W) (p := n1) (by omega)
    have hcut2 := run_cut_from1 (P := Tryd.prog) (A := As) (A' := (if cs = n1 then As else As.map (·.add (n1 * 1)))) (n := n1 + n1) (c := cs) Tryd.underlying33 (fun W => Tryd.sizeOf9 W) (p := n1) (by omega) rfl
    generalize (if cs = n1 then As else As.map (·.add (n1 * 1))) = A'' at *
    obtain ⟨N2, hN2⟩ : ∃ N2, N2 = n1 + n1 := ⟨_, rfl⟩
    rw [← hN2] at hcut1 hcut2 hS2 ⊢
    obtain ⟨N3, hN3⟩ : ∃ N3, N3 = N2 - n1 := ⟨_, rfl⟩
    rw [← hN3] at hcut2 hS2
    have hy : 2 * (n1 : Int) = (N2 : Int) := by omega
    have HSM := hid (fun (U : World) (hb : Below w11.heap.size w11 U) => by
      have := same_texts As n1 cs P A'' N3 (cs - n1) P U (hS1.ext hb) (hS2.ext hb) (by omega)
      rw [show decide (P = P) = true from decide_eq_true rfl] at this
      exact this)
    have hw2 : IntKind.i64.wrap (N2 : Int) = (N2 : Int) := by rw [IntKind.wrap_i64]; omega
    have hcn : (N2 : Int) ≤ (cs : Int) := by omega
    have DZ := hid (Below.refl w11.heap.size w11)
    clear hall b11 hr hS hS1 hS2 hPl HTWI HPLN HALL hN2 hN3
    go_upto_region 15 with fail
    go_quiet ((go_at_call 13; exact Calls.quiet_of (HSM.out _ (by first | exact DZ.out | exact below_drewN DZ.out _ | exact below_drew DZ.out))))
    go_wp2_with fail
    go_ret
    exact ⟨rfl, by first | exact below_drewN HBF.out _ | exact below_drew HBF.out | exact HBF.out⟩
end Go.Proofs.YtadbgmfdbahcbaaDoor

