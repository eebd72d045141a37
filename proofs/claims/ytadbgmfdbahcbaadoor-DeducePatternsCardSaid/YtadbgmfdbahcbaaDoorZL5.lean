import Derived.Test.YtadbgmfdbahcbaaDoorZS4
import Derived.Test.YtadbgmfdbahcbaaDoorZh
/- deduce's law: DeducePatterns walked. -/
namespace Go.Proofs.YtadbgmfdbahcbaaDoor
open Go.RowKit Go.KK Go.Shelf Go.Maps
set_option linter.unusedVariables false
set_option linter.unusedSimpArgs false

set_option maxHeartbeats 8000000 in
set_option maxRecDepth 100000 in
theorem patterns_go (A : Option Addr) (n c : Nat) (l : List ND) (A1 : Option Addr) (n1 c1 : Nat) (x : List Int) (A2 : Option Addr) (n2 c2 : Nat) (y : List Int) (w : World) (hl : NdA w A n c l) (hI : ∀ x ∈ l, NdW x) (hx : SlA w 1 A1 n1 c1 (x.map (.int .i64))) (_hxi : ∀ i ∈ x, I64 i) (hy : SlA w 1 A2 n2 c2 (y.map (.int .i64))) (_hyi : ∀ i ∈ y, I64 i) (hT : Tb w.heap.size w) :
    Calls Tryd.prog 4 #[.slice A n c, .slice A1 n1 c1, .slice A2 n2 c2] w fun e w' => e = .returned (.bool true) ∧ Below w.heap.size w w' := by
  have hln := hl.len
  have hxn := hx.lenI
  have hyn := hy.lenI
  have HT := hid hT; have HL := hid hl; have HI := hid hI; have HX := hid hx; have HY := hid hy
  have HLV := hid (live_any w hT)
  clear hT hl hI hx hy
  go_enter Tryd.func4, Tryd.ntmps4
  go_wp2_with fail
  refine HLV.out.mono ?_
  rintro e w1 ⟨rfl, b1⟩
  have HB1 := hid b1
  clear b1 HLV
  go_wp2_with fail
  refine (few2_any A n c l A1 n1 c1 A2 n2 c2 w1 (HL.out.ext HB1.out)).mono ?_
  rintro e w2 ⟨rfl, b2⟩
  have HB2 := hid (HB1.out.trans (b2.mono HB1.out.size))
  clear b2 HB1
  rcases hf : few5B l [n1, n2] with _ | _
  · clear hf
    go_wp2_with fail
    go_ret
    exact ⟨rfl, HB2.out⟩
  have hfw := few5_iff.1 hf
  have hn40 : n ≤ 40 := by have := hfw.1; omega
  have h20 : n1 ≤ 20 := hfw.2.2 n1 (by simp)
  have h21 : n2 ≤ 20 := hfw.2.2 n2 (by simp)
  have HSZ := hid (szL_le (k := 60) fun z hz => (hfw.2.1 z hz).1)
  clear hf hfw
  go_wp2_with fail
  refine (two_any A n c l _ (HL.out.ext HB2.out) HI.out (Tb.up (HT.out.on HB2.out) HB2.out.size) (by omega)).mono ?_
  rintro e w3 ⟨sa, sb, Z, Z', rfl, ht⟩
  have HAA := hid ht.a.vw; have HAB := hid ht.b.vw; have HOK := hid ht.a.ok
  have HB3 := hid (HB2.out.trans (ht.bl.mono HB2.out.size))
  clear ht HB2
  have hX40 : (mksT [] l).length ≤ 40 := by have := mks_len [] l; simp at this; omega
  generalize mksT [] l = X at *
  have HTU := hid (fun (U : World) (hb : Below w.heap.size w U) => (show Tb U.heap.size U from Tb.up (HT.out.on hb) hb.size))
  go_wp2_with fail
  refine (light_any sb X _ HAB.out HOK.out A1 n1 c1 x (HX.out.ext HB3.out) (by omega)).mono ?_
  rintro e w4 ⟨rfl, b4⟩
  have HB4 := hid b4
  clear b4
  rcases hlx : lightB X x with _ | _
  · clear hlx
    go_wp2_with fail
    go_ret
    exact ⟨rfl, HB3.out.trans (HB4.out.mono HB3.out.size)⟩
  have HPX := hid (fun (I : Int → Bool) (h : x.all (hasB X) = true) => pats_short HOK.out HSZ.out I hlx h)
  clear hlx
  go_wp2_with fail
  refine (light_any sb X _ (HAB.out.ext HB4.out) HOK.out A2 n2 c2 y (HY.out.ext (HB3.out.trans (HB4.out.mono HB3.out.size))) (by omega)).mono ?_
  rintro e w5 ⟨rfl, b5⟩
  have HB5 := hid (show Below w3.heap.size w3 w5 from HB4.out.trans (b5.mono HB4.out.size))
  clear b5 HB4
  rcases hly : lightB X y with _ | _
  · clear hly
    go_wp2_with fail
    go_ret
    exact ⟨rfl, HB3.out.trans (HB5.out.mono HB3.out.size)⟩
  have HPY := hid (fun (I : Int → Bool) (h : y.all (hasB X) = true) => pats_short HOK.out HSZ.out I hly h)
  have HXU := hid (fun (U : World) (hb : Below w3.heap.size w3 U) => HX.out.ext (HB3.out.trans (hb.mono HB3.out.size)))
  have HYU := hid (fun (U : World) (hb : Below w3.heap.size w3 U) => HY.out.ext (HB3.out.trans (hb.mono HB3.out.size)))
  have HPX1 := hid (fun (I : Int → Bool) (h : x.all (hasB X) = true) (p : List UInt8) (hp : p ∈ (patsF X I [] x).1) => (show p.length ≤ 10000000 by have := (HPX.out I h).1 p hp; omega))
  have HPY1 := hid (fun (I : Int → Bool) (h : y.all (hasB X) = true) (p : List UInt8) (hp : p ∈ (patsF X I [] y).1) => (show p.length ≤ 10000000 by have := (HPY.out I h).1 p hp; omega))
  have HSZM := hid (fun z (hz : z ∈ X) => (show z.s.size ≤ 1000000 by have := HSZ.out z hz; omega))
  have HPA := hid (fun (U : World) (hb : Below w3.heap.size w3 U) => pattern_any U sa X A1 n1 c1 x (HAA.out.ext hb) HOK.out (uses_small HOK.out) (HXU.out U hb) (by omega) (HTU.out U (HB3.out.trans (hb.mono HB3.out.size))) HSZM.out (HPX1.out _))
  have HPB := hid (fun (U : World) (hb : Below w3.heap.size w3 U) => rpattern_any U sb X A1 n1 c1 x (HAB.out.ext hb) HOK.out (by omega) (HXU.out U hb) (by omega) HSZM.out (HPX1.out _))
  have HKA := hid (fun (U : World) (hb : Below w3.heap.size w3 U) => alike_any U sa X A1 n1 c1 x A2 n2 c2 y (HAA.out.ext hb) HOK.out (uses_small HOK.out) (HXU.out U hb) (HYU.out U hb) (by omega) (by omega) (HTU.out U (HB3.out.trans (hb.mono HB3.out.size))) HSZM.out (HPX1.out _) (HPY1.out _))
  have HKB := hid (fun (U : World) (hb : Below w3.heap.size w3 U) => ralike_any U sb X A1 n1 c1 x A2 n2 c2 y (HAB.out.ext hb) HOK.out (by omega) (HXU.out U hb) (HYU.out U hb) (by omega) (by omega) HSZM.out (HPX1.out _) (HPY1.out _))
  clear hly HAB HAA HXU HYU HPX1 HPY1 HPX HPY HX HY HSZM HSZ
  go_wp2_with fail
  refine (HPA.out w5 HB5.out).mono ?_
  rintro e w6 (⟨hall, rfl, b6⟩ | ⟨hall, AP, cP, rfl, rP, b6⟩)
  · have HF := hid hall
    have HB6 := hid (show Below w3.heap.size w3 w6 from HB5.out.trans (b6.mono HB5.out.size))
    clear hall b6
    go_wp2_with fail
    refine (HPB.out w6 HB6.out).mono ?_
    rintro e w7 (⟨-, rfl, b7⟩ | ⟨hall, -⟩)
    · have HB7 := hid (show Below w3.heap.size w3 w7 from HB6.out.trans (b7.mono HB6.out.size))
      clear b7
      generalize alkB X x y = ab at *
      generalize alkE X x y = ae at *
      go_wp2_with fail
      refine (HKA.out w7 HB7.out).mono ?_
      rintro e w8 ⟨rfl, b8⟩
      have HB8 := hid (show Below w3.heap.size w3 w8 from HB7.out.trans (b8.mono HB7.out.size))
      clear b8
      go_wp2_with fail
      refine (HKB.out w8 HB8.out).mono ?_
      rintro e w9 ⟨rfl, b9⟩
      have HB9 := hid (HB3.out.trans ((show Below w3.heap.size w3 w9 from HB8.out.trans (b9.mono HB8.out.size)).mono HB3.out.size))
      have e1 : (ab == ab) = true := by simp
      have e2 : (ae == ae) = true := by simp
      clear b9
      go_wp2_with fail
      refine (same_texts none 0 0 [] none 0 0 [] _ (SlA.nil _ _) (SlA.nil _ _) (by decide)).mono ?_
      rintro e w10 ⟨rfl, q, rfl⟩
      go_wp2_with fail
      go_ret
      exact ⟨rfl, below_drewN HB9.out q⟩
    · rw [HF.out] at hall; cases hall
  · have HF := hid hall
    have HB6 := hid (show Below w3.heap.size w3 w6 from HB5.out.trans (b6.mono HB5.out.size))
    have HRP := hid (show SlA w6 1 AP n1 cP _ from hxn ▸ (SlA.of_own rP).2)
    clear hall b6 rP
    go_wp2_with fail
    refine (HPB.out w6 HB6.out).mono ?_
    rintro e w7 (⟨hall, -⟩ | ⟨-, AQ, cQ, rfl, rQ, b7⟩)
    · rw [HF.out] at hall; cases hall
    have HB7 := hid (show Below w3.heap.size w3 w7 from HB6.out.trans (b7.mono HB6.out.size))
    have HRQ := hid (fun (U : World) (hb : Below w7.heap.size w7 U) => (show SlA U 1 AQ n1 cQ _ from (hxn ▸ (SlA.of_own rQ).2).ext hb))
    have HRP7 := hid (fun (U : World) (hb : Below w7.heap.size w7 U) => HRP.out.ext (b7.trans (hb.mono b7.size)))
    clear b7 rQ HRP
    generalize (patsF X (derB X x) [] x).1 = P at *
    generalize alkB X x y = ab at *
    generalize alkE X x y = ae at *
    go_wp2_with fail
    refine (HKA.out w7 HB7.out).mono ?_
    rintro e w8 ⟨rfl, b8⟩
    have HB8 := hid (show Below w3.heap.size w3 w8 from HB7.out.trans (b8.mono HB7.out.size))
    have B8 := hid b8
    clear b8
    go_wp2_with fail
    refine (HKB.out w8 HB8.out).mono ?_
    rintro e w9 ⟨rfl, b9⟩
    have HB9 := hid (HB3.out.trans ((show Below w3.heap.size w3 w9 from HB8.out.trans (b9.mono HB8.out.size)).mono HB3.out.size))
    have B9 := hid (B8.out.trans (b9.mono B8.out.size))
    have e1 : (ab == ab) = true := by simp
    have e2 : (ae == ae) = true := by simp
    clear b9
    go_wp2_with fail
    refine (same_texts AP n1 cP P AQ n1 cQ P _ (HRP7.out _ B9.out) (HRQ.out _ B9.out) (by omega)).mono ?_
    rintro e w10 ⟨rfl, q, rfl⟩
    rw [show decide (P = P) = true from decide_eq_true rfl]
    go_wp2_with fail
    go_ret
    exact ⟨rfl, below_drewN HB9.out q⟩
end Go.Proofs.YtadbgmfdbahcbaaDoor

