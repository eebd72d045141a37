import Derived.Test.YtadbgmfdbahcbaaDoorZR6
import Derived.Test.YtadbgmfdbahcbaaDoorZL2
/- deduce's law: DeduceKnows walked. -/
namespace Go.Proofs.YtadbgmfdbahcbaaDoor
open Go.RowKit Go.KK Go.Shelf Go.Maps
set_option linter.unusedVariables false
set_option linter.unusedSimpArgs false

set_option maxHeartbeats 8000000 in
set_option maxRecDepth 100000 in
theorem knows_go (A : Option Addr) (n c : Nat) (l : List ND) (A1 : Option Addr) (n1 c1 : Nat) (x : List Int) (g : Int) (w : World) (hl : NdA w A n c l) (hI : ∀ x ∈ l, NdW x) (hx : SlA w 1 A1 n1 c1 (x.map (.int .i64))) (hxi : ∀ i ∈ x, I64 i) (hg : I64 g) (hT : Tb w.heap.size w) :
    Calls Tryd.prog 6 #[.slice A n c, .slice A1 n1 c1, .int .i64 g] w fun e w' => e = .returned (.bool true) ∧ Below w.heap.size w w' := by
  have hln := hl.len
  have hxn := hx.lenI
  have HT := hid hT; have HL := hid hl; have HI := hid hI; have HX := hid hx
  have HLV := hid (live_any w hT)
  clear hT hl hI hx hxi hg
  go_enter Tryd.func6, Tryd.ntmps6
  go_wp2_with fail
  refine HLV.out.mono ?_
  rintro e w1 ⟨rfl, b1⟩
  have HB1 := hid b1
  clear b1 HLV
  go_wp2_with fail
  refine (few1_any A n c l A1 n1 c1 w1 (HL.out.ext HB1.out)).mono ?_
  rintro e w2 ⟨rfl, b2⟩
  have HB2 := hid (HB1.out.trans (b2.mono HB1.out.size))
  clear b2 HB1
  rcases hf : few5B l [n1] with _ | _
  · clear hf
    go_wp2_with fail
    go_ret
    exact ⟨rfl, HB2.out⟩
  have hfw := few5_iff.1 hf
  have hn40 : n ≤ 40 := by have := hfw.1; omega
  have h20 : n1 ≤ 20 := hfw.2.2 n1 (by simp)
  clear hf hfw
  go_wp2_with fail
  refine (two_any A n c l _ (HL.out.ext HB2.out) HI.out (Tb.up (HT.out.on HB2.out) HB2.out.size) (by omega)).mono ?_
  rintro e w3 ⟨sa, sb, Z, Z', rfl, ht⟩
  have HAA := hid ht.a.vw; have HAB := hid ht.b.vw; have HOK := hid ht.a.ok
  have HB3 := hid (HB2.out.trans (ht.bl.mono HB2.out.size))
  have hX40 : (mksT [] l).length ≤ 40 := by have := mks_len [] l; simp at this; omega
  clear ht HB2
  generalize mksT [] l = X at *
  have HXU := hid (fun (U : World) (hb : Below w3.heap.size w3 U) => HX.out.ext (HB3.out.trans (hb.mono HB3.out.size)))
  clear HX
  have HR3 := hid (Below.refl w3.heap.size w3)
  have HK1 := hid (known_any w3 sa X A1 n1 c1 x HAA.out HOK.out (uses_small HOK.out) (HXU.out _ HR3.out) (by omega))
  have HK2 := hid (fun (U : World) (hb : Below w3.heap.size w3 U) => rknown_any sb X U (HAB.out.ext hb) HOK.out (by omega) A1 n1 c1 x (HXU.out U hb) (by omega))
  have HD1 := hid (fun (U : World) (hb : Below w3.heap.size w3 U) => derives_any U sa X A1 n1 c1 x g (HAA.out.ext hb) HOK.out (uses_small HOK.out) (HXU.out U hb) (by omega))
  have HD2 := hid (fun (U : World) (hb : Below w3.heap.size w3 U) => rderives_any sb X U (HAB.out.ext hb) HOK.out A1 n1 c1 x g (HXU.out U hb) (by omega))
  have hKl := kn_len X x
  clear HAA HAB HXU
  go_wp2_with fail
  refine HK1.out.mono ?_
  rintro e w4 (⟨hall, rfl, b4⟩ | ⟨hall, AK, cK, rfl, rK, b4⟩)
  · have HF := hid hall; have HB4 := hid b4
    clear hall b4
    go_wp2_with fail
    refine (HK2.out w4 HB4.out).mono ?_
    rintro e w5 (⟨-, rfl, b5⟩ | ⟨hall, -⟩)
    · have HB5 := hid (HB4.out.trans (b5.mono HB4.out.size))
      clear b5
      generalize drvB X x g = db at *
      generalize drvE X x g = de at *
      go_wp2_with fail
      refine (HD1.out w5 HB5.out).mono ?_
      rintro e w6 ⟨rfl, b6⟩
      have HB6 := hid (HB5.out.trans (b6.mono HB5.out.size))
      clear b6
      go_wp2_with fail
      refine (HD2.out w6 HB6.out).mono ?_
      rintro e w7 ⟨rfl, b7⟩
      have HB7 := hid (HB6.out.trans (b7.mono HB6.out.size))
      have e1 : (db == db) = true := by simp
      have e2 : (de == de) = true := by simp
      clear b7
      go_wp2_with fail
      refine (same_ints none 0 0 [] none 0 0 [] _ (SlA.nil _ _) (SlA.nil _ _) (by decide) (by decide)).mono ?_
      rintro e w8 ⟨rfl, q, rfl⟩
      go_wp2_with fail
      go_ret
      exact ⟨rfl, below_drewN (HB3.out.trans (HB7.out.mono HB3.out.size)) q⟩
    · rw [HF.out] at hall; cases hall
  · have HF := hid hall; have HB4 := hid b4
    have HSK := hid (fun (U : World) (hb : Below w4.heap.size w4 U) => (SlA.of_own rK).2.ext hb)
    have HKL := hid (show (knF X x).length ≤ 40 by omega)
    clear hall b4 rK hKl
    generalize hkn : (knF X x).length = k at *
    have HKN := hid hkn
    clear hkn
    go_wp2_with fail
    refine (HK2.out w4 HB4.out).mono ?_
    rintro e w5 (⟨hall, -⟩ | ⟨-, AZ, cZ, rfl, rZ, b5⟩)
    · rw [HF.out] at hall; cases hall
    rw [HKN.out] at rZ
    rw [HKN.out]
    have HB5 := hid (HB4.out.trans (b5.mono HB4.out.size))
    have HSZ := hid (fun (U : World) (hb : Below w5.heap.size w5 U) => (SlA.of_own rZ).2.ext hb)
    have HSK5 := hid (fun (U : World) (hb : Below w5.heap.size w5 U) => HSK.out U (b5.trans (hb.mono b5.size)))
    clear b5 rZ
    generalize knF X x = K at *
    generalize drvB X x g = db at *
    generalize drvE X x g = de at *
    go_wp2_with fail
    refine (HD1.out w5 HB5.out).mono ?_
    rintro e w6 ⟨rfl, b6⟩
    have HB6 := hid (HB5.out.trans (b6.mono HB5.out.size))
    have B6 := hid b6
    clear b6
    go_wp2_with fail
    refine (HD2.out w6 HB6.out).mono ?_
    rintro e w7 ⟨rfl, b7⟩
    have HB7 := hid (HB6.out.trans (b7.mono HB6.out.size))
    have B7 := hid (B6.out.trans (b7.mono B6.out.size))
    have e1 : (db == db) = true := by simp
    have e2 : (de == de) = true := by simp
    clear b7
    have hk40 := HKL.out
    go_wp2_with fail
    refine (same_ints AK k cK K AZ k cZ K _ (HSK5.out _ B7.out) (HSZ.out _ B7.out) (by omega) (by omega)).mono ?_
    rintro e w8 ⟨rfl, q, rfl⟩
    rw [show (K == K) = true from beq_self_eq_true K]
    go_wp2_with fail
    go_ret
    exact ⟨rfl, below_drewN (HB3.out.trans (HB7.out.mono HB3.out.size)) q⟩
end Go.Proofs.YtadbgmfdbahcbaaDoor

