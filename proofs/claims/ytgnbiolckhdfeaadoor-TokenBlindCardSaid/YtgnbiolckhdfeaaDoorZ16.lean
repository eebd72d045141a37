import Derived.Test.YtgnbiolckhdfeaaDoorZ15
import Derived.Test.YtgnbiolckhdfeaaDoorZ11
import Derived.Deep.DeepCutAuto
import Derived.Maps.OwnSet
import Derived.Test.YtgnbiolckhdfeaaDoorZ14
import Derived.Test.YtgnbiolckhdfeaaDoorZ01
import Derived.ProofKit
import Derived.OpenShut
import Derived.ShutString
import Derived.ChangeOld
import Derived.Deep.Slices
import Derived.Deep.Fields
/- deduce: term (what is numbered). -/
namespace Go.KK
open Go.RowKit
set_option linter.unusedVariables false
set_option linter.unusedSimpArgs false
/-- What stands behind a term's number. -/
def tailP (xs : List ND) (I : Int → Bool) (a : List Int) (n : ND) : List UInt8 × List Int := match subO xs I n with
  | none => ([], a)
  | some l => parF (patT xs I) a l
theorem pat_num {xs : List ND} (ok : Okay xs) (I : Int → Bool) {t : Int} (ht : hasB xs t = true) (a : List Int) (h2 : (nodeF xs t).o ≠ 2) (h3 : ¬ ((nodeF xs t).o = 3 ∨ ((nodeF xs t).o ≠ 1 ∧ (nodeF xs t).l.all I = true))) :
    patT xs I a t = (nameP (nodeF xs t).o ++ (35 :: Lib.itoa (numN a t) ++ (tailP xs I (numA a t) (nodeF xs t)).1), (tailP xs I (numA a t) (nodeF xs t)).2) := by
  rw [pat_eq ok I ht a, if_neg h2, if_neg h3]
  unfold tailP
  rcases subO xs I (nodeF xs t) with _ | l
  · simp
  · simp
end Go.KK
namespace Go.Proofs.YtgnbiolckhdfeaaDoor
open Go.RowKit Go.KK Go.Shelf Go.Maps

theorem itoa_any (n : Int) (hn : I64 n) (w : World) (hT : Tb w.heap.size w) : Calls Tryd.prog 92 #[.int .i64 n] w fun e w' => ∃ S : ByteArray, e = .returned (.string S) ∧ S = ⟨(Lib.itoa n).toArray⟩ ∧ Below w.heap.size w w' := by
  refine (Tryd.strconv_Itoa n hn.1 hn.2 w hT.here).mono ?_
  rintro e w' ⟨rfl, k, os, rfl⟩
  exact ⟨_, rfl, rfl, Lib.below_grow _ _ (Nat.le_refl _) _ _⟩
theorem pws_eq {W1 U : World} {B b sp mb : Nat} {l l' : List UInt8} {num : List Int} (h : PwS W1 U B b sp mb l num) (e : l = l') : PwS W1 U B b sp mb l' num := e ▸ h
theorem bsz (l : List UInt8) : (⟨l.toArray⟩ : ByteArray).size = l.length := by show l.toArray.size = _; simp
theorem sla_lit1 {w : World} {k : Nat} {y : Int} {T : TypeId} {fz : Nat × Nat} (h : w.heap[k]? = some (.cells #[.int .i64 y] T fz)) : SlA w 1 (some ⟨k, 0, none⟩) 1 1 ([y].map (.int .i64)) :=
  ⟨Nat.le_refl _, by decide, by simp, fun j u hj => by
    match j, hj with
    | 0, hj =>
      simp at hj
      subst hj
      refine ⟨k, 0, rfl, ?_⟩
      rw [Lib.cell_of_heap h]; rfl⟩
theorem sla_sub {w : World} {b o n c i j : Nat} {l : List Int} (h1 : SlA w 1 (some ⟨b, o, none⟩) n c (l.map (.int .i64))) (hij : i ≤ j) (hj : j ≤ n) : SlA w 1 (some ⟨b, o + i, none⟩) (j - i) (c - i) (((l.drop i).take (j - i)).map (.int .i64)) := by
  have hl := h1.lenI
  have hnc := h1.nc
  have hcm := h1.cm
  refine ⟨by omega, by omega, by simp; omega, fun k u hu => ?_⟩
  rw [List.getElem?_map, List.getElem?_take, List.getElem?_drop] at hu
  split at hu
  · obtain ⟨b', off, e, hc⟩ := h1.cells (i + k) u (by rw [List.getElem?_map]; exact hu)
    injection e with e
    injection e with e1 e2
    subst e1; subst e2
    exact ⟨b, o + i, rfl, by rw [Nat.add_assoc]; exact hc⟩
  · cases hu
set_option maxHeartbeats 8000000 in
set_option maxRecDepth 100000 in
theorem wtN (W1 : World) (G R : Nat → Prop) (B b sp mb : Nat) (lv uv : Value) (xs : List ND) (s : SD) (I : Int → Bool) (t : Nat) (x : ND) (h : SpA W1 G R sp lv uv xs s) (hx : xs[t]? = some x) (k : Nat) (ho : x.o = (k : Int)) (hk : k = 1 ∨ (4 ≤ k ∧ k ≤ 12 ∧ x.l.all (inB s.i) = false)) (hT : Tb W1.heap.size W1) (hI : ∀ y, I y = inB s.i y) (hp : ∀ y ∈ x.l, WtD W1 B b sp mb xs I y) : WtD W1 B b sp mb xs I (t : Int) := by
  intro bs num w hw hlen
  have H := hid h; have HW := hid hw; have HT := hid hT
  have htx : (t : Int) < (xs.length : Int) := by have := (List.getElem?_eq_some_iff.1 hx).1; omega
  have hx5 : xs.length ≤ 100000 := h.ok.len
  have hxe : nodeF xs (t : Int) = x := by
    have := nodeF_get (xs := xs) (t := (t : Int)) (has_iff.2 ⟨by omega, htx⟩)
    rw [Int.toNat_natCast, hx] at this
    injection this with this
    exact this.symm
  have HP := hid (show patT xs I num (t : Int) = (nameP (k : Int) ++ (35 :: Lib.itoa (numN num (t : Int)) ++ (tailP xs I (numA num (t : Int)) x).1), (tailP xs I (numA num (t : Int)) x).2) by
    have := pat_num h.ok I (t := (t : Int)) (has_iff.2 ⟨by omega, htx⟩) num (by rw [hxe, ho]; rcases hk with e | e <;> omega) (by
      rw [hxe, ho]
      rintro (e | ⟨e1, e2⟩)
      · rcases hk with e' | e' <;> omega
      · rcases hk with e' | ⟨-, -, e'⟩
        · exact e1 (by omega)
        · rw [show x.l.all I = x.l.all (inB s.i) by congr 1; funext y; exact hI y, e'] at e2
          cases e2)
    rw [hxe, ho] at this
    exact this)
  have hk12 : k ≤ 12 := by rcases hk with e | e <;> omega
  have hk2 : k ≠ 2 := by rcases hk with e | e <;> omega
  have hk1' : 1 ≤ k := by rcases hk with e | e <;> omega
  have HNS := hid (nameP_le (k : Int))
  have HXH := hid (ap_has W1 G R sp lv uv xs s t x h hx)
  have HLN := hid (fun (o : Int) (m : Nat) (h1 : x.o = o) (h2 : arN o = some m) => ap_len W1 G R sp lv uv xs s t x h hx h1 h2)
  rw [HP.out] at hlen ⊢
  have hxb := ap_bound W1 G R sp lv uv xs s t x h hx
  obtain ⟨D0m, hDm, hNBm⟩ := hw.map
  have hnl := hNBm.le
  have HNN := hid (numN_le num (t : Int))
  obtain ⟨bn, on, cn, A', c', rfl, hcell, hkl⟩ := h.keep hx
  obtain ⟨y0, y1, y2, y3⟩ := hcell w hw.low.size fun b hb _ => hw.low.block b hb
  rw [ho] at y0
  obtain ⟨iv, ov, ⟨c0, -⟩, -⟩ := (h.ext hw.low).cells
  have q2 := hw.wr.cell2
  have HKL := hid (fun (U : World) (hb : Below W1.heap.size W1 U) => hkl.here.ext hb)
  have HPP := hid hp; have HK := hid hk; have HII := hid hI; have HXE := hid hxe
  have HLE := hid (show bs.length + ((nameP (k : Int)).length + (1 + (Lib.itoa (numN num (t : Int))).length + (tailP xs I (numA num (t : Int)) x).1.length)) ≤ 100000000000000 by
    simp only [List.length_append, List.length_cons] at hlen
    omega)
  have hbw := hw.wr.lt
  have HO := hid ho
  have HX := hid hx
  clear h hx hcell hkl hw hlen ho hxe hp hk hI hT hDm hNBm D0m
  go_enter Tryd.func77, Tryd.ntmps77
  have hk2' : ((k : Int) == 2) = false := beq_eq_false_iff_ne.2 (by omega)
  go_upto_region 4 with fail
  refine forget (R := fun V => PwS W1 V B b sp mb bs num ∧ Oth b w V ∧ (∃ C1 z1 C2 z2, V.heap[w.heap.size]? = some (.cells C1 58 z1) ∧ V.heap[w.heap.size + 1]? = some (.cells C2 136 z2)) ∧ V.cell? ⟨w.heap.size, 0, none⟩ = some (.int .i64 k) ∧ V.cell? ⟨w.heap.size, 3, none⟩ = some (.slice A' x.l.length c') ∧ V.cell? ⟨w.heap.size + 1, k, none⟩ = some (.string ⟨(nameP (k : Int)).toArray⟩)) ?_ ⟨?_, ?_, ?_, ?_, ?_, ?_⟩
  rotate_left
  · exact HW.out.put ((HW.out.wr.ext ((Below.refl _ _).alloc (Nat.le_refl _) _)).ext ((Below.refl _ _).alloc (Nat.le_refl _) _)) ((((Below.refl _ _).alloc (Nat.le_refl _) _).alloc (by simp) _).mono HW.out.lo.2.2)
  · exact Oth.below (((Below.refl _ _).alloc (Nat.le_refl _) _).alloc (by simp) _)
  · have h2 := heap_alloc_new (w.alloc (.cells #[.int .i64 k, .int .i64 x.n, .string x.s, .slice A' x.l.length c'] 58)) (.cells #[.string ⟨#[]⟩, .string ⟨#[97, 116, 111, 109]⟩, .string ⟨#[]⟩, .string ⟨#[108, 105, 115, 116]⟩, .string ⟨#[104, 97, 115, 104]⟩, .string ⟨#[109, 105, 120]⟩, .string ⟨#[107, 101, 121]⟩, .string ⟨#[112, 117, 98]⟩, .string ⟨#[115, 101, 97, 108]⟩, .string ⟨#[101, 110, 99]⟩, .string ⟨#[115, 105, 103]⟩, .string ⟨#[109, 97, 99]⟩, .string ⟨#[98, 108, 105, 110, 100]⟩] 136)
    rw [show (w.alloc (.cells #[.int .i64 k, .int .i64 x.n, .string x.s, .slice A' x.l.length c'] 58)).heap.size = w.heap.size + 1 by simp] at h2
    exact ⟨_, (0, 0), _, (0, 0), (heap_alloc_old _ _ (by simp)).trans (heap_alloc_new w _), h2⟩
  · rw [World.cell?_alloc_old _ _ _ (by simp), World.cell?_alloc_at _ _ _ _ rfl]; rfl
  · rw [World.cell?_alloc_old _ _ _ (by simp), World.cell?_alloc_at _ _ _ _ rfl]; rfl
  · have := name_cellP (w := w.alloc (.cells #[.int .i64 k, .int .i64 x.n, .string x.s, .slice A' x.l.length c'] 58)) (T := 136) (k := k) hk1' hk2 hk12
    rw [show (w.alloc (.cells #[.int .i64 k, .int .i64 x.n, .string x.s, .slice A' x.l.length c'] 58)).heap.size = w.heap.size + 1 by simp] at this
    exact this
  clear y0 y1 y2 y3 c0 q2
  rintro V ⟨hv, hov, ⟨C1, z1, C2, z2, hb1, hb2⟩, q0, q3, q1⟩
  have HV := hid hv; have HOV := hid hov; have HN1 := hid hb1; have HN2 := hid hb2
  have Q3 := hid q3; have Q0 := hid q0; have Q1 := hid q1
  have hne : w.heap.size ≠ b := by omega
  have hne2 : w.heap.size + 1 ≠ b := by omega
  have HCE := hid (fun (U : World) (hu : Oth b V U) => (show U.cell? ⟨w.heap.size, 0, none⟩ = some (.int .i64 k) ∧ U.cell? ⟨w.heap.size, 3, none⟩ = some (.slice A' x.l.length c') ∧ U.cell? ⟨w.heap.size + 1, k, none⟩ = some (.string ⟨(nameP (k : Int)).toArray⟩) from
    ⟨hu.cell hb1 (by decide) hne q0, hu.cell hb1 (by decide) hne q3, hu.cell hb2 (by decide) hne2 q1⟩))
  have D0 := hid (below_drew (Below.refl V.heap.size V))
  have hk0 : (0 : Int) ≤ (k : Int) := by omega
  have hk13 : (k : Int) < 13 := by omega
  have hk3 : ((k : Int) == 3) = false := beq_eq_false_iff_ne.2 (by rcases HK.out with e | e <;> omega)
  clear hv hov hb1 hb2
  go_cut [38] (fun v U => PwS W1 U B b sp mb (bs ++ nameP (k : Int)) num ∧ Oth b V U)
  case first =>
    go_region_held3 (fun U => U.cell? ⟨w.heap.size, 0, none⟩ = some (.int .i64 k) ∧ U.cell? ⟨w.heap.size + 1, k, none⟩ = some (.string ⟨(nameP (k : Int)).toArray⟩)) (first | exact ⟨q06, q16⟩ | exact ⟨q0, q1⟩ | go_keep) (first
      | (go_at_call 89; refine (wstr_pw ⟨(nameP (k : Int)).toArray⟩ (HV.out.put (HV.out.wr.ext D0.out) (D0.out.mono HV.out.lo.2.2)) (by have := HLE.out; simp; omega)).mono ?_; rintro e6 w6 ⟨rfl, h6, o6⟩; have H6 := hid h6; have O6 := hid ((Oth.below D0.out).trans o6); have q06 := ((Oth.below D0.out).trans o6).cell HN1.out (by decide) hne Q0.out; have q16 := ((Oth.below D0.out).trans o6).cell HN2.out (by decide) hne2 Q1.out; clear h6 o6))
    all_goals
      go_wp2_with fail
      go_meet
      exact ⟨by have := H6.out; simpa using this, O6.out⟩
  case rest =>
    obtain ⟨h6, o6⟩ := hcut
    obtain ⟨w6, rfl⟩ : ∃ w6, w6 = wc := ⟨_, rfl⟩
    have H6 := hid h6; have O6 := hid o6
    obtain ⟨q06, q36, -⟩ := HCE.out _ o6
    have HAL := hid (fun (U : World) (hb : Below w6.heap.size w6 U) => all_any U G R sp _ uv xs s A' x.l.length c' x.l ((H.out.ext h6.low).ext hb) ((HKL.out w6 h6.low).ext hb) HXH.out (by omega))
    have p2 := h6.wr.cell2
    clear h6 o6 D0 q0 q3 q1 HV HW
    have DZ := hid (Below.refl w6.heap.size w6)
    go_upto_region 5 with fail
    go_cut [55] (fun v U => v = .bool false ∧ Below w6.heap.size w6 U)
    case first =>
      by_cases hk1 : k = 1
      · have hk1n : ((k : Int) != 1) = false := by rw [hk1]; rfl
        go_quiet (fail)
        go_wp2_with fail
        go_meet
        exact ⟨rfl, by first | exact DZ.out | exact below_drew DZ.out | exact below_drewN DZ.out _⟩
      · have hk1n : ((k : Int) != 1) = true := by rw [bne_iff_ne]; omega
        have HALL := hid (show x.l.all (inB s.i) = false from HK.out.elim (fun e => absurd e hk1) fun e => e.2.2)
        go_region_with (first
          | (go_at_call 90; refine (HAL.out _ (by first | exact DZ.out | exact below_drew DZ.out | exact below_drewN DZ.out _)).mono ?_; rintro e7 w7 ⟨rfl, b7⟩; rw [HALL.out]; have D7 := hid ((show Below w6.heap.size w6 w7 from (by first | exact DZ.out.trans b7 | exact (below_drew DZ.out).trans b7 | exact (below_drewN DZ.out _).trans b7))); clear b7))
        all_goals
          go_wp2_with fail
          go_meet
          exact ⟨rfl, by first | exact D7.out | exact below_drew D7.out | exact below_drewN D7.out _⟩
    case rest =>
      obtain ⟨rfl, h7⟩ := hcut
      obtain ⟨w7, rfl⟩ : ∃ w7, w7 = wc := ⟨_, rfl⟩
      have H7 := hid (H6.out.put (H6.out.wr.ext h7) (h7.mono H6.out.lo.2.2))
      have O7 := hid (O6.out.trans (Oth.below h7))
      clear h7 H6 O6 HAL DZ p2 q06 q36
      obtain ⟨D, hD, hNB⟩ := H7.out.map
      have HD := hid hD; have HNB := hid hNB
      have hti : I64 (t : Int) := ⟨by omega, by omega⟩
      have HKEY := hid (key_i64 hti)
      have q2 := H7.out.wr.cell2
      have q3 := H7.out.wr.cell3
      obtain ⟨hb, hbe⟩ : ∃ hb : Bool, hb = decide ((t : Int) ∈ num) := ⟨_, rfl⟩
      have HH := hid (show Maps.has D (.int .i64 (t : Int)) = hb by rw [hNB.h, hbe])
      have HBE := hid hbe
      clear hD hNB hbe hti
      go_upto_if 70 with (first
        | (at_lookup; refine wpList_lookup_own_ok_int _ rfl _ _ 119 rfl 3 3 .i64 lawIn Tryd.underlying119 Tryd.underlying3 (zeroI _) mb _ D rfl HD.out _ _ rfl HKEY.out ?_; intro cc hat hwc; rw [HH.out]; have HCC := hid (fun (hm : (t : Int) ∈ num) => (show cc = ((numN num (t : Int) : Nat) : Int) by rw [HNB.out.a _ hm] at hat; injection hat with hat; injection hat with _ hat; rw [← hat]; unfold numN; rw [if_pos hm])); clear hat hwc)
        | fail)
      go_cut [6, 7] (fun v v7 U => v = .int .i64 (numN num (t : Int) : Nat) ∧ PwS W1 U B b sp mb (bs ++ nameP (k : Int)) (numA num (t : Int)) ∧ Oth b w7 U)
      case first =>
        rcases hbb : hb with _ | _
        · have HM := hid (show ¬ (t : Int) ∈ num by have := HBE.out; rw [hbb] at this; exact of_decide_eq_false this.symm)
          have HZ := hid HNB.out.z
          subst hb
          go_wp2_with (first
            | (at_len; refine wpList_len_own _ rfl _ 119 rfl 3 3 Tryd.underlying119 _ mb _ D rfl HD.out ?_; rw [HZ.out])
            | (at_mapUpdate; refine wpList_mapUpdate_own _ rfl _ _ _ 119 rfl 3 3 lawIn Tryd.underlying119 _ mb num.length D rfl HD.out (by unfold maxLen; omega) _ _ (.int .i64 (t : Int)) rfl rfl HKEY.out (.lit (.int .i64 (num.length : Nat))) [] (plainElem_int Tryd.underlying3 (wf_i64 ⟨by omega, by omega⟩)) ?_; intro w9 ho9 hg9; have HO9 := hid ho9; have HG9 := hid hg9; clear ho9 hg9)
            | fail)
          go_meet
          have hr := H7.out.num HNB.out HM.out ⟨by omega, by omega⟩ HG9.out HO9.out
          refine ⟨?_, ?_, hr.2⟩
          · unfold numN; rw [if_neg HM.out]
          · unfold numA; rw [if_neg HM.out]; exact hr.1
        · have HM := hid (show (t : Int) ∈ num by have := HBE.out; rw [hbb] at this; exact of_decide_eq_true this.symm)
          subst hb
          go_wp2_with fail
          go_meet
          refine ⟨by rw [HCC.out HM.out], ?_, Oth.refl _ _⟩
          unfold numA; rw [if_pos HM.out]; exact H7.out
      case rest =>
        obtain ⟨rfl, h8, o8⟩ := hcut
        obtain ⟨w8, rfl⟩ : ∃ w8, w8 = wc := ⟨_, rfl⟩
        have H8 := hid h8; have O8 := hid (O7.out.trans o8)
        have HTB := hid (fun (U : World) (hb : Below w8.heap.size w8 U) => (show Tb U.heap.size U from
          have hb1 : Below W1.heap.size W1 U := h8.low.trans (hb.mono h8.low.size)
          Tb.up (HT.out.on hb1) hb1.size))
        have DZ := hid (Below.refl w8.heap.size w8)
        have HNI := hid (show I64 ((numN num (t : Int) : Nat) : Int) by have := HNN.out; exact ⟨by omega, by omega⟩)
        have HIT := hid (show (Lib.itoa ((numN num (t : Int) : Nat) : Int)).length ≤ 21 by have := HNI.out; exact itoa_le _ this.1 this.2)
        generalize hnn : ((numN num (t : Int) : Nat) : Int) = nn at *
        have HNQ := hid hnn
        clear hnn
        clear h8 o8 H7 O7 HD HNB HKEY HH HBE HCC hnl q2 q3
        go_upto_region 11 with fail
        go_cut [88] (fun v U => PwS W1 U B b sp mb (bs ++ nameP (k : Int) ++ 35 :: Lib.itoa nn) (numA num (t : Int)) ∧ Oth b w8 U)
        case first =>
          go_region_with (first
            | (go_at_call 92; refine (itoa_any nn HNI.out _ (HTB.out _ (by first | exact DZ.out | exact below_drew DZ.out | exact below_drewN DZ.out _))).mono ?_; rintro e5 w5 ⟨S5, rfl, hS5, b5⟩; have D5 := hid ((show Below w8.heap.size w8 w5 from (by first | exact DZ.out.trans b5 | exact (below_drew DZ.out).trans b5 | exact (below_drewN DZ.out _).trans b5))); have HS5 := hid hS5; have hz5 := hid (show S5.size ≤ 21 by rw [hS5, bsz]; exact HIT.out); have hcat : ¬ 9223372036854775807 < 1 + S5.size := (by have := hz5.out; omega); clear b5 hS5)
            | (go_at_call 89; refine (wstr_pw _ (H8.out.put (H8.out.wr.ext (by first | exact D5.out | exact below_drew D5.out | exact below_drewN D5.out _)) ((by first | exact D5.out | exact below_drew D5.out | exact below_drewN D5.out _ : Below w8.heap.size w8 _).mono H8.out.lo.2.2)) (by have h1 := HLE.out; have h2 := hz5.out; rw [HS5.out]; simp only [ByteArray.data_append, List.length_append, Array.toList_append, Array.length_toList]; simp; omega)).mono ?_; rintro e6 w6 ⟨rfl, h6, o6⟩; have H6 := hid h6; have O6 := hid ((Oth.below (by first | exact D5.out | exact below_drew D5.out | exact below_drewN D5.out _ : Below w8.heap.size w8 _)).trans o6); clear h6 o6))
          all_goals
            go_wp2_with fail
            go_meet
            refine ⟨?_, O6.out⟩
            have := H6.out
            rw [HS5.out] at this
            simpa [ByteArray.data_append] using this
        case rest =>
          obtain ⟨h9, o9⟩ := hcut
          obtain ⟨w9, rfl⟩ : ∃ w9, w9 = wc := ⟨_, rfl⟩
          have H9 := hid h9; have O9 := hid (O8.out.trans o9)
          obtain ⟨q0, q3, -⟩ := HCE.out _ O9.out
          have OW := hid (HOV.out.trans O9.out)
          clear h9 o9 H8 O8 DZ HTB HNI HIT HNS HNN HN1 HN2 Q3 Q0 Q1
          by_cases h10 : k = 10
          · subst h10
            obtain ⟨ea, eb, hl⟩ := two_of_len (HLN.out 10 2 HO.out rfl)
            have hsl := HKL.out w9 H9.out.low
            rw [hl] at hsl q3
            obtain ⟨ba, oa, y, rfl, hy, e1⟩ := hsl.elemI (k := 1) (by simp)
            injection hy with hy
            subst hy
            have hc2 : 2 ≤ c' := hsl.nc
            have q3' : w9.cell? ⟨w.heap.size, 3, none⟩ = some (.slice (some ⟨ba, oa, none⟩) 2 c') := q3
            have q0' : w9.cell? ⟨w.heap.size, 0, none⟩ = some (.int .i64 10) := q0
            have HTL := hid (show tailP xs I (numA num (t : Int)) x = parF (patT xs I) (numA num (t : Int)) [eb] by
              unfold tailP subO
              rw [HO.out, if_pos (by rfl), hl]
              rfl)
            have HAL := hid (show Below w9.heap.size w9 (w9.alloc (.cells #[.int .i64 eb] 3)) from (Below.refl _ _).alloc (Nat.le_refl _) _)
            have HPA := hid (parts_pw W1 (w9.alloc (.cells #[.int .i64 eb] 3)) B b sp mb xs I (bs ++ nameP ((10 : Nat) : Int) ++ 35 :: Lib.itoa nn) (numA num (t : Int)) (some ⟨w9.heap.size, 0, none⟩) 1 1 [eb] (H9.out.put (H9.out.wr.ext HAL.out) (HAL.out.mono H9.out.lo.2.2)) (fun U _ ho => sla_lit1 ((ho w9.heap.size #[.int .i64 eb] 3 (0, 0) (heap_alloc_new w9 _) (by decide) (by have := H9.out.wr.lt; omega)).trans (heap_alloc_new w9 _))) (fun z hz => HPP.out z (by rw [hl]; simp at hz ⊢; exact .inr hz)) (by have h1 := HLE.out; rw [HTL.out] at h1; simp only [List.length_append, List.length_cons] at h1 ⊢; omega) (by decide))
            clear hsl q3 q0
            go_wp2_with fail
            refine HPA.out.mono ?_
            rintro e wf ⟨rfl, hf, of⟩
            have HF := hid hf
            have OF := hid (OW.out.trans ((Oth.below HAL.out).trans of))
            clear hf of
            go_wp2_with fail
            go_end0
            refine ⟨rfl, ?_, OF.out⟩
            rw [HTL.out]
            have := HF.out
            rw [← HNQ.out] at this
            simpa using this
          by_cases h9 : k = 9
          · subst h9
            obtain ⟨ea, eb, ec, ed, hl⟩ := four_of_len (HLN.out 9 4 HO.out rfl)
            have hsl := HKL.out w9 H9.out.low
            rw [hl] at hsl q3
            obtain ⟨ba, oa, y, rfl, hy, e0⟩ := hsl.elemI (k := 0) (by simp)
            injection hy with hy
            subst hy
            have ha2 := has_iff.1 (HXH.out ea (by rw [hl]; simp))
            obtain ⟨ka, rfl⟩ := Int.eq_ofNat_of_zero_le ha2.1
            have hc4 : 4 ≤ c' := hsl.nc
            have q3' : w9.cell? ⟨w.heap.size, 3, none⟩ = some (.slice (some ⟨ba, oa, none⟩) 4 c') := q3
            have q0' : w9.cell? ⟨w.heap.size, 0, none⟩ = some (.int .i64 9) := q0
            have e0' : w9.cell? ⟨ba, oa, none⟩ = some (.int .i64 (ka : Int)) := e0
            have HSL := hid (fun (U : World) (hb : Below W1.heap.size W1 U) => (show SlA U 1 (some ⟨ba, oa + 1, none⟩) 3 (c' - 1) ([eb, ec, ed].map (.int .i64)) from by
              have := HKL.out U hb
              rw [hl] at this
              exact sla_sub (i := 1) (j := 4) this (by decide) (by simp)))
            obtain ⟨iv2, ov2, ⟨c0, c1, c2, c3⟩, -, own1, -⟩ := (H.out.ext H9.out.low).cells
            have hlen := H.out.len
            obtain ⟨ib, cap, rfl, hcb, hfb⟩ := in_cell own1 (t := ka) (by omega)
            have hki : (ka : Int) < (s.i.length : Int) := by omega
            have q2 := H9.out.wr.cell2
            have HTL := hid (show tailP xs I (numA num (t : Int)) x = if inB s.i (ka : Int) = true then parF (patT xs I) (numA num (t : Int)) [eb, ec, ed] else ([], numA num (t : Int)) by
              have e : subO xs I x = if inB s.i (ka : Int) = true then some [eb, ec, ed] else none := by
                unfold subO
                rw [HO.out, if_neg (by decide), if_pos (by decide), hl, ← HII.out]
                rfl
              unfold tailP
              rw [e]
              rcases inB s.i (ka : Int) with _ | _ <;> rfl)
            have DZ := hid (Below.refl w9.heap.size w9)
            have HPX := hid (fun z (hz : z ∈ [eb, ec, ed]) => HPP.out z (by rw [hl]; exact List.mem_cons_of_mem _ hz))
            clear hsl q3 q0 e0 own1 hl ha2 hlen
            rcases hin : inB s.i (ka : Int) with _ | _
            · rw [hin] at hcb
              have HTF := hid (show tailP xs I (numA num (t : Int)) x = ([], numA num (t : Int)) by rw [HTL.out, hin]; rfl)
              clear hin HTL
              go_upto_region 16 with fail
              go_quiet (fail)
              go_wp2_with fail
              go_end0
              refine ⟨rfl, ?_, OW.out.trans (Oth.below (by first | exact below_drewN DZ.out _ | exact below_drew DZ.out | exact DZ.out))⟩
              rw [HTF.out]
              refine pws_eq (H9.out.put (H9.out.wr.ext ?_) (Below.mono ?_ H9.out.lo.2.2)) (by rw [← HNQ.out]; simp)
              all_goals first | exact below_drewN DZ.out _ | exact below_drew DZ.out | exact DZ.out
            · rw [hin] at hcb
              have HTF := hid (show tailP xs I (numA num (t : Int)) x = parF (patT xs I) (numA num (t : Int)) [eb, ec, ed] by rw [HTL.out, hin]; rfl)
              have HPA := hid (fun (U : World) (hb : Below w9.heap.size w9 U) => parts_pw W1 U B b sp mb xs I (bs ++ nameP ((9 : Nat) : Int) ++ 35 :: Lib.itoa nn) (numA num (t : Int)) (some ⟨ba, oa + 1, none⟩) 3 (c' - 1) [eb, ec, ed] (H9.out.put (H9.out.wr.ext hb) (hb.mono H9.out.lo.2.2)) (fun U hb' _ => HSL.out U hb') HPX.out (by have h1 := HLE.out; rw [HTF.out] at h1; simp only [List.length_append, List.length_cons] at h1 ⊢; omega) (by decide))
              have hcut := run_cut1 (b := ba) (o := oa) (n := 4) (c := c') (by omega) (by decide)
              clear hin HTL
              go_upto_region 16 with fail
              go_quiet (fail)
              go_wp2_with fail
              refine (HPA.out _ (by first | exact below_drewN DZ.out _ | exact below_drew DZ.out | exact DZ.out)).mono ?_
              rintro e wf ⟨rfl, hf, of⟩
              have HF := hid hf
              have OF := hid (OW.out.trans ((Oth.below (by first | exact below_drewN DZ.out _ | exact below_drew DZ.out | exact DZ.out)).trans of))
              clear hf of
              go_wp2_with fail
              go_end0
              refine ⟨rfl, ?_, OF.out⟩
              rw [HTF.out]
              have := HF.out
              rw [← HNQ.out] at this
              simpa using this
          by_cases h8 : k = 8
          · subst h8
            obtain ⟨ea, eb, ec, ed, hl⟩ := four_of_len (HLN.out 8 4 HO.out rfl)
            have hsl := HKL.out w9 H9.out.low
            rw [hl] at hsl q3
            obtain ⟨ba, oa, y, rfl, hy, e0⟩ := hsl.elemI (k := 0) (by simp)
            injection hy with hy
            subst hy
            have hah := HXH.out ea (by rw [hl]; simp)
            have ha2 := has_iff.1 hah
            obtain ⟨ka, rfl⟩ := Int.eq_ofNat_of_zero_le ha2.1
            have hc4 : 4 ≤ c' := hsl.nc
            have q3' : w9.cell? ⟨w.heap.size, 3, none⟩ = some (.slice (some ⟨ba, oa, none⟩) 4 c') := q3
            have q0' : w9.cell? ⟨w.heap.size, 0, none⟩ = some (.int .i64 8) := q0
            have e0' : w9.cell? ⟨ba, oa, none⟩ = some (.int .i64 (ka : Int)) := e0
            have HSL := hid (fun (U : World) (hb : Below W1.heap.size W1 U) => (show SlA U 1 (some ⟨ba, oa + 1, none⟩) 2 (c' - 1) ([eb, ec].map (.int .i64)) from by
              have := HKL.out U hb
              rw [hl] at this
              exact sla_sub (i := 1) (j := 3) this (by decide) (by simp)))
            have hkx : (ka : Int) < (xs.length : Int) := by omega
            have hy := nodeF_get hah
            rw [Int.toNat_natCast] at hy
            have HTL := hid (show tailP xs I (numA num (t : Int)) x = if (nodeF xs (ka : Int)).o = 7 ∧ inB s.i ((nodeF xs (ka : Int)).l.getD 0 0) = true then parF (patT xs I) (numA num (t : Int)) [eb, ec] else ([], numA num (t : Int)) by
              have e : subO xs I x = if (nodeF xs (ka : Int)).o = 7 ∧ inB s.i ((nodeF xs (ka : Int)).l.getD 0 0) = true then some [eb, ec] else none := by
                unfold subO
                rw [HO.out, if_neg (by decide), if_neg (by decide), if_pos (by decide), hl, ← HII.out]
                rfl
              unfold tailP
              by_cases hc : (nodeF xs (ka : Int)).o = 7 ∧ inB s.i ((nodeF xs (ka : Int)).l.getD 0 0) = true
              · rw [e, if_pos hc, if_pos hc]
              · rw [e, if_neg hc, if_neg hc])
            have HPX := hid (fun z (hz : z ∈ [eb, ec]) => HPP.out z (by rw [hl]; simp at hz ⊢; rcases hz with rfl | rfl <;> simp))
            have HY := hid hy
            have HYH := hid (ap_has W1 G R sp _ uv xs s ka _ H.out hy)
            have HYL := hid (fun (ho : (nodeF xs (ka : Int)).o = 7) => ap_len W1 G R sp _ uv xs s ka _ H.out hy (o := 7) (k := 1) ho rfl)
            generalize nodeF xs (ka : Int) = y at *
            obtain ⟨bn2, on2, cn2, A2, k2, e, hcell, hkl2⟩ := H.out.keep HY.out
            injection e with e _ e3
            injection e with e
            injection e with e e'
            subst e; subst e'; subst e3
            obtain ⟨z0, z1, z2, z3⟩ := hcell w9 H9.out.low.size fun b hb _ => H9.out.low.block b hb
            have HK2 := hid hkl2
            obtain ⟨iv2, ov2, ⟨c0, c1, c2, c3⟩, -⟩ := (H.out.ext H9.out.low).cells
            have q2 := H9.out.wr.cell2
            have HPK := hid (fun (U : World) (hb : Below w9.heap.size w9 U) =>
              have up : ∀ {p : Addr} {u : Value}, w9.cell? p = some u → U.cell? p = some u := fun h => (hb.cell (p := _) (block_lt_of_cell h)).trans h
              (show U.cell? ⟨b, 2, none⟩ = some (.pointer (some ⟨sp, 0, none⟩)) ∧ U.cell? ⟨sp, 0, none⟩ = some (.slice (some ⟨bn, on, none⟩) xs.length cn) ∧ U.cell? ⟨w.heap.size, 3, none⟩ = some (.slice (some ⟨ba, oa, none⟩) 4 c') ∧ U.cell? ⟨ba, oa, none⟩ = some (.int .i64 ka) ∧ U.cell? ⟨bn, on + ka * 4, none⟩ = some (.int .i64 y.o) ∧ U.cell? ⟨bn, on + ka * 4 + 1, none⟩ = some (.int .i64 y.n) ∧ U.cell? ⟨bn, on + ka * 4 + 2, none⟩ = some (.string y.s) ∧ U.cell? ⟨bn, on + ka * 4 + 3, none⟩ = some (.slice A2 y.l.length k2) from
                ⟨up q2, up c0, up q3', up e0', up z0, up z1, up z2, up z3⟩))
            have DZ := hid (Below.refl w9.heap.size w9)
            have DA := hid (DZ.out.alloc (Nat.le_refl _) (.cells #[.int .i64 0, .int .i64 0, .string ⟨#[]⟩, .slice none 0 0] 58))
            clear hsl q3 q0 e0 hl ha2 hah hy hcell hkl2 c1 c2 c3
            go_upto_region 19 with fail
            go_cut [8] (fun v U => v = .pointer (some ⟨w9.heap.size, 0, none⟩) ∧ Below w9.heap.size w9 U ∧ U.ownsRow w9.heap.size 58 4 (.slice (some ⟨w9.heap.size, 0, none⟩) 1 1) 1 [.int .i64 y.o, .int .i64 y.n, .string y.s, .slice A2 y.l.length k2])
            case first =>
              go_region_held3 (fun U => U.cell? ⟨b, 2, none⟩ = some (.pointer (some ⟨sp, 0, none⟩)) ∧ U.cell? ⟨sp, 0, none⟩ = some (.slice (some ⟨bn, on, none⟩) xs.length cn) ∧ U.cell? ⟨w.heap.size, 3, none⟩ = some (.slice (some ⟨ba, oa, none⟩) 4 c') ∧ U.cell? ⟨ba, oa, none⟩ = some (.int .i64 ka) ∧ U.cell? ⟨bn, on + ka * 4, none⟩ = some (.int .i64 y.o) ∧ U.cell? ⟨bn, on + ka * 4 + 1, none⟩ = some (.int .i64 y.n) ∧ U.cell? ⟨bn, on + ka * 4 + 2, none⟩ = some (.string y.s) ∧ U.cell? ⟨bn, on + ka * 4 + 3, none⟩ = some (.slice A2 y.l.length k2)) (first | exact HPK.out _ DZ.out | exact HPK.out _ (below_drew DZ.out) | exact HPK.out _ DA.out | exact HPK.out _ (below_drew DA.out) | exact HPK.out _ (below_drew (DZ.out.alloc (Nat.le_refl _) _)) | go_keep) (first | fail)
              all_goals
                go_wp2_with fail
                go_meet
                first
                  | exact ⟨rfl, below_drew ((Below.refl _ _).alloc (Nat.le_refl _) _), own_block boxN fun _ _ => rfl⟩
                  | exact ⟨rfl, below_drewN ((Below.refl _ _).alloc (Nat.le_refl _) _) _, own_block boxN fun _ _ => rfl⟩
                  | exact ⟨rfl, (Below.refl _ _).alloc (Nat.le_refl _) _, boxN⟩
            case rest =>
              obtain ⟨rfl, hb2, hp4⟩ := hcut
              obtain ⟨w10, rfl⟩ : ∃ w10, w10 = wc := ⟨_, rfl⟩
              clear c0 z0 z1 z2 z3 e0' q2 DZ DA HPK
              have HB2 := hid hb2; have HP4 := hid hp4
              have q3u : w10.cell? ⟨w.heap.size, 3, none⟩ = some (.slice (some ⟨ba, oa, none⟩) 4 c') := (hb2.cell (p := _) (block_lt_of_cell q3')).trans q3'
              obtain ⟨⟨p0, p1, p2, p3⟩, -⟩ := box4 hp4
              have HW10 := hid (H9.out.put (H9.out.wr.ext hb2) (hb2.mono H9.out.lo.2.2))
              have OZ := hid (OW.out.trans (Oth.below hb2))
              have q2u := HW10.out.wr.cell2
              have DZ := hid (Below.refl w10.heap.size w10)
              clear hb2 hp4 q3'
              by_cases hyo : y.o = 7
              · obtain ⟨k0, hyl⟩ := one_of_len (HYL.out hyo)
                have hsy := HK2.out.here.ext HW10.out.low
                rw [hyl] at hsy p3
                obtain ⟨by', oy, z, rfl, hz, f0⟩ := hsy.elemI (k := 0) (by simp)
                injection hz with hz
                subst hz
                have hk2 := has_iff.1 (HYH.out k0 (by rw [hyl]; simp))
                obtain ⟨q, rfl⟩ := Int.eq_ofNat_of_zero_le hk2.1
                rw [hyo] at p0
                have f0' : w10.cell? ⟨by', oy, none⟩ = some (.int .i64 (q : Int)) := f0
                have p3' : w10.cell? ⟨w9.heap.size, 3, none⟩ = some (.slice (some ⟨by', oy, none⟩) 1 k2) := p3
                obtain ⟨iv3, ov3, ⟨c0, c1, c2, c3⟩, -, own1, -⟩ := (H.out.ext HW10.out.low).cells
                have hlen := H.out.len
                obtain ⟨ib, cap, rfl, hcb, hfb⟩ := in_cell own1 (t := q) (by omega)
                have hqi : (q : Int) < (s.i.length : Int) := by omega
                have HTL2 := hid (show tailP xs I (numA num (t : Int)) x = if inB s.i (q : Int) = true then parF (patT xs I) (numA num (t : Int)) [eb, ec] else ([], numA num (t : Int)) by
                  rw [HTL.out, hyo, hyl]
                  show (if (7 : Int) = 7 ∧ inB s.i (q : Int) = true then _ else _) = _
                  simp)
                clear hsy p3 f0 own1 hlen hk2 hyl hyo HTL
                rcases hin : inB s.i (q : Int) with _ | _
                · rw [hin] at hcb
                  have HTF := hid (show tailP xs I (numA num (t : Int)) x = ([], numA num (t : Int)) by rw [HTL2.out, hin]; rfl)
                  clear hin HTL2
                  go_upto_region 20 with fail
                  go_quiet (fail)
                  go_wp2_with fail
                  go_end0
                  refine ⟨rfl, ?_, OZ.out.trans (Oth.below (by first | exact below_drewN DZ.out _ | exact below_drew DZ.out | exact DZ.out))⟩
                  rw [HTF.out]
                  refine pws_eq (HW10.out.put (HW10.out.wr.ext ?_) (Below.mono ?_ HW10.out.lo.2.2)) (by rw [← HNQ.out]; simp)
                  all_goals first | exact below_drewN DZ.out _ | exact below_drew DZ.out | exact DZ.out
                · rw [hin] at hcb
                  have HTF := hid (show tailP xs I (numA num (t : Int)) x = parF (patT xs I) (numA num (t : Int)) [eb, ec] by rw [HTL2.out, hin]; rfl)
                  have HPA := hid (fun (U : World) (hb : Below w10.heap.size w10 U) => parts_pw W1 U B b sp mb xs I (bs ++ nameP ((8 : Nat) : Int) ++ 35 :: Lib.itoa nn) (numA num (t : Int)) (some ⟨ba, oa + 1, none⟩) 2 (c' - 1) [eb, ec] (HW10.out.put (HW10.out.wr.ext hb) (hb.mono HW10.out.lo.2.2)) (fun U hb' _ => HSL.out U hb') HPX.out (by have h1 := HLE.out; rw [HTF.out] at h1; simp only [List.length_append, List.length_cons] at h1 ⊢; omega) (by decide))
                  have hcut := run_cut13 (b := ba) (o := oa) (n := 4) (c := c') (by omega)
                  clear hin HTL2
                  go_upto_region 20 with fail
                  go_quiet (fail)
                  go_wp2_with fail
                  refine (HPA.out _ (by first | exact below_drewN DZ.out _ | exact below_drew DZ.out | exact DZ.out)).mono ?_
                  rintro e wf ⟨rfl, hf, of⟩
                  have HF := hid hf
                  have OF := hid (OZ.out.trans ((Oth.below (by first | exact below_drewN DZ.out _ | exact below_drew DZ.out | exact DZ.out)).trans of))
                  clear hf of
                  go_wp2_with fail
                  go_end0
                  refine ⟨rfl, ?_, OF.out⟩
                  rw [HTF.out]
                  have := HF.out
                  rw [← HNQ.out] at this
                  simpa using this
              · have hyo' : (y.o == 7) = false := beq_eq_false_iff_ne.2 hyo
                have HTF := hid (show tailP xs I (numA num (t : Int)) x = ([], numA num (t : Int)) by rw [HTL.out, if_neg fun h => hyo h.1])
                clear hyo HTL
                go_upto_region 20 with fail
                go_quiet (fail)
                go_wp2_with fail
                go_end0
                refine ⟨rfl, ?_, OZ.out.trans (Oth.below (by first | exact below_drewN DZ.out _ | exact below_drew DZ.out | exact DZ.out))⟩
                rw [HTF.out]
                refine pws_eq (HW10.out.put (HW10.out.wr.ext ?_) (Below.mono ?_ HW10.out.lo.2.2)) (by rw [← HNQ.out]; simp)
                all_goals first | exact below_drewN DZ.out _ | exact below_drew DZ.out | exact DZ.out
          have e10 : ((k : Int) == 10) = false := beq_eq_false_iff_ne.2 (by omega)
          have e9 : ((k : Int) == 9) = false := beq_eq_false_iff_ne.2 (by omega)
          have e8 : ((k : Int) == 8) = false := beq_eq_false_iff_ne.2 (by omega)
          have HTL := hid (show tailP xs I (numA num (t : Int)) x = ([], numA num (t : Int)) by
            unfold tailP subO
            rw [HO.out, if_neg (by omega), if_neg (by omega), if_neg (by omega)])
          clear h10 h9 h8
          go_wp2_with fail
          go_end0
          refine ⟨rfl, ?_, OW.out⟩
          rw [HTL.out]
          have := H9.out
          rw [← HNQ.out] at this
          simpa using this
end Go.Proofs.YtgnbiolckhdfeaaDoor

/- deduce: term, whatever it is. -/
namespace Go.Proofs.YtgnbiolckhdfeaaDoor
open Go.RowKit Go.KK Go.Shelf Go.Maps
set_option linter.unusedVariables false
set_option linter.unusedSimpArgs false

theorem op_range {o : Int} {n : Nat} (h : lenB o n = true) : 1 ≤ o ∧ o ≤ 12 := by
  unfold lenB at h
  rcases ha : arN o with _ | k
  · rw [ha] at h
    have := eq_of_beq h
    omega
  · unfold arN at ha
    split at ha <;> first | omega | cases ha
theorem wt_all (W1 : World) (G R : Nat → Prop) (B b sp mb : Nat) (lv uv : Value) (xs : List ND) (s : SD) (I : Int → Bool) (h : SpA W1 G R sp lv uv xs s) (hT : Tb W1.heap.size W1) (hI : ∀ y, I y = inB s.i y) (hs : ∀ x ∈ xs, x.s.size ≤ 1000000) :
    ∀ (N : Nat) (t : Int), t.toNat < N → hasB xs t = true → WtD W1 B b sp mb xs I t := by
  intro N
  induction N with
  | zero => intro t h; omega
  | succ N ih =>
    intro t hN ht
    have hx := nodeF_get ht
    have ht2 := has_iff.1 ht
    have hp : ∀ y ∈ (nodeF xs t).l, WtD W1 B b sp mb xs I y := fun y hy => by
      have := part_lt h.ok ht hy
      exact ih y (by omega) this.2.2
    have hr : 1 ≤ (nodeF xs t).o ∧ (nodeF xs t).o ≤ 12 := op_range (nd_len h.ok ht)
    have ht0 : ((t.toNat : Nat) : Int) = t := by omega
    rw [← ht0]
    generalize nodeF xs t = x at *
    by_cases h2 : x.o = 2
    · exact wt2 W1 G R B b sp mb lv uv xs s I t.toNat x h hx h2 (hs x (List.mem_of_getElem? hx))
    by_cases h3 : x.o = 3
    · exact wt3 W1 G R B b sp mb lv uv xs s I t.toNat x h hx h3 hp
    by_cases h1 : x.o = 1
    · exact wtN W1 G R B b sp mb lv uv xs s I t.toNat x h hx 1 h1 (.inl rfl) hT hI hp
    rcases ha : x.l.all (inB s.i) with _ | _
    · exact wtN W1 G R B b sp mb lv uv xs s I t.toNat x h hx x.o.toNat (by omega) (.inr ⟨by omega, by omega, ha⟩) hT hI hp
    · exact wtA W1 G R B b sp mb lv uv xs s I t.toNat x h hx x.o.toNat (by omega) (by omega) (by omega) ha hI hp
end Go.Proofs.YtgnbiolckhdfeaaDoor

/- deduce: Pattern. -/
namespace Go.KK
open Go.RowKit
set_option linter.unusedVariables false
set_option linter.unusedSimpArgs false
theorem pats_snoc (xs : List ND) (I : Int → Bool) (l a : List Int) (t : Int) : patsF xs I a (l ++ [t]) = ((patsF xs I a l).1 ++ [(patT xs I (patsF xs I a l).2 t).1], (patT xs I (patsF xs I a l).2 t).2) := by
  rw [pats_app]
  rfl
theorem pat_ne {xs : List ND} (ok : Okay xs) (I : Int → Bool) {t : Int} (ht : hasB xs t = true) (h1 : 1 ≤ (nodeF xs t).o ∧ (nodeF xs t).o ≤ 12) (a : List Int) : (patT xs I a t).1 ≠ [] := by
  have hn : (nodeF xs t).o ≠ 2 → nameP (nodeF xs t).o ≠ [] := by
    generalize (nodeF xs t).o = o at *
    intro h2
    have : o = 1 ∨ o = 3 ∨ o = 4 ∨ o = 5 ∨ o = 6 ∨ o = 7 ∨ o = 8 ∨ o = 9 ∨ o = 10 ∨ o = 11 ∨ o = 12 := by omega
    rcases this with rfl | rfl | rfl | rfl | rfl | rfl | rfl | rfl | rfl | rfl | rfl <;> decide
  rw [pat_eq ok I ht a]
  split
  · simp
  · rename_i h2
    have := hn h2
    split
    · simp [this]
    · split <;> simp [this]
end Go.KK
namespace Go.Proofs.YtgnbiolckhdfeaaDoor
open Go.RowKit Go.KK Go.Shelf Go.Maps

theorem infoStr : (Tryd.prog.info? 9).map (fun i => (i.zero, i.size, i.bytes)) = some (some (.string ⟨#[]⟩), 1, 16) := by kernel_rfl
/-- What Pattern leaves. -/
def PatP (W : World) (xs : List ND) (l : List Int) (e : Ending) (w' : World) : Prop :=
  (l.all (hasB xs) = false ∧ e = .returned (.tuple #[.slice none 0 0, .int .i64 1]) ∧ Below W.heap.size W w') ∨
  (l.all (hasB xs) = true ∧ ∃ A c, e = .returned (.tuple #[.slice A l.length c, .int .i64 0]) ∧ w'.ownsRow W.heap.size 9 1 (.slice A l.length c) l.length ((patsF xs (derB xs l) [] l).1.map strV) ∧ Below W.heap.size W w')
/-- The patterns so far. -/
structure PtR (W W1 wr : World) (mb : Nat) (xs : List ND) (I : Int → Bool) (l : List Int) (j : Nat) (o : Value) : Prop where
  low : Below W1.heap.size W1 wr
  map : ∃ D, wr.ownsMap Tryd.prog 3 (plainElem Tryd.prog 3) mb (patsF xs I [] (l.take j)).2.length D ∧ NB D (patsF xs I [] (l.take j)).2
  row : wr.ownsRow W1.heap.size 9 1 o j ((patsF xs I [] (l.take j)).1.map strV)
  lo : W1.heap.size ≤ mb ∧ mb < wr.heap.size ∧ W.heap.size ≤ W1.heap.size
set_option maxHeartbeats 4000000 in
set_option maxRecDepth 100000 in
theorem pattern_any (W : World) (st : Nat) (xs : List ND) (A : Option Addr) (n c : Nat) (l : List Int) (hA : ArV W 91 st xs) (hok : Okay xs) (hul : ∀ m, (uses xs m).length ≤ 100000000) (hl : SlA W 1 A n c (l.map (.int .i64))) (hn : n ≤ 1000000) (hT : Tb W.heap.size W) (hs : ∀ x ∈ xs, x.s.size ≤ 1000000)
    (hpl : l.all (hasB xs) = true → ∀ p ∈ (patsF xs (derB xs l) [] l).1, p.length ≤ 10000000) :
    Calls Tryd.prog 53 #[.pointer (some ⟨st, 0, none⟩), .slice A n c] W fun e w' => PatP W xs l e w' := by
  obtain ⟨i0, hi, hz0, hz1, hz2⟩ := info_parts infoStr
  have hmm := @run_makeMap Tryd.prog
  have HCL := hid (closed_any W st xs A n c l hA hok hul hl hn)
  have HOK := hid hok; have HL := hid hl; have HT := hid hT; have HS := hid hs; have HPL := hid hpl
  have hln := hl.lenI
  clear hA hok hul hl hT hs hpl
  go_enter Tryd.func53, Tryd.ntmps53
  go_wp2_with fail
  refine HCL.out.mono ?_
  rintro e w1 (⟨hall, rfl, hb⟩ | ⟨hall, sp, G, R, lv, uv, J, rfl, hi1, hsp, hb, -⟩)
  · have HF := hid hall
    have HB := hid hb
    clear hall hb HCL
    go_wp2_with fail
    first | go_ret2 | go_ret
    exact (show PatP _ _ _ _ _ from .inl ⟨HF.out, rfl, HB.out⟩)
  · have HF := hid hall; have HB := hid hb; have HI := hid hi1; have HSP := hid hsp
    have HH := hid (fun x (hx : x ∈ l) => List.all_eq_true.1 hall x hx)
    have HCG := hid (show patsF xs (derB xs l) [] l = patsF xs (inB J) [] l from pats_congr HOK.out (fun t ht => by
      rw [Bool.eq_iff_iff, derB_iff]
      exact (HI.out.done HOK.out HH.out ht).symm) l [] HH.out)
    have HPN := hid (show ∀ p ∈ (patsF xs (inB J) [] l).1, p.length ≤ 10000000 by rw [← HCG.out]; exact HPL.out hall)
    have HW1 := hid (fun (B b mb : Nat) (t : Int) (ht : hasB xs t = true) => wt_all w1 G R B b sp mb lv uv xs ⟨J, []⟩ (inB J) hsp (Tb.up (HT.out.on hb) hb.size) (fun _ => rfl) HS.out (t.toNat + 1) t (by omega) ht)
    have HM0 := hid (World.ownsMap_made (H := Unit) w1 Tryd.prog 3 (plainElem Tryd.prog 3))
    have HB0 := hid (show Below w1.heap.size w1 (w1.alloc (.map #[] 0)) from (Below.refl _ _).alloc (Nat.le_refl _) _)
    have HR0 := hid (show PtR W w1 (w1.alloc (.map #[] 0)) w1.heap.size xs (inB J) l 0 (.slice none 0 0) from
      ⟨HB0.out, ⟨_, HM0.out, nb_nil⟩, by rw [List.take_zero]; exact World.ownsRow_nil _ _ _ _, Nat.le_refl _, by simp, hb.size⟩)
    clear hall hb hi1 hsp HCL HM0 HB0 HPL
    go_wp2_with fail
    go_loopw [25, 9] (fun v o wr => ∃ j : Nat, v = .int .i64 j ∧ j ≤ n ∧ Hid (PtR W w1 wr w1.heap.size xs (inB J) l j o)) (fun v _ _ => n - (intOf v).toNat)
    case atStart => exact ⟨0, rfl, Nat.zero_le _, HR0⟩
    case round =>
      clear HR0
      obtain ⟨j, hv, hj, HR⟩ := hrel
      subst hv
      by_cases hlt : j < n
      · have hlt' : (j : Int) < (n : Int) := by omega
        have hbl : Below W.heap.size W wr := HB.out.trans (HR.out.low.mono HB.out.size)
        obtain ⟨b1, o1, t, rfl, htj, hct⟩ := (HL.out.ext hbl).elemI hlt
        have hth := HH.out t (List.mem_of_getElem? htj)
        have HTK := hid (show patsF xs (inB J) [] (l.take (j + 1)) = ((patsF xs (inB J) [] (l.take j)).1 ++ [(patT xs (inB J) (patsF xs (inB J) [] (l.take j)).2 t).1], (patT xs (inB J) (patsF xs (inB J) [] (l.take j)).2 t).2) by
          rw [take_one htj, pats_snoc])
        have HNE := hid (pat_ne HOK.out (inB J) hth (op_range (nd_len HOK.out hth)) (patsF xs (inB J) [] (l.take j)).2)
        have HPL := hid (show (patT xs (inB J) (patsF xs (inB J) [] (l.take j)).2 t).1.length ≤ 10000000 by
          refine HPN.out _ ?_
          have e : l = l.take (j + 1) ++ l.drop (j + 1) := (List.take_append_drop _ _).symm
          rw [e, pats_app, HTK.out]
          simp)
        have HWT := hid (HW1.out wr.heap.size wr.heap.size w1.heap.size t hth)
        obtain ⟨Ao, co, rfl, -⟩ := SlA.owned HR.out.row
        generalize hnum : patsF xs (inB J) [] (l.take j) = PJ at *
        obtain ⟨ps, num⟩ := PJ
        have HNUM := hid hnum
        simp only at HTK HNE HPL
        generalize hpt : patT xs (inB J) num t = pt at *
        obtain ⟨pb, pn⟩ := pt
        have HPT := hid hpt
        simp only at HTK HNE HPL
        have HLO := hid HR.out.lo
        have HAL := hid (show Below wr.heap.size wr (wr.alloc (.cells #[.pointer none, .slice none 0 0, .pointer (some ⟨sp, 0, none⟩), .map (some w1.heap.size)] 125)) from (Below.refl _ _).alloc (Nat.le_refl _) _)
        have HPW := hid (show PwS w1 (wr.alloc (.cells #[.pointer none, .slice none 0 0, .pointer (some ⟨sp, 0, none⟩), .map (some w1.heap.size)] 125)) wr.heap.size wr.heap.size sp w1.heap.size [] num by
          obtain ⟨D, h1, h2⟩ := HR.out.map
          rw [hnum] at h1 h2
          exact ⟨HR.out.low.trans (HAL.out.mono HR.out.low.size), wr_new wr _ _, ⟨D, h1.alloc _, h2⟩, HLO.out.1, HLO.out.2.1, by simp⟩)
        have HROW := hid (show wr.ownsRow w1.heap.size 9 1 (.slice Ao j co) j (ps.map strV) by
          have := HR.out.row
          rw [hnum] at this
          exact this)
        have HCALL := hid (HWT.out [] num _ HPW.out (by rw [hpt]; have := HPL.out; simp; omega))
        rw [hpt] at HCALL
        have HBW := hid hbl
        clear hbl htj hnum hpt hth HR HWT HPW
        go_wp2_with fail
        refine HCALL.out.mono ?_
        rintro e w2 ⟨rfl, h2, o2⟩
        have H2 := hid h2; have O2 := hid o2
        have HSTR := hid (wout_any wr.heap.size wr.heap.size _ _ w2 pb (by have := h2.wr; simpa using this) HNE.out)
        clear h2 o2 hct
        go_wp2_with fail
        refine HSTR.out.mono ?_
        rintro e w3 ⟨rfl, b3⟩
        have B3 := hid b3
        have H3L := hid (show Below w1.heap.size w1 w3 from H2.out.low.trans (b3.mono (by have := HLO.out; omega)))
        have HROW3 := hid (show w3.ownsRow w1.heap.size 9 1 (.slice Ao j co) j (ps.map strV) by
          refine own_block HROW.out fun k hk => ?_
          have hkl := (HROW.out.lt k hk).2
          rw [b3.block k hkl]
          rcases HROW.out.2 with ⟨e, _⟩ | ⟨g, cap, cur, e, _, hh, _⟩
          · injection e with e
            subst e
            cases hk
          · injection e with e
            subst e
            injection hk with hk
            subst hk
            have h5 : (wr.alloc (.cells #[.pointer none, .slice none 0 0, .pointer (some ⟨sp, 0, none⟩), .map (some w1.heap.size)] 125)).heap[g]? = some (.cells cur 9 (0, 0)) := (heap_alloc_old _ _ hkl).trans hh
            have hkg : g < wr.heap.size := hkl
            exact (O2.out _ _ _ _ h5 (by decide) (by omega)).trans (h5.trans hh.symm))
        have HMAP3 := hid (show ∃ D, w3.ownsMap Tryd.prog 3 (plainElem Tryd.prog 3) w1.heap.size pn.length D ∧ NB D pn by
          obtain ⟨D, h1, h2⟩ := H2.out.map
          exact ⟨D, map_block h1 (b3.block _ HLO.out.2.1), h2⟩)
        have HSZ := hid (show wr.heap.size ≤ w3.heap.size from Nat.le_trans H2.out.lo.2.2 b3.size)
        clear b3 H2 HROW HCALL
        go_wp2_with (first
          | (at_builtin; refine wpList_append_sl _ rfl _ _ 92 rfl w1.heap.size 9 i0 (.string ⟨#[]⟩) 1 16 Tryd.underlying92 hi hz0 hz1 hz2 rfl (by decide) (.slice Ao j co) j (ps.map strV) rfl (HROW3.out.alloc _) _ 1 1 [strV pb] rfl (SlA.lit1 _) (fun u hu => by rw [List.mem_singleton] at hu; subst hu; rfl) (by unfold maxLen; omega) (by omega) (by have := HLO.out; have := HSZ.out; simp; omega) ?_; intro v5 w5 own5 gr5 loc5; have HO5 := hid own5; have HG5 := hid gr5; clear own5 gr5 loc5)
          | fail)
        go_roundw
        case rel =>
          refine ⟨j + 1, by go_num, by omega, hid ?_⟩
          have hrl := HROW3.out
          have hg := HG5.out
          have hs3 : (w3.alloc (.cells #[.string ⟨pb.toArray⟩] 9)).heap.size = w3.heap.size + 1 := by simp
          have hlo := HLO.out
          have hsz := HSZ.out
          have hnm : some w1.heap.size ≠ (Value.slice Ao j co).ownBlock := fun e => by
            obtain ⟨D, ⟨es, clock, h1, -⟩, -⟩ := HMAP3.out
            rcases hrl.2 with ⟨e2, _⟩ | ⟨g, cap, cur, e2, _, hh, _⟩
            · rw [e2] at e; cases e
            · rw [e2] at e
              injection e with e
              simp only at e
              rw [← e, h1] at hh
              cases hh
          refine ⟨?_, ?_, ?_, hlo.1, ?_, hlo.2.2⟩
          · refine (H3L.out.alloc (by omega) _).grown hg (by rw [hs3]; omega) fun k hk => ?_
            exact (hrl.lt k hk).1
          · rw [HTK.out]
            obtain ⟨D, h1, h2⟩ := HMAP3.out
            refine ⟨D, map_block h1 ?_, h2⟩
            rw [hg.block _ (by rw [hs3]; omega) (fun e => hnm e), Lib.alloc_old w3 _ _ (by omega)]
          · rw [HTK.out, List.map_append]
            exact HO5.out
          · have := hg.size
            rw [hs3] at this
            omega
        case measure => simp [intOf]; omega
      · have hjn : j = n := by omega
        subst hjn
        have hlt' : ¬ ((j : Nat) : Int) < (j : Int) := by omega
        obtain ⟨Ao, co, rfl, -⟩ := SlA.owned HR.out.row
        have HRR := hid (show wr.ownsRow W.heap.size 9 1 (.slice Ao l.length co) l.length ((patsF xs (derB xs l) [] l).1.map strV) by
          have := HR.out.row
          rw [show l.take j = l from List.take_of_length_le (by omega), ← HCG.out] at this
          rw [hln]
          exact own_mono this HB.out.size)
        have HBW := hid (HB.out.trans (HR.out.low.mono HB.out.size))
        have HLN := hid hln
        clear hlt HR hln
        go_wp2_with fail
        first | go_ret2 | go_ret
        exact (show PatP _ _ _ _ _ from .inr ⟨HF.out, Ao, co, by rw [HLN.out] <;> rfl, HRR.out, HBW.out⟩)
end Go.Proofs.YtgnbiolckhdfeaaDoor

/- Arguments opened: what the walk is told of a value that can be read. Of no program. -/
namespace Go.KK
open Go.ChangeShapes Go.WideShapes Go.ChangeAt Go.RowKit Go.Deep
set_option linter.unusedVariables false
set_option linter.unusedSimpArgs false

section
variable {H : Type} {enc : TypeId × Value → H} {P : Program} {w : World} {base : Nat} {spare : Nat → Bool} {held : Bool}
/-- A slice of integers that came in. -/
theorem opens_ints {r : Reach} {b0 : Nat} {t e : TypeId} {k : IntKind} {v : Value} {d : DataW H} {p : List MemPlace} (ht : P.underlying t = some (.slice e)) (he : P.underlying e = some (.int k)) (hc : P.cellsOf e = 1)
    (hv : Value.okWide P w r b0 t v) (h : DataW.Trod enc P w base spare held t v d p) :
    ∃ (A : Option Addr) (n c : Nat) (l : List Int), v = .slice A n c ∧ SlA w 1 A n c (l.map (Value.int k)) ∧ ∀ x ∈ l, (Lit.int k x).wf = true := by
  obtain ⟨A, n, c, rfl⟩ := okWide_slice ht hv
  obtain ⟨fuel, hf⟩ := h
  rcases open_ints ht he hc hf with ⟨hcs, _⟩ | ⟨x, l, c', zs, hcs, _, hl, hm, hz, _, hcell, hwz⟩
  · simp [Value.cells] at hcs
    obtain ⟨rfl, rfl, rfl⟩ := hcs
    exact ⟨_, _, _, [], rfl, SlA.nil _ _, by simp⟩
  · simp [Value.cells] at hcs
    obtain ⟨rfl, rfl, rfl⟩ := hcs
    have hzl : n ≤ zs.length := by rw [hz]; split <;> omega
    refine ⟨_, _, _, zs.take n, rfl, ⟨hl, hm, by simp; omega, fun j u hj => ?_⟩, fun y hy => hwz y (List.mem_of_mem_take hy)⟩
    rw [List.getElem?_map, List.getElem?_take] at hj
    split at hj
    · rename_i hjn
      have hc := hcell j (by omega)
      have hjl : j < zs.length := by omega
      rw [List.getElem?_eq_getElem hjl] at hj
      simp only [Option.map_some, Option.some.injEq] at hj
      obtain ⟨b, off, spot⟩ := x
      have hs : spot = none ∨ 0 < j := by
        rcases Nat.eq_zero_or_pos j with h0 | h0
        · subst h0
          left
          have := World.cell?_spot hc
          simpa [Addr.add] using this
        · exact .inr h0
      have h0 := hcell 0 (by omega)
      have hspot : spot = none := by simpa [Addr.add] using World.cell?_spot h0
      subst hspot
      refine ⟨b, off, rfl, ?_⟩
      rw [add_lit] at hc
      rw [hc, ← hj, List.getD, List.getElem?_eq_getElem hjl]
      rfl
    · cases hj

def intV : Value → Int
  | .int _ n => n
  | _ => 0
/-- A struct of integers, by value. -/
theorem opens_struct_ints {r : Reach} {b0 : Nat} {t ti : TypeId} {fs : Array Field} {v : Value} {d : DataW H} {p : List MemPlace} (hs : P.underlying t = some (.struct fs)) (hone : oneCellFields P fs = true) (hC : P.cellsOf t = fs.size)
    (hT : fs.all (fun f => f.type == ti) = true) (hti : P.underlying ti = some (.int .i64)) (hv : Value.okWide P w r b0 t v) (h : DataW.Trod enc P w base spare held t v d p) :
    ∃ l : List Int, l.length = fs.size ∧ v = .agg (l.map (Value.int .i64)).toArray ∧ ∀ x ∈ l, (Lit.int .i64 x).wf = true := by
  obtain ⟨cs, rfl, hsz⟩ := okWide_struct hs hv
  obtain ⟨l⟩ := cs
  have hsz' : l.length = fs.size := by simpa using hsz.trans hC
  obtain ⟨fuel, hf⟩ := h
  obtain ⟨xs, n, _, hx, _, hlen, hg⟩ := DataW.trod_struct hs hf
  have each : ∀ j (hj : j < l.length), ∃ a, l[j] = Value.int .i64 a ∧ (Lit.int .i64 a).wf = true := by
    intro j hj
    have hfj : fs[j]? = some fs[j] := Array.getElem?_eq_getElem (by omega)
    obtain ⟨ho, hk⟩ := hone_of hone j fs[j] hfj
    have h1 := hg j fs[j] hfj
    rw [ho, hk] at h1
    have ht : fs[j].type = ti := by
      have := Array.all_eq_true.1 hT j (by omega)
      simpa using this
    have hcell : (((Value.agg ⟨l⟩).cells.toList.drop j).take 1) = [l[j]] := by
      show (l.drop j).take 1 = _
      rw [List.drop_eq_getElem_cons hj]; rfl
    rw [hcell, ht] at h1
    have hy : xs[j]? = some (xs[j]'(by omega)) := List.getElem?_eq_getElem _
    obtain ⟨a, ha, _, hw⟩ := DataW.trod_int hti (h1.trans hy)
    injection ha with ha
    exact ⟨a, ha, hw⟩
  refine ⟨l.map intV, by simpa using hsz', ?_, ?_⟩
  · congr 2
    apply List.ext_getElem
    · simp
    · intro j h1 h2
      obtain ⟨a, ha, _⟩ := each j h1
      simp [ha, intV]
  · intro x hx
    obtain ⟨v, hv, rfl⟩ := List.mem_map.1 hx
    obtain ⟨j, hj, rfl⟩ := List.getElem_of_mem hv
    obtain ⟨a, ha, hw⟩ := each j hj
    rw [ha]
    exact hw
end
end Go.KK

