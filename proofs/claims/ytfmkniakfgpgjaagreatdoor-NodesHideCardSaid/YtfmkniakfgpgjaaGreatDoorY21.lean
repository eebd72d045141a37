import Derived.Test.YtfmkniakfgpgjaaGreatDoorY20
import Derived.Deep.DeepCutAuto
import Derived.Maps.OwnSet
/- deduce: term (what is numbered). -/
namespace Go.KK
open Go.RowKit
set_option linter.unusedVariables false
set_option linter.unusedSimpArgs false
/-- What stands behind a term's number. -/
def tailP (xs : List ND) (I : Int → Bool) (a : List Int) (n : ND) : List UInt8 × List Int := match subO xs I n with
  | none => ([], a)
  | some l => parF (patT xs I) a l
theorem pat_num {xs : List ND} (ok : Okay xs) (I : Int → Bool) {t : Int} (ht : hasB xs t = true) (a : List Int) (h2 : (nodeF xs t).o ≠ 2) (h3 : ¬ ((nodeF xs t).o = 3 ∨ ((nodeF xs t).o ≠ 1 ∧ (nodeF xs t).l.all I = true))) :
    patT xs I a t = (nameP (nodeF xs t).o ++ (35 :: Lib.itoa (numN a t) ++ (tailP xs I (numA a t) (nodeF xs t)).1), (tailP xs I (numA a t) (nodeF xs t)).2) := by
  rw [pat_eq ok I ht a, if_neg h2, if_neg h3]
  unfold tailP
  rcases subO xs I (nodeF xs t) with _ | l
  · simp
  · simp
end Go.KK
namespace Go.Proofs.YtfmkniakfgpgjaaGreatDoor
open Go.RowKit Go.KK Go.Shelf Go.Maps

theorem itoaG_any (n : Int) (hn : I64 n) (w : World) (hT : Tb w.heap.size w) : Calls Tryz.prog 82 #[.int .i64 n] w fun e w' => ∃ S : ByteArray, e = .returned (.string S) ∧ S = ⟨(Lib.itoa n).toArray⟩ ∧ Below w.heap.size w w' := by
  refine (Tryz.strconv_Itoa n hn.1 hn.2 w hT.here).mono ?_
  rintro e w' ⟨rfl, k, os, rfl⟩
  exact ⟨_, rfl, rfl, Lib.below_grow _ _ (Nat.le_refl _) _ _⟩
theorem pws_eq {W1 U : World} {B b sp mb : Nat} {l l' : List UInt8} {num : List Int} (h : PwS W1 U B b sp mb l num) (e : l = l') : PwS W1 U B b sp mb l' num := e ▸ h
theorem bszG (l : List UInt8) : (⟨l.toArray⟩ : ByteArray).size = l.length := by show l.toArray.size = _; simp
theorem sla_lit1 {w : World} {k : Nat} {y : Int} {T : TypeId} {fz : Nat × Nat} (h : w.heap[k]? = some (.cells #[.int .i64 y] T fz)) : SlA w 1 (some ⟨k, 0, none⟩) 1 1 ([y].map (.int .i64)) :=
  ⟨Nat.le_refl _, by decide, by simp, fun j u hj => by
    match j, hj with
    | 0, hj =>
      simp at hj
      subst hj
      refine ⟨k, 0, rfl, ?_⟩
      rw [Lib.cell_of_heap h]; rfl⟩
theorem sla_sub {w : World} {b o n c i j : Nat} {l : List Int} (h1 : SlA w 1 (some ⟨b, o, none⟩) n c (l.map (.int .i64))) (hij : i ≤ j) (hj : j ≤ n) : SlA w 1 (some ⟨b, o + i, none⟩) (j - i) (c - i) (((l.drop i).take (j - i)).map (.int .i64)) := by
  have hl := h1.lenI
  have hnc := h1.nc
  have hcm := h1.cm
  refine ⟨by omega, by omega, by simp; omega, fun k u hu => ?_⟩
  rw [List.getElem?_map, List.getElem?_take, List.getElem?_drop] at hu
  split at hu
  · obtain ⟨b', off, e, hc⟩ := h1.cells (i + k) u (by rw [List.getElem?_map]; exact hu)
    injection e with e
    injection e with e1 e2
    subst e1; subst e2
    exact ⟨b, o + i, rfl, by rw [Nat.add_assoc]; exact hc⟩
  · cases hu
set_option maxHeartbeats 8000000 in
set_option maxRecDepth 100000 in
theorem wtN (W1 : World) (G R : Nat → Prop) (B b sp mb : Nat) (lv uv : Value) (xs : List ND) (s : SD) (I : Int → Bool) (t : Nat) (x : ND) (h : SpA W1 G R sp lv uv xs s) (hx : xs[t]? = some x) (k : Nat) (ho : x.o = (k : Int)) (hk : k = 1 ∨ (4 ≤ k ∧ k ≤ 12 ∧ x.l.all (inB s.i) = false)) (hT : Tb W1.heap.size W1) (hI : ∀ y, I y = inB s.i y) (hp : ∀ y ∈ x.l, WtD W1 B b sp mb xs I y) : WtD W1 B b sp mb xs I (t : Int) := by
  intro bs num w hw hlen
  have H := hid h; have HW := hid hw; have HT := hid hT
  have htx : (t : Int) < (xs.length : Int) := by have := (List.getElem?_eq_some_iff.1 hx).1; omega
  have hx5 : xs.length ≤ 100000 := h.ok.len
  have hxe : nodeF xs (t : Int) = x := by
    have := nodeF_get (xs := xs) (t := (t : Int)) (has_iff.2 ⟨by omega, htx⟩)
    rw [Int.toNat_natCast, hx] at this
    injection this with this
    exact this.symm
  have HP := hid (show patT xs I num (t : Int) = (nameP (k : Int) ++ (35 :: Lib.itoa (numN num (t : Int)) ++ (tailP xs I (numA num (t : Int)) x).1), (tailP xs I (numA num (t : Int)) x).2) by
    have := pat_num h.ok I (t := (t : Int)) (has_iff.2 ⟨by omega, htx⟩) num (by rw [hxe, ho]; rcases hk with e | e <;> omega) (by
      rw [hxe, ho]
      rintro (e | ⟨e1, e2⟩)
      · rcases hk with e' | e' <;> omega
      · rcases hk with e' | ⟨-, -, e'⟩
        · exact e1 (by omega)
        · rw [show x.l.all I = x.l.all (inB s.i) by congr 1; funext y; exact hI y, e'] at e2
          cases e2)
    rw [hxe, ho] at this
    exact this)
  have hk12 : k ≤ 12 := by rcases hk with e | e <;> omega
  have hk2 : k ≠ 2 := by rcases hk with e | e <;> omega
  have hk1' : 1 ≤ k := by rcases hk with e | e <;> omega
  have HNS := hid (nameP_le (k : Int))
  have HXH := hid (ap_has W1 G R sp lv uv xs s t x h hx)
  have HLN := hid (fun (o : Int) (m : Nat) (h1 : x.o = o) (h2 : arN o = some m) => ap_len W1 G R sp lv uv xs s t x h hx h1 h2)
  rw [HP.out] at hlen ⊢
  have hxb := ap_bound W1 G R sp lv uv xs s t x h hx
  obtain ⟨D0m, hDm, hNBm⟩ := hw.map
  have hnl := hNBm.le
  have HNN := hid (numN_le num (t : Int))
  obtain ⟨bn, on, cn, A', c', rfl, hcell, hkl⟩ := h.keep hx
  obtain ⟨y0, y1, y2, y3⟩ := hcell w hw.low.size fun b hb _ => hw.low.block b hb
  rw [ho] at y0
  obtain ⟨iv, ov, ⟨c0, -⟩, -⟩ := (h.ext hw.low).cells
  have q2 := hw.wr.cell2
  have HKL := hid (fun (U : World) (hb : Below W1.heap.size W1 U) => hkl.here.ext hb)
  have HPP := hid hp; have HK := hid hk; have HII := hid hI; have HXE := hid hxe
  have HLE := hid (show bs.length + ((nameP (k : Int)).length + (1 + (Lib.itoa (numN num (t : Int))).length + (tailP xs I (numA num (t : Int)) x).1.length)) ≤ 100000000000000 by
    simp only [List.length_append, List.length_cons] at hlen
    omega)
  have hbw := hw.wr.lt
  have HO := hid ho
  have HX := hid hx
  clear h hx hcell hkl hw hlen ho hxe hp hk hI hT hDm hNBm D0m
  go_enter Tryz.func116, Tryz.ntmps116
  have hk2' : ((k : Int) == 2) = false := beq_eq_false_iff_ne.2 (by omega)
  go_upto_region 4 with fail
  refine forget (R := fun V => PwS W1 V B b sp mb bs num ∧ OthG b w V ∧ (∃ C1 z1 C2 z2, V.heap[w.heap.size]? = some (.cells C1 64 z1) ∧ V.heap[w.heap.size + 1]? = some (.cells C2 178 z2)) ∧ V.cell? ⟨w.heap.size, 0, none⟩ = some (.int .i64 k) ∧ V.cell? ⟨w.heap.size, 3, none⟩ = some (.slice A' x.l.length c') ∧ V.cell? ⟨w.heap.size + 1, k, none⟩ = some (.string ⟨(nameP (k : Int)).toArray⟩)) ?_ ⟨?_, ?_, ?_, ?_, ?_, ?_⟩
  rotate_left
  · exact HW.out.put ((HW.out.wr.ext ((Below.refl _ _).alloc (Nat.le_refl _) _)).ext ((Below.refl _ _).alloc (Nat.le_refl _) _)) ((((Below.refl _ _).alloc (Nat.le_refl _) _).alloc (by simp) _).mono HW.out.lo.2.2)
  · exact OthG.below (((Below.refl _ _).alloc (Nat.le_refl _) _).alloc (by simp) _)
  · have h2 := heap_alloc_new (w.alloc (.cells #[.int .i64 k, .int .i64 x.n, .string x.s, .slice A' x.l.length c'] 64)) (.cells #[.string ⟨#[]⟩, .string ⟨#[97, 116, 111, 109]⟩, .string ⟨#[]⟩, .string ⟨#[108, 105, 115, 116]⟩, .string ⟨#[104, 97, 115, 104]⟩, .string ⟨#[109, 105, 120]⟩, .string ⟨#[107, 101, 121]⟩, .string ⟨#[112, 117, 98]⟩, .string ⟨#[115, 101, 97, 108]⟩, .string ⟨#[101, 110, 99]⟩, .string ⟨#[115, 105, 103]⟩, .string ⟨#[109, 97, 99]⟩, .string ⟨#[98, 108, 105, 110, 100]⟩] 178)
    rw [show (w.alloc (.cells #[.int .i64 k, .int .i64 x.n, .string x.s, .slice A' x.l.length c'] 64)).heap.size = w.heap.size + 1 by simp] at h2
    exact ⟨_, (0, 0), _, (0, 0), (heap_alloc_old _ _ (by simp)).trans (heap_alloc_new w _), h2⟩
  · rw [World.cell?_alloc_old _ _ _ (by simp), World.cell?_alloc_at _ _ _ _ rfl]; rfl
  · rw [World.cell?_alloc_old _ _ _ (by simp), World.cell?_alloc_at _ _ _ _ rfl]; rfl
  · have := name_cellP (w := w.alloc (.cells #[.int .i64 k, .int .i64 x.n, .string x.s, .slice A' x.l.length c'] 64)) (T := 178) (k := k) hk1' hk2 hk12
    rw [show (w.alloc (.cells #[.int .i64 k, .int .i64 x.n, .string x.s, .slice A' x.l.length c'] 64)).heap.size = w.heap.size + 1 by simp] at this
    exact this
  clear y0 y1 y2 y3 c0 q2
  rintro V ⟨hv, hov, ⟨C1, z1, C2, z2, hb1, hb2⟩, q0, q3, q1⟩
  have HV := hid hv; have HOV := hid hov; have HN1 := hid hb1; have HN2 := hid hb2
  have Q3 := hid q3; have Q0 := hid q0; have Q1 := hid q1
  have hne : w.heap.size ≠ b := by omega
  have hne2 : w.heap.size + 1 ≠ b := by omega
  have HCE := hid (fun (U : World) (hu : OthG b V U) => (show U.cell? ⟨w.heap.size, 0, none⟩ = some (.int .i64 k) ∧ U.cell? ⟨w.heap.size, 3, none⟩ = some (.slice A' x.l.length c') ∧ U.cell? ⟨w.heap.size + 1, k, none⟩ = some (.string ⟨(nameP (k : Int)).toArray⟩) from
    ⟨hu.cell hb1 (by decide) hne q0, hu.cell hb1 (by decide) hne q3, hu.cell hb2 (by decide) hne2 q1⟩))
  have D0 := hid (below_drew (Below.refl V.heap.size V))
  have hk0 : (0 : Int) ≤ (k : Int) := by omega
  have hk13 : (k : Int) < 13 := by omega
  have hk3 : ((k : Int) == 3) = false := beq_eq_false_iff_ne.2 (by rcases HK.out with e | e <;> omega)
  clear hv hov hb1 hb2
  go_cut [38] (fun v U => PwS W1 U B b sp mb (bs ++ nameP (k : Int)) num ∧ OthG b V U)
  case first =>
    go_region_held3 (fun U => U.cell? ⟨w.heap.size, 0, none⟩ = some (.int .i64 k) ∧ U.cell? ⟨w.heap.size + 1, k, none⟩ = some (.string ⟨(nameP (k : Int)).toArray⟩)) (first | exact ⟨q06, q16⟩ | exact ⟨q0, q1⟩ | go_keep) (first
      | (go_at_call 135; refine (wstr_pw ⟨(nameP (k : Int)).toArray⟩ (HV.out.put (HV.out.wr.ext D0.out) (D0.out.mono HV.out.lo.2.2)) (by have := HLE.out; simp; omega)).mono ?_; rintro e6 w6 ⟨rfl, h6, o6⟩; have H6 := hid h6; have O6 := hid ((OthG.below D0.out).trans o6); have q06 := ((OthG.below D0.out).trans o6).cell HN1.out (by decide) hne Q0.out; have q16 := ((OthG.below D0.out).trans o6).cell HN2.out (by decide) hne2 Q1.out; clear h6 o6))
    all_goals
      go_wp2_with fail
      go_meet
      exact ⟨by have := H6.out; simpa using this, O6.out⟩
  case rest =>
    obtain ⟨h6, o6⟩ := hcut
    obtain ⟨w6, rfl⟩ : ∃ w6, w6 = wc := ⟨_, rfl⟩
    have H6 := hid h6; have O6 := hid o6
    obtain ⟨q06, q36, -⟩ := HCE.out _ o6
    have HAL := hid (fun (U : World) (hb : Below w6.heap.size w6 U) => all_any U G R sp _ uv xs s A' x.l.length c' x.l ((H.out.ext h6.low).ext hb) ((HKL.out w6 h6.low).ext hb) HXH.out (by omega))
    have p2 := h6.wr.cell2
    clear h6 o6 D0 q0 q3 q1 HV HW
    have DZ := hid (Below.refl w6.heap.size w6)
    go_upto_region 5 with fail
    go_cut [55] (fun v U => v = .bool false ∧ Below w6.heap.size w6 U)
    case first =>
      by_cases hk1 : k = 1
      · have hk1n : ((k : Int) != 1) = false := by rw [hk1]; rfl
        go_quiet (fail)
        go_wp2_with fail
        go_meet
        exact ⟨rfl, by first | exact DZ.out | exact below_drew DZ.out | exact below_drewN DZ.out _⟩
      · have hk1n : ((k : Int) != 1) = true := by rw [bne_iff_ne]; omega
        have HALL := hid (show x.l.all (inB s.i) = false from HK.out.elim (fun e => absurd e hk1) fun e => e.2.2)
        go_region_with (first
          | (go_at_call 136; refine (HAL.out _ (by first | exact DZ.out | exact below_drew DZ.out | exact below_drewN DZ.out _)).mono ?_; rintro e7 w7 ⟨rfl, b7⟩; rw [HALL.out]; have D7 := hid ((show Below w6.heap.size w6 w7 from (by first | exact DZ.out.trans b7 | exact (below_drew DZ.out).trans b7 | exact (below_drewN DZ.out _).trans b7))); clear b7))
        all_goals
          go_wp2_with fail
          go_meet
          exact ⟨rfl, by first | exact D7.out | exact below_drew D7.out | exact below_drewN D7.out _⟩
    case rest =>
      obtain ⟨rfl, h7⟩ := hcut
      obtain ⟨w7, rfl⟩ : ∃ w7, w7 = wc := ⟨_, rfl⟩
      have H7 := hid (H6.out.put (H6.out.wr.ext h7) (h7.mono H6.out.lo.2.2))
      have O7 := hid (O6.out.trans (OthG.below h7))
      clear h7 H6 O6 HAL DZ p2 q06 q36
      obtain ⟨D, hD, hNB⟩ := H7.out.map
      have HD := hid hD; have HNB := hid hNB
      have hti : I64 (t : Int) := ⟨by omega, by omega⟩
      have HKEY := hid (key_i64 hti)
      have q2 := H7.out.wr.cell2
      have q3 := H7.out.wr.cell3
      obtain ⟨hb, hbe⟩ : ∃ hb : Bool, hb = decide ((t : Int) ∈ num) := ⟨_, rfl⟩
      have HH := hid (show Maps.has D (.int .i64 (t : Int)) = hb by rw [hNB.h, hbe])
      have HBE := hid hbe
      clear hD hNB hbe hti
      go_upto_if 70 with (first
        | (at_lookup; refine wpList_lookup_own_ok_int _ rfl _ _ 159 rfl 3 3 .i64 lawIn Tryz.underlying159 Tryz.underlying3 (zeroI _) mb _ D rfl HD.out _ _ rfl HKEY.out ?_; intro cc hat hwc; rw [HH.out]; have HCC := hid (fun (hm : (t : Int) ∈ num) => (show cc = ((numN num (t : Int) : Nat) : Int) by rw [HNB.out.a _ hm] at hat; injection hat with hat; injection hat with _ hat; rw [← hat]; unfold numN; rw [if_pos hm])); clear hat hwc)
        | fail)
      go_cut [6, 7] (fun v v7 U => v = .int .i64 (numN num (t : Int) : Nat) ∧ PwS W1 U B b sp mb (bs ++ nameP (k : Int)) (numA num (t : Int)) ∧ OthG b w7 U)
      case first =>
        rcases hbb : hb with _ | _
        · have HM := hid (show ¬ (t : Int) ∈ num by have := HBE.out; rw [hbb] at this; exact of_decide_eq_false this.symm)
          have HZ := hid HNB.out.z
          subst hb
          go_wp2_with (first
            | (at_len; refine wpList_len_own _ rfl _ 159 rfl 3 3 Tryz.underlying159 _ mb _ D rfl HD.out ?_; rw [HZ.out])
            | (at_mapUpdate; refine wpList_mapUpdate_own _ rfl _ _ _ 159 rfl 3 3 lawIn Tryz.underlying159 _ mb num.length D rfl HD.out (by unfold maxLen; omega) _ _ (.int .i64 (t : Int)) rfl rfl HKEY.out (.lit (.int .i64 (num.length : Nat))) [] (plainElem_int Tryz.underlying3 (wf_i64 ⟨by omega, by omega⟩)) ?_; intro w9 ho9 hg9; have HO9 := hid ho9; have HG9 := hid hg9; clear ho9 hg9)
            | fail)
          go_meet
          have hr := H7.out.num HNB.out HM.out ⟨by omega, by omega⟩ HG9.out HO9.out
          refine ⟨?_, ?_, hr.2⟩
          · unfold numN; rw [if_neg HM.out]
          · unfold numA; rw [if_neg HM.out]; exact hr.1
        · have HM := hid (show (t : Int) ∈ num by have := HBE.out; rw [hbb] at this; exact of_decide_eq_true this.symm)
          subst hb
          go_wp2_with fail
          go_meet
          refine ⟨by rw [HCC.out HM.out], ?_, OthG.refl _ _⟩
          unfold numA; rw [if_pos HM.out]; exact H7.out
      case rest =>
        obtain ⟨rfl, h8, o8⟩ := hcut
        obtain ⟨w8, rfl⟩ : ∃ w8, w8 = wc := ⟨_, rfl⟩
        have H8 := hid h8; have O8 := hid (O7.out.trans o8)
        have HTB := hid (fun (U : World) (hb : Below w8.heap.size w8 U) => (show Tb U.heap.size U from
          have hb1 : Below W1.heap.size W1 U := h8.low.trans (hb.mono h8.low.size)
          Tb.up (HT.out.on hb1) hb1.size))
        have DZ := hid (Below.refl w8.heap.size w8)
        have HNI := hid (show I64 ((numN num (t : Int) : Nat) : Int) by have := HNN.out; exact ⟨by omega, by omega⟩)
        have HIT := hid (show (Lib.itoa ((numN num (t : Int) : Nat) : Int)).length ≤ 21 by have := HNI.out; exact itoa_le _ this.1 this.2)
        generalize hnn : ((numN num (t : Int) : Nat) : Int) = nn at *
        have HNQ := hid hnn
        clear hnn
        clear h8 o8 H7 O7 HD HNB HKEY HH HBE HCC hnl q2 q3
        go_upto_region 11 with fail
        go_cut [88] (fun v U => PwS W1 U B b sp mb (bs ++ nameP (k : Int) ++ 35 :: Lib.itoa nn) (numA num (t : Int)) ∧ OthG b w8 U)
        case first =>
          go_region_with (first
            | (go_at_call 82; refine (itoaG_any nn HNI.out _ (HTB.out _ (by first | exact DZ.out | exact below_drew DZ.out | exact below_drewN DZ.out _))).mono ?_; rintro e5 w5 ⟨S5, rfl, hS5, b5⟩; have D5 := hid ((show Below w8.heap.size w8 w5 from (by first | exact DZ.out.trans b5 | exact (below_drew DZ.out).trans b5 | exact (below_drewN DZ.out _).trans b5))); have HS5 := hid hS5; have hz5 := hid (show S5.size ≤ 21 by rw [hS5, bszG]; exact HIT.out); have hcat : ¬ 9223372036854775807 < 1 + S5.size := (by have := hz5.out; omega); clear b5 hS5)
            | (go_at_call 135; refine (wstr_pw _ (H8.out.put (H8.out.wr.ext (by first | exact D5.out | exact below_drew D5.out | exact below_drewN D5.out _)) ((by first | exact D5.out | exact below_drew D5.out | exact below_drewN D5.out _ : Below w8.heap.size w8 _).mono H8.out.lo.2.2)) (by have h1 := HLE.out; have h2 := hz5.out; rw [HS5.out]; simp only [ByteArray.data_append, List.length_append, Array.toList_append, Array.length_toList]; simp; omega)).mono ?_; rintro e6 w6 ⟨rfl, h6, o6⟩; have H6 := hid h6; have O6 := hid ((OthG.below (by first | exact D5.out | exact below_drew D5.out | exact below_drewN D5.out _ : Below w8.heap.size w8 _)).trans o6); clear h6 o6))
          all_goals
            go_wp2_with fail
            go_meet
            refine ⟨?_, O6.out⟩
            have := H6.out
            rw [HS5.out] at this
            simpa [ByteArray.data_append] using this
        case rest =>
          obtain ⟨h9, o9⟩ := hcut
          obtain ⟨w9, rfl⟩ : ∃ w9, w9 = wc := ⟨_, rfl⟩
          have H9 := hid h9; have O9 := hid (O8.out.trans o9)
          obtain ⟨q0, q3, -⟩ := HCE.out _ O9.out
          have OW := hid (HOV.out.trans O9.out)
          clear h9 o9 H8 O8 DZ HTB HNI HIT HNS HNN HN1 HN2 Q3 Q0 Q1
          by_cases h10 : k = 10
          · subst h10
            obtain ⟨ea, eb, hl⟩ := two_of_len (HLN.out 10 2 HO.out rfl)
            have hsl := HKL.out w9 H9.out.low
            rw [hl] at hsl q3
            obtain ⟨ba, oa, y, rfl, hy, e1⟩ := hsl.elemI (k := 1) (by simp)
            injection hy with hy
            subst hy
            have hc2 : 2 ≤ c' := hsl.nc
            have q3' : w9.cell? ⟨w.heap.size, 3, none⟩ = some (.slice (some ⟨ba, oa, none⟩) 2 c') := q3
            have q0' : w9.cell? ⟨w.heap.size, 0, none⟩ = some (.int .i64 10) := q0
            have HTL := hid (show tailP xs I (numA num (t : Int)) x = parF (patT xs I) (numA num (t : Int)) [eb] by
              unfold tailP subO
              rw [HO.out, if_pos (by rfl), hl]
              rfl)
            have HAL := hid (show Below w9.heap.size w9 (w9.alloc (.cells #[.int .i64 eb] 3)) from (Below.refl _ _).alloc (Nat.le_refl _) _)
            have HPA := hid (parts_pw W1 (w9.alloc (.cells #[.int .i64 eb] 3)) B b sp mb xs I (bs ++ nameP ((10 : Nat) : Int) ++ 35 :: Lib.itoa nn) (numA num (t : Int)) (some ⟨w9.heap.size, 0, none⟩) 1 1 [eb] (H9.out.put (H9.out.wr.ext HAL.out) (HAL.out.mono H9.out.lo.2.2)) (fun U _ ho => sla_lit1 ((ho w9.heap.size #[.int .i64 eb] 3 (0, 0) (heap_alloc_new w9 _) (by decide) (by have := H9.out.wr.lt; omega)).trans (heap_alloc_new w9 _))) (fun z hz => HPP.out z (by rw [hl]; simp at hz ⊢; exact .inr hz)) (by have h1 := HLE.out; rw [HTL.out] at h1; simp only [List.length_append, List.length_cons] at h1 ⊢; omega) (by decide))
            clear hsl q3 q0
            go_wp2_with fail
            refine HPA.out.mono ?_
            rintro e wf ⟨rfl, hf, of⟩
            have HF := hid hf
            have OF := hid (OW.out.trans ((OthG.below HAL.out).trans of))
            clear hf of
            go_wp2_with fail
            go_end0
            refine ⟨rfl, ?_, OF.out⟩
            rw [HTL.out]
            have := HF.out
            rw [← HNQ.out] at this
            simpa using this
          by_cases h9 : k = 9
          · subst h9
            obtain ⟨ea, eb, ec, ed, hl⟩ := four_of_len (HLN.out 9 4 HO.out rfl)
            have hsl := HKL.out w9 H9.out.low
            rw [hl] at hsl q3
            obtain ⟨ba, oa, y, rfl, hy, e0⟩ := hsl.elemI (k := 0) (by simp)
            injection hy with hy
            subst hy
            have ha2 := has_iff.1 (HXH.out ea (by rw [hl]; simp))
            obtain ⟨ka, rfl⟩ := Int.eq_ofNat_of_zero_le ha2.1
            have hc4 : 4 ≤ c' := hsl.nc
            have q3' : w9.cell? ⟨w.heap.size, 3, none⟩ = some (.slice (some ⟨ba, oa, none⟩) 4 c') := q3
            have q0' : w9.cell? ⟨w.heap.size, 0, none⟩ = some (.int .i64 9) := q0
            have e0' : w9.cell? ⟨ba, oa, none⟩ = some (.int .i64 (ka : Int)) := e0
            have HSL := hid (fun (U : World) (hb : Below W1.heap.size W1 U) => (show SlA U 1 (some ⟨ba, oa + 1, none⟩) 3 (c' - 1) ([eb, ec, ed].map (.int .i64)) from by
              have := HKL.out U hb
              rw [hl] at this
              exact sla_sub (i := 1) (j := 4) this (by decide) (by simp)))
            obtain ⟨iv2, ov2, ⟨c0, c1, c2, c3⟩, -, own1, -⟩ := (H.out.ext H9.out.low).cells
            have hlen := H.out.len
            obtain ⟨ib, cap, rfl, hcb, hfb⟩ := in_cell own1 (t := ka) (by omega)
            have hki : (ka : Int) < (s.i.length : Int) := by omega
            have q2 := H9.out.wr.cell2
            have HTL := hid (show tailP xs I (numA num (t : Int)) x = if inB s.i (ka : Int) = true then parF (patT xs I) (numA num (t : Int)) [eb, ec, ed] else ([], numA num (t : Int)) by
              have e : subO xs I x = if inB s.i (ka : Int) = true then some [eb, ec, ed] else none := by
                unfold subO
                rw [HO.out, if_neg (by decide), if_pos (by decide), hl, ← HII.out]
                rfl
              unfold tailP
              rw [e]
              rcases inB s.i (ka : Int) with _ | _ <;> rfl)
            have DZ := hid (Below.refl w9.heap.size w9)
            have HPX := hid (fun z (hz : z ∈ [eb, ec, ed]) => HPP.out z (by rw [hl]; exact List.mem_cons_of_mem _ hz))
            clear hsl q3 q0 e0 own1 hl ha2 hlen
            rcases hin : inB s.i (ka : Int) with _ | _
            · rw [hin] at hcb
              have HTF := hid (show tailP xs I (numA num (t : Int)) x = ([], numA num (t : Int)) by rw [HTL.out, hin]; rfl)
              clear hin HTL
              go_upto_region 16 with fail
              go_quiet (fail)
              go_wp2_with fail
              go_end0
              refine ⟨rfl, ?_, OW.out.trans (OthG.below (by first | exact below_drewN DZ.out _ | exact below_drew DZ.out | exact DZ.out))⟩
              rw [HTF.out]
              refine pws_eq (H9.out.put (H9.out.wr.ext ?_) (Below.mono ?_ H9.out.lo.2.2)) (by rw [← HNQ.out]; simp)
              all_goals first | exact below_drewN DZ.out _ | exact below_drew DZ.out | exact DZ.out
            · rw [hin] at hcb
              have HTF := hid (show tailP xs I (numA num (t : Int)) x = parF (patT xs I) (numA num (t : Int)) [eb, ec, ed] by rw [HTL.out, hin]; rfl)
              have HPA := hid (fun (U : World) (hb : Below w9.heap.size w9 U) => parts_pw W1 U B b sp mb xs I (bs ++ nameP ((9 : Nat) : Int) ++ 35 :: Lib.itoa nn) (numA num (t : Int)) (some ⟨ba, oa + 1, none⟩) 3 (c' - 1) [eb, ec, ed] (H9.out.put (H9.out.wr.ext hb) (hb.mono H9.out.lo.2.2)) (fun U hb' _ => HSL.out U hb') HPX.out (by have h1 := HLE.out; rw [HTF.out] at h1; simp only [List.length_append, List.length_cons] at h1 ⊢; omega) (by decide))
              have hcut := run_cut1 (b := ba) (o := oa) (n := 4) (c := c') (by omega) (by decide)
              clear hin HTL
              go_upto_region 16 with fail
              go_quiet (fail)
              go_wp2_with fail
              refine (HPA.out _ (by first | exact below_drewN DZ.out _ | exact below_drew DZ.out | exact DZ.out)).mono ?_
              rintro e wf ⟨rfl, hf, of⟩
              have HF := hid hf
              have OF := hid (OW.out.trans ((OthG.below (by first | exact below_drewN DZ.out _ | exact below_drew DZ.out | exact DZ.out)).trans of))
              clear hf of
              go_wp2_with fail
              go_end0
              refine ⟨rfl, ?_, OF.out⟩
              rw [HTF.out]
              have := HF.out
              rw [← HNQ.out] at this
              simpa using this
          by_cases h8 : k = 8
          · subst h8
            obtain ⟨ea, eb, ec, ed, hl⟩ := four_of_len (HLN.out 8 4 HO.out rfl)
            have hsl := HKL.out w9 H9.out.low
            rw [hl] at hsl q3
            obtain ⟨ba, oa, y, rfl, hy, e0⟩ := hsl.elemI (k := 0) (by simp)
            injection hy with hy
            subst hy
            have hah := HXH.out ea (by rw [hl]; simp)
            have ha2 := has_iff.1 hah
            obtain ⟨ka, rfl⟩ := Int.eq_ofNat_of_zero_le ha2.1
            have hc4 : 4 ≤ c' := hsl.nc
            have q3' : w9.cell? ⟨w.heap.size, 3, none⟩ = some (.slice (some ⟨ba, oa, none⟩) 4 c') := q3
            have q0' : w9.cell? ⟨w.heap.size, 0, none⟩ = some (.int .i64 8) := q0
            have e0' : w9.cell? ⟨ba, oa, none⟩ = some (.int .i64 (ka : Int)) := e0
            have HSL := hid (fun (U : World) (hb : Below W1.heap.size W1 U) => (show SlA U 1 (some ⟨ba, oa + 1, none⟩) 2 (c' - 1) ([eb, ec].map (.int .i64)) from by
              have := HKL.out U hb
              rw [hl] at this
              exact sla_sub (i := 1) (j := 3) this (by decide) (by simp)))
            have hkx : (ka : Int) < (xs.length : Int) := by omega
            have hy := nodeF_get hah
            rw [Int.toNat_natCast] at hy
            have HTL := hid (show tailP xs I (numA num (t : Int)) x = if (nodeF xs (ka : Int)).o = 7 ∧ inB s.i ((nodeF xs (ka : Int)).l.getD 0 0) = true then parF (patT xs I) (numA num (t : Int)) [eb, ec] else ([], numA num (t : Int)) by
              have e : subO xs I x = if (nodeF xs (ka : Int)).o = 7 ∧ inB s.i ((nodeF xs (ka : Int)).l.getD 0 0) = true then some [eb, ec] else none := by
                unfold subO
                rw [HO.out, if_neg (by decide), if_neg (by decide), if_pos (by decide), hl, ← HII.out]
                rfl
              unfold tailP
              by_cases hc : (nodeF xs (ka : Int)).o = 7 ∧ inB s.i ((nodeF xs (ka : Int)).l.getD 0 0) = true
              · rw [e, if_pos hc, if_pos hc]
              · rw [e, if_neg hc, if_neg hc])
            have HPX := hid (fun z (hz : z ∈ [eb, ec]) => HPP.out z (by rw [hl]; simp at hz ⊢; rcases hz with rfl | rfl <;> simp))
            have HY := hid hy
            have HYH := hid (ap_has W1 G R sp _ uv xs s ka _ H.out hy)
            have HYL := hid (fun (ho : (nodeF xs (ka : Int)).o = 7) => ap_len W1 G R sp _ uv xs s ka _ H.out hy (o := 7) (k := 1) ho rfl)
            generalize nodeF xs (ka : Int) = y at *
            obtain ⟨bn2, on2, cn2, A2, k2, e, hcell, hkl2⟩ := H.out.keep HY.out
            injection e with e _ e3
            injection e with e
            injection e with e e'
            subst e; subst e'; subst e3
            obtain ⟨z0, z1, z2, z3⟩ := hcell w9 H9.out.low.size fun b hb _ => H9.out.low.block b hb
            have HK2 := hid hkl2
            obtain ⟨iv2, ov2, ⟨c0, c1, c2, c3⟩, -⟩ := (H.out.ext H9.out.low).cells
            have q2 := H9.out.wr.cell2
            have HPK := hid (fun (U : World) (hb : Below w9.heap.size w9 U) =>
              have up : ∀ {p : Addr} {u : Value}, w9.cell? p = some u → U.cell? p = some u := fun h => (hb.cell (p := _) (block_lt_of_cell h)).trans h
              (show U.cell? ⟨b, 2, none⟩ = some (.pointer (some ⟨sp, 0, none⟩)) ∧ U.cell? ⟨sp, 0, none⟩ = some (.slice (some ⟨bn, on, none⟩) xs.length cn) ∧ U.cell? ⟨w.heap.size, 3, none⟩ = some (.slice (some ⟨ba, oa, none⟩) 4 c') ∧ U.cell? ⟨ba, oa, none⟩ = some (.int .i64 ka) ∧ U.cell? ⟨bn, on + ka * 4, none⟩ = some (.int .i64 y.o) ∧ U.cell? ⟨bn, on + ka * 4 + 1, none⟩ = some (.int .i64 y.n) ∧ U.cell? ⟨bn, on + ka * 4 + 2, none⟩ = some (.string y.s) ∧ U.cell? ⟨bn, on + ka * 4 + 3, none⟩ = some (.slice A2 y.l.length k2) from
                ⟨up q2, up c0, up q3', up e0', up z0, up z1, up z2, up z3⟩))
            have DZ := hid (Below.refl w9.heap.size w9)
            have DA := hid (DZ.out.alloc (Nat.le_refl _) (.cells #[.int .i64 0, .int .i64 0, .string ⟨#[]⟩, .slice none 0 0] 64))
            clear hsl q3 q0 e0 hl ha2 hah hy hcell hkl2 c1 c2 c3
            go_upto_region 19 with fail
            go_cut [8] (fun v U => v = .pointer (some ⟨w9.heap.size, 0, none⟩) ∧ Below w9.heap.size w9 U ∧ U.ownsRow w9.heap.size 64 4 (.slice (some ⟨w9.heap.size, 0, none⟩) 1 1) 1 [.int .i64 y.o, .int .i64 y.n, .string y.s, .slice A2 y.l.length k2])
            case first =>
              go_region_held3 (fun U => U.cell? ⟨b, 2, none⟩ = some (.pointer (some ⟨sp, 0, none⟩)) ∧ U.cell? ⟨sp, 0, none⟩ = some (.slice (some ⟨bn, on, none⟩) xs.length cn) ∧ U.cell? ⟨w.heap.size, 3, none⟩ = some (.slice (some ⟨ba, oa, none⟩) 4 c') ∧ U.cell? ⟨ba, oa, none⟩ = some (.int .i64 ka) ∧ U.cell? ⟨bn, on + ka * 4, none⟩ = some (.int .i64 y.o) ∧ U.cell? ⟨bn, on + ka * 4 + 1, none⟩ = some (.int .i64 y.n) ∧ U.cell? ⟨bn, on + ka * 4 + 2, none⟩ = some (.string y.s) ∧ U.cell? ⟨bn, on + ka * 4 + 3, none⟩ = some (.slice A2 y.l.length k2)) (first | exact HPK.out _ DZ.out | exact HPK.out _ (below_drew DZ.out) | exact HPK.out _ DA.out | exact HPK.out _ (below_drew DA.out) | exact HPK.out _ (below_drew (DZ.out.alloc (Nat.le_refl _) _)) | go_keep) (first | fail)
              all_goals
                go_wp2_with fail
                go_meet
                first
                  | exact ⟨rfl, below_drew ((Below.refl _ _).alloc (Nat.le_refl _) _), own_block boxN fun _ _ => rfl⟩
                  | exact ⟨rfl, below_drewN ((Below.refl _ _).alloc (Nat.le_refl _) _) _, own_block boxN fun _ _ => rfl⟩
                  | exact ⟨rfl, (Below.refl _ _).alloc (Nat.le_refl _) _, boxN⟩
            case rest =>
              obtain ⟨rfl, hb2, hp4⟩ := hcut
              obtain ⟨w10, rfl⟩ : ∃ w10, w10 = wc := ⟨_, rfl⟩
              clear c0 z0 z1 z2 z3 e0' q2 DZ DA HPK
              have HB2 := hid hb2; have HP4 := hid hp4
              have q3u : w10.cell? ⟨w.heap.size, 3, none⟩ = some (.slice (some ⟨ba, oa, none⟩) 4 c') := (hb2.cell (p := _) (block_lt_of_cell q3')).trans q3'
              obtain ⟨⟨p0, p1, p2, p3⟩, -⟩ := box4 hp4
              have HW10 := hid (H9.out.put (H9.out.wr.ext hb2) (hb2.mono H9.out.lo.2.2))
              have OZ := hid (OW.out.trans (OthG.below hb2))
              have q2u := HW10.out.wr.cell2
              have DZ := hid (Below.refl w10.heap.size w10)
              clear hb2 hp4 q3'
              by_cases hyo : y.o = 7
              · obtain ⟨k0, hyl⟩ := one_of_len (HYL.out hyo)
                have hsy := HK2.out.here.ext HW10.out.low
                rw [hyl] at hsy p3
                obtain ⟨by', oy, z, rfl, hz, f0⟩ := hsy.elemI (k := 0) (by simp)
                injection hz with hz
                subst hz
                have hk2 := has_iff.1 (HYH.out k0 (by rw [hyl]; simp))
                obtain ⟨q, rfl⟩ := Int.eq_ofNat_of_zero_le hk2.1
                rw [hyo] at p0
                have f0' : w10.cell? ⟨by', oy, none⟩ = some (.int .i64 (q : Int)) := f0
                have p3' : w10.cell? ⟨w9.heap.size, 3, none⟩ = some (.slice (some ⟨by', oy, none⟩) 1 k2) := p3
                obtain ⟨iv3, ov3, ⟨c0, c1, c2, c3⟩, -, own1, -⟩ := (H.out.ext HW10.out.low).cells
                have hlen := H.out.len
                obtain ⟨ib, cap, rfl, hcb, hfb⟩ := in_cell own1 (t := q) (by omega)
                have hqi : (q : Int) < (s.i.length : Int) := by omega
                have HTL2 := hid (show tailP xs I (numA num (t : Int)) x = if inB s.i (q : Int) = true then parF (patT xs I) (numA num (t : Int)) [eb, ec] else ([], numA num (t : Int)) by
                  rw [HTL.out, hyo, hyl]
                  show (if (7 : Int) = 7 ∧ inB s.i (q : Int) = true then _ else _) = _
                  simp)
                clear hsy p3 f0 own1 hlen hk2 hyl hyo HTL
                rcases hin : inB s.i (q : Int) with _ | _
                · rw [hin] at hcb
                  have HTF := hid (show tailP xs I (numA num (t : Int)) x = ([], numA num (t : Int)) by rw [HTL2.out, hin]; rfl)
                  clear hin HTL2
                  go_upto_region 20 with fail
                  go_quiet (fail)
                  go_wp2_with fail
                  go_end0
                  refine ⟨rfl, ?_, OZ.out.trans (OthG.below (by first | exact below_drewN DZ.out _ | exact below_drew DZ.out | exact DZ.out))⟩
                  rw [HTF.out]
                  refine pws_eq (HW10.out.put (HW10.out.wr.ext ?_) (Below.mono ?_ HW10.out.lo.2.2)) (by rw [← HNQ.out]; simp)
                  all_goals first | exact below_drewN DZ.out _ | exact below_drew DZ.out | exact DZ.out
                · rw [hin] at hcb
                  have HTF := hid (show tailP xs I (numA num (t : Int)) x = parF (patT xs I) (numA num (t : Int)) [eb, ec] by rw [HTL2.out, hin]; rfl)
                  have HPA := hid (fun (U : World) (hb : Below w10.heap.size w10 U) => parts_pw W1 U B b sp mb xs I (bs ++ nameP ((8 : Nat) : Int) ++ 35 :: Lib.itoa nn) (numA num (t : Int)) (some ⟨ba, oa + 1, none⟩) 2 (c' - 1) [eb, ec] (HW10.out.put (HW10.out.wr.ext hb) (hb.mono HW10.out.lo.2.2)) (fun U hb' _ => HSL.out U hb') HPX.out (by have h1 := HLE.out; rw [HTF.out] at h1; simp only [List.length_append, List.length_cons] at h1 ⊢; omega) (by decide))
                  have hcut := run_cut13 (b := ba) (o := oa) (n := 4) (c := c') (by omega)
                  clear hin HTL2
                  go_upto_region 20 with fail
                  go_quiet (fail)
                  go_wp2_with fail
                  refine (HPA.out _ (by first | exact below_drewN DZ.out _ | exact below_drew DZ.out | exact DZ.out)).mono ?_
                  rintro e wf ⟨rfl, hf, of⟩
                  have HF := hid hf
                  have OF := hid (OZ.out.trans ((OthG.below (by first | exact below_drewN DZ.out _ | exact below_drew DZ.out | exact DZ.out)).trans of))
                  clear hf of
                  go_wp2_with fail
                  go_end0
                  refine ⟨rfl, ?_, OF.out⟩
                  rw [HTF.out]
                  have := HF.out
                  rw [← HNQ.out] at this
                  simpa using this
              · have hyo' : (y.o == 7) = false := beq_eq_false_iff_ne.2 hyo
                have HTF := hid (show tailP xs I (numA num (t : Int)) x = ([], numA num (t : Int)) by rw [HTL.out, if_neg fun h => hyo h.1])
                clear hyo HTL
                go_upto_region 20 with fail
                go_quiet (fail)
                go_wp2_with fail
                go_end0
                refine ⟨rfl, ?_, OZ.out.trans (OthG.below (by first | exact below_drewN DZ.out _ | exact below_drew DZ.out | exact DZ.out))⟩
                rw [HTF.out]
                refine pws_eq (HW10.out.put (HW10.out.wr.ext ?_) (Below.mono ?_ HW10.out.lo.2.2)) (by rw [← HNQ.out]; simp)
                all_goals first | exact below_drewN DZ.out _ | exact below_drew DZ.out | exact DZ.out
          have e10 : ((k : Int) == 10) = false := beq_eq_false_iff_ne.2 (by omega)
          have e9 : ((k : Int) == 9) = false := beq_eq_false_iff_ne.2 (by omega)
          have e8 : ((k : Int) == 8) = false := beq_eq_false_iff_ne.2 (by omega)
          have HTL := hid (show tailP xs I (numA num (t : Int)) x = ([], numA num (t : Int)) by
            unfold tailP subO
            rw [HO.out, if_neg (by omega), if_neg (by omega), if_neg (by omega)])
          clear h10 h9 h8
          go_wp2_with fail
          go_end0
          refine ⟨rfl, ?_, OW.out⟩
          rw [HTL.out]
          have := H9.out
          rw [← HNQ.out] at this
          simpa using this
end Go.Proofs.YtfmkniakfgpgjaaGreatDoor

/- deduce: term, whatever it is. -/
namespace Go.Proofs.YtfmkniakfgpgjaaGreatDoor
open Go.RowKit Go.KK Go.Shelf Go.Maps
set_option linter.unusedVariables false
set_option linter.unusedSimpArgs false

theorem opG_range {o : Int} {n : Nat} (h : lenB o n = true) : 1 ≤ o ∧ o ≤ 12 := by
  unfold lenB at h
  rcases ha : arN o with _ | k
  · rw [ha] at h
    have := eq_of_beq h
    omega
  · unfold arN at ha
    split at ha <;> first | omega | cases ha
theorem wt_all (W1 : World) (G R : Nat → Prop) (B b sp mb : Nat) (lv uv : Value) (xs : List ND) (s : SD) (I : Int → Bool) (h : SpA W1 G R sp lv uv xs s) (hT : Tb W1.heap.size W1) (hI : ∀ y, I y = inB s.i y) (hs : ∀ x ∈ xs, x.s.size ≤ 1000000) :
    ∀ (N : Nat) (t : Int), t.toNat < N → hasB xs t = true → WtD W1 B b sp mb xs I t := by
  intro N
  induction N with
  | zero => intro t h; omega
  | succ N ih =>
    intro t hN ht
    have hx := nodeF_get ht
    have ht2 := has_iff.1 ht
    have hp : ∀ y ∈ (nodeF xs t).l, WtD W1 B b sp mb xs I y := fun y hy => by
      have := part_lt h.ok ht hy
      exact ih y (by omega) this.2.2
    have hr : 1 ≤ (nodeF xs t).o ∧ (nodeF xs t).o ≤ 12 := opG_range (nd_len h.ok ht)
    have ht0 : ((t.toNat : Nat) : Int) = t := by omega
    rw [← ht0]
    generalize nodeF xs t = x at *
    by_cases h2 : x.o = 2
    · exact wt2 W1 G R B b sp mb lv uv xs s I t.toNat x h hx h2 (hs x (List.mem_of_getElem? hx))
    by_cases h3 : x.o = 3
    · exact wt3 W1 G R B b sp mb lv uv xs s I t.toNat x h hx h3 hp
    by_cases h1 : x.o = 1
    · exact wtN W1 G R B b sp mb lv uv xs s I t.toNat x h hx 1 h1 (.inl rfl) hT hI hp
    rcases ha : x.l.all (inB s.i) with _ | _
    · exact wtN W1 G R B b sp mb lv uv xs s I t.toNat x h hx x.o.toNat (by omega) (.inr ⟨by omega, by omega, ha⟩) hT hI hp
    · exact wtA W1 G R B b sp mb lv uv xs s I t.toNat x h hx x.o.toNat (by omega) (by omega) (by omega) ha hI hp
end Go.Proofs.YtfmkniakfgpgjaaGreatDoor

/- plain: what can be derived, computed; patterns of another test that answers alike. -/
namespace Go.KK
open Go.RowKit
set_option linter.unusedVariables false
set_option linter.unusedSimpArgs false

/-- A text in memory. -/
def strV (p : List UInt8) : Value := .string ⟨p.toArray⟩
/-- A pattern asks for terms alone. -/
theorem sub_congr {xs : List ND} (ok : Okay xs) {I J : Int → Bool} (h : ∀ t, hasB xs t = true → I t = J t) {t : Int} (ht : hasB xs t = true) : subO xs I (nodeF xs t) = subO xs J (nodeF xs t) := by
  unfold subO
  split
  · rfl
  · split
    · rename_i h9
      have hl := nd_len ok ht
      have : 0 < (nodeF xs t).l.length := by
        have := len_of ok ht h9 rfl
        omega
      rw [h _ (has_part ok ht (getD_mem this))]
    · split
      · rename_i h8
        have hl := len_of ok ht h8 rfl
        have h0 := has_part ok ht (getD_mem (l := (nodeF xs t).l) (k := 0) (by omega))
        by_cases h7 : (nodeF xs ((nodeF xs t).l.getD 0 0)).o = 7
        · have hl2 := len_of ok h0 h7 rfl
          rw [h _ (has_part ok h0 (getD_mem (by omega)))]
        · rw [if_neg fun e => h7 e.1, if_neg fun e => h7 e.1]
      · rfl
theorem all_congr {l : List Int} {I J : Int → Bool} (h : ∀ x ∈ l, I x = J x) : l.all I = l.all J := by
  rw [Bool.eq_iff_iff, List.all_eq_true, List.all_eq_true]
  exact ⟨fun k x hx => by rw [← h x hx]; exact k x hx, fun k x hx => by rw [h x hx]; exact k x hx⟩
theorem pat_congr {xs : List ND} (ok : Okay xs) {I J : Int → Bool} (h : ∀ t, hasB xs t = true → I t = J t) : ∀ (N : Nat) (t : Int), t.toNat < N → hasB xs t = true → ∀ a, patT xs I a t = patT xs J a t := by
  intro N
  induction N with
  | zero => intro t h; omega
  | succ N ih =>
    intro t hN ht a
    have sub : ∀ x ∈ (nodeF xs t).l, ∀ a, patT xs I a x = patT xs J a x := fun x hx a => by
      have hp := part_lt ok ht hx
      exact ih x (by omega) hp.2.2 a
    rw [pat_eq ok I ht a, pat_eq ok J ht a, sub_congr ok h ht, all_congr fun x hx => h x (has_part ok ht hx)]
    split
    · rfl
    · split
      · rw [parF_congr a sub]
      · rcases hs : subO xs J (nodeF xs t) with _ | l
        · rfl
        · simp only
          rw [parF_congr _ fun x hx => sub x (sub_mem ok ht hs x hx)]
theorem pats_congr {xs : List ND} (ok : Okay xs) {I J : Int → Bool} (h : ∀ t, hasB xs t = true → I t = J t) : ∀ (l a : List Int), (∀ x ∈ l, hasB xs x = true) → patsF xs I a l = patsF xs J a l
  | [], a, _ => rfl
  | t :: l, a, hl => by
    show ((patT xs I a t).1 :: (patsF xs I (patT xs I a t).2 l).1, (patsF xs I (patT xs I a t).2 l).2) = ((patT xs J a t).1 :: (patsF xs J (patT xs J a t).2 l).1, (patsF xs J (patT xs J a t).2 l).2)
    rw [pat_congr ok h (t.toNat + 1) t (by omega) (hl t (by simp)), pats_congr ok h l _ fun x hx => hl x (by simp [hx])]
end Go.KK

