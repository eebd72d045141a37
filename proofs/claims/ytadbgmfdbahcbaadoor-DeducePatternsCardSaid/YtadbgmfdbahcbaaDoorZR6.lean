import Derived.Test.YtadbgmfdbahcbaaDoorZR5
/- the document's layer 5: Known. -/
namespace Go.Proofs.YtadbgmfdbahcbaaDoor
open Go.RowKit Go.KK Go.Shelf Go.Maps
set_option linter.unusedVariables false
set_option linter.unusedSimpArgs false

theorem met_snoc {xs : List ND} {l : List Int} {t x : Int} : KK.Met xs (l ++ [t]) x ↔ KK.Met xs l x ∨ KK.Met xs [t] x := by
  constructor
  · rintro ⟨k, hk, hr⟩
    rcases List.mem_append.1 hk with h | h
    · exact .inl ⟨k, h, hr⟩
    · exact .inr ⟨k, h, hr⟩
  · rintro (⟨k, hk, hr⟩ | ⟨k, hk, hr⟩)
    · exact ⟨k, List.mem_append_left _ hk, hr⟩
    · exact ⟨k, List.mem_append_right _ hk, hr⟩
set_option maxHeartbeats 8000000 in
set_option maxRecDepth 100000 in
theorem rknown_any (sb : Nat) (xs : List ND) (w : World) (hA : ArV w 59 sb xs) (hok : Okay xs) (hx40 : xs.length ≤ 1000) (A : Option Addr) (n c : Nat) (known : List Int) (hl : SlA w 1 A n c (known.map (.int .i64))) (hn : n ≤ 100) :
    Calls Tryd.prog 18 #[.pointer (some ⟨sb, 0, none⟩), .slice A n c] w fun e w' => KnownP w xs known e w' := by
  obtain ⟨i0, hi, hz0, hz1, hz2⟩ := info_parts Tryd.infoInt
  have HA := hid hA; have HOK := hid hok; have HL := hid hl
  have hln := hl.lenI
  have HBD := hid (bad_any sb xs w hA A n c known hl (by omega))
  have HDV := hid (fun (hh : ∀ t ∈ known, hasB xs t = true) => rderived_any sb xs w hA hok A n c known hl hh (by omega))
  clear hA hok hl
  go_enter Tryd.func18, Tryd.ntmps18
  go_wp2_with fail
  refine HBD.out.mono ?_
  rintro e w1 ⟨rfl, hw1⟩
  subst hw1
  rcases hall : known.all (hasB xs) with _ | _
  · have HF := hid hall
    clear hall
    go_wp2_with fail
    first | go_ret2 | go_ret
    exact (show KnownP _ _ _ _ _ from .inl ⟨HF.out, rfl, Below.refl _ _⟩)
  have HF := hid hall
  have HH := hid (List.all_eq_true.1 hall)
  have HDD := hid (HDV.out (List.all_eq_true.1 hall))
  clear hall HDV HBD
  go_wp2_with fail
  refine HDD.out.mono ?_
  rintro e w2 ⟨mb, I, rfl, hI, hd, -, b2⟩
  have HI := hid hI; have HD := hid hd; have HB2 := hid b2
  clear hI hd b2 HDD
  go_wp2_with fail
  go_loopw [21, 7] (fun v o wr => ∃ (j : Nat) (P : List Int), v = .int .i64 j ∧ j ≤ n ∧ Hid (wr.ownsRow w2.heap.size 3 1 o P.length (P.map (.int .i64)) ∧ Below w2.heap.size w2 wr ∧ (∀ x, x ∈ P ↔ KK.Met xs (known.take j) x) ∧ P.length ≤ 1000 * j)) (fun v _ _ => n - (intOf v).toNat)
  case atStart => exact ⟨0, [], rfl, Nat.zero_le _, hid ⟨World.ownsRow_nil _ _ _ _, Below.refl _ _, fun x => ⟨fun h => by simp at h, fun ⟨k, hk, _⟩ => by simp at hk⟩, by simp⟩⟩
  case round =>
    obtain ⟨j, P, hv, hj, HR⟩ := hrel
    subst hv
    have HBW := hid (HB2.out.trans (HR.out.2.1.mono HB2.out.size))
    obtain ⟨Ao, co, rfl, -⟩ := SlA.owned HR.out.1
    by_cases hlt : j < n
    · have hlt' : (j : Int) < (n : Int) := by omega
      obtain ⟨b1, o1, u, rfl, huj, hcu⟩ := (HL.out.ext HBW.out).elemI hlt
      have huh := has_iff.1 (HH.out u (List.mem_of_getElem? huj))
      obtain ⟨q, rfl⟩ := Int.eq_ofNat_of_zero_le huh.1
      have HTK := hid (take_one huj)
      have HPR := hid (rparts_any sb xs wr (HA.out.ext HBW.out) HOK.out q (by omega))
      clear huj huh
      go_wp2_with fail
      refine HPR.out.mono ?_
      rintro e w3 ⟨A3, c3, PL, rfl, s3, hm3, hl3, b3⟩
      have HS3 := hid s3; have HM3 := hid hm3; have HB3 := hid (HR.out.2.1.trans (b3.mono HR.out.2.1.size)); have HO3 := hid (own_ext HR.out.1 b3)
      have HPL := hid HR.out.2.2.2
      have HMP := hid HR.out.2.2.1
      clear s3 hm3 b3 HPR HR
      go_wp2_with (first
        | (at_builtin; refine wpList_append_sl _ rfl _ _ 23 rfl w2.heap.size 3 i0 (.int .i64 0) 1 8 Tryd.underlying23 hi hz0 hz1 hz2 rfl (by decide) (.slice Ao P.length co) P.length (P.map (.int .i64)) rfl HO3.out A3 PL.length c3 (PL.map (.int .i64)) rfl HS3.out (ints_one _ _) (by have := HPL.out; unfold maxLen; omega) (by have := HPL.out; omega) HB3.out.size ?_; intro v5 w5 own5 gr5 loc5; have HO5 := hid own5; have HB5 := hid (below_append HB3.out gr5 HO3.out (Nat.le_refl _) HB3.out.size); clear own5 gr5 loc5)
        | fail)
      go_roundw
      case rel =>
        refine ⟨j + 1, P ++ PL, by go_num, by omega, hid ⟨by rw [List.length_append, List.map_append]; exact HO5.out, HB5.out, fun x => ?_, by have := HPL.out; rw [List.length_append]; omega⟩⟩
        rw [HTK.out, met_snoc, List.mem_append, HMP.out, HM3.out]
      case measure => simp [intOf]; omega
    · have hjn : j = n := by omega
      subst hjn
      have hlt' : ¬ ((j : Nat) : Int) < (j : Int) := by omega
      have HRK := hid (show (risL P).filter (inB I) = knF xs known from ris_kn HOK.out (by
        have := HR.out.2.2.1
        rwa [show known.take j = known from List.take_of_length_le (by omega)] at this) HD.out)
      have HRH := hid (show ∀ x ∈ risL P, 0 ≤ x ∧ x < (xs.length : Int) from fun x hx => by
        have h := (ris_ok P [] .nil).2 x
        have hxP : x ∈ P := by simpa [risL] using h.1 hx
        have := (HR.out.2.2.1 x).1 hxP
        exact has_iff.1 (met_has HOK.out this))
      have hPl := HR.out.2.2.2
      have hRl : (risL P).length ≤ P.length := by have := risL_le P []; simpa [risL] using this
      have HRS := hid (rising_any Ao P.length co P wr (SlA.of_own HR.out.1).2 (by omega))
      have HBR := hid HR.out.2.1
      clear hlt HR
      generalize risL P = RP at *
      go_wp2_with fail
      refine HRS.out.mono ?_
      rintro e w4 ⟨v4, rfl, own4, b4⟩
      obtain ⟨A4, c4, rfl, -⟩ := SlA.owned own4
      have HS4 := hid (SlA.of_own own4).2
      have HB24 := hid (HBR.out.trans (b4.mono HBR.out.size))
      have HIB := hid (fun (U : World) (hb : Below w4.heap.size w4 U) => HI.out.ext (HB24.out.trans (hb.mono HB24.out.size)))
      clear own4 b4 HRS
      generalize hRPn : RP.length = rn at *
      have HRN := hid hRPn
      clear hRPn
      go_wp2_with fail
      go_loopw [34, 10] (fun v o wq => ∃ i : Nat, v = .int .i64 i ∧ i ≤ rn ∧ Hid (wq.ownsRow w4.heap.size 3 1 o ((RP.take i).filter (inB I)).length (((RP.take i).filter (inB I)).map (.int .i64)) ∧ Below w4.heap.size w4 wq)) (fun v _ _ => rn - (intOf v).toNat)
      case atStart => exact ⟨0, rfl, Nat.zero_le _, hid ⟨World.ownsRow_nil _ _ _ _, Below.refl _ _⟩⟩
      case round =>
        obtain ⟨i, hv, hi', HQ⟩ := hrel
        subst hv
        obtain ⟨Aq, cq, rfl, -⟩ := SlA.owned HQ.out.1
        by_cases hlti : i < rn
        · have hlti' : (i : Int) < (rn : Int) := by omega
          obtain ⟨b1, o1, u, rfl, hui, hcu⟩ := (HS4.out.ext HQ.out.2).elemI hlti
          have huh := HRH.out u (List.mem_of_getElem? hui)
          obtain ⟨q, rfl⟩ := Int.eq_ofNat_of_zero_le huh.1
          have hqx : (q : Int) < (xs.length : Int) := huh.2
          have d0 := (HIB.out _ HQ.out.2).at (t := q) (by omega)
          have HTK := hid (show (RP.take (i + 1)).filter (inB I) = (RP.take i).filter (inB I) ++ (if inB I (q : Int) then [(q : Int)] else []) by
            rw [take_one hui, List.filter_append, List.filter_cons, List.filter_nil])
          have HPL := hid (show ((RP.take i).filter (inB I)).length ≤ i from Nat.le_trans (List.length_filter_le _ _) (by simp; omega))
          clear hui huh
          rcases hin : inB I (q : Int) with _ | _
          · rw [hin] at d0
            have HP1 := hid (show (RP.take (i + 1)).filter (inB I) = (RP.take i).filter (inB I) by rw [HTK.out, hin]; simp)
            clear hin
            go_wp2_with fail
            go_roundw
            case rel => exact ⟨i + 1, by go_num, by omega, hid ⟨by rw [HP1.out]; exact HQ.out.1, HQ.out.2⟩⟩
            case measure => simp [intOf]; omega
          · rw [hin] at d0
            have HP1 := hid (show (RP.take (i + 1)).filter (inB I) = (RP.take i).filter (inB I) ++ [(q : Int)] by rw [HTK.out, hin]; rfl)
            have HOW := hid HQ.out.1
            have HBL := hid HQ.out.2
            clear hin HTK HQ
            generalize (RP.take i).filter (inB I) = pj at *
            go_wp2_with (first
              | (at_builtin; refine wpList_append_sl _ rfl _ _ 23 rfl _ 3 i0 (.int .i64 0) 1 8 Tryd.underlying23 hi hz0 hz1 hz2 rfl (by decide) (.slice Aq pj.length cq) pj.length (pj.map (.int .i64)) rfl (HOW.out.alloc _) _ 1 1 [.int .i64 q] rfl (SlA.lit1 _) (one_int _ _) (by have := HPL.out; unfold maxLen; omega) (by have := HPL.out; omega) (by have := HBL.out.size; simp; omega) ?_; intro v5 w5 own5 gr5 loc5; have HO5 := hid own5; have HB5 := hid (below_append (HBL.out.alloc HBL.out.size (.cells #[.int .i64 q] 3)) gr5 (HOW.out.alloc _) (Nat.le_refl _) (by have := HBL.out.size; simp; omega)); clear own5 gr5 loc5)
              | fail)
            go_roundw
            case rel => exact ⟨i + 1, by go_num, by omega, hid ⟨by rw [HP1.out, List.length_append, List.map_append]; exact HO5.out, HB5.out⟩⟩
            case measure => simp [intOf]; omega
        · have hin : i = rn := by omega
          subst hin
          have hlti' : ¬ ((i : Nat) : Int) < (i : Int) := by omega
          have HEQ := hid (show (RP.take i).filter (inB I) = knF xs known by rw [List.take_of_length_le (by have := HRN.out; omega), HRK.out])
          have HB24s := hid HB24.out.size
          have HRES := hid (show wr.ownsRow w1.heap.size 3 1 (.slice Aq (knF xs known).length cq) (knF xs known).length ((knF xs known).map (.int .i64)) from by
            have := own_mono HQ.out.1 (show w1.heap.size ≤ w4.heap.size from Nat.le_trans HB2.out.size HB24s.out)
            rw [HEQ.out] at this
            exact this)
          have HBZ := hid (HB2.out.trans ((HB24.out.trans (HQ.out.2.mono HB24.out.size)).mono HB2.out.size))
          clear hlti HQ
          go_wp2_with fail
          first | go_ret2 | go_ret
          exact (show KnownP _ _ _ _ _ from .inr ⟨HF.out, Aq, cq, by rw [HEQ.out] <;> rfl, HRES.out, HBZ.out⟩)
end Go.Proofs.YtadbgmfdbahcbaaDoor

