import Derived.Test.YtadbgmfdbahcbaaDoorZR2
import Derived.Deep.LoopGhost
import Derived.Test.YtadbgmfdbahcbaaDoorZa
/- the document's layer 5: derived. -/
namespace Go.KK
open Go.RowKit
set_option linter.unusedVariables false
set_option linter.unusedSimpArgs false
/-- What is in can be derived, and all that is known is in. -/
structure DvI (xs : List ND) (known : List Int) (I : List Bool) : Prop where
  snd : ∀ t, hasB xs t = true → inB I t = true → Der xs known t
  kn : ∀ t ∈ known, inB I t = true
theorem DvI.put {xs : List ND} {known : List Int} {I : List Bool} (h : DvI xs known I) (hl : I.length = xs.length) (hk : ∀ t ∈ known, hasB xs t = true) {x : Int} (hx : hasB xs x = true) (hd : Der xs known x) : DvI xs known (I.set x.toNat true) := by
  have h0 := has_iff.1 hx
  refine ⟨fun t ht hi => ?_, fun t ht => ?_⟩
  · have ht0 := has_iff.1 ht
    rw [inB_set h0.1 ht0.1 (by omega)] at hi
    rcases Bool.or_eq_true _ _ ▸ hi with e | e
    · rw [of_decide_eq_true e]; exact hd
    · exact h.snd t ht e
  · have ht0 := has_iff.1 (hk t ht)
    rw [inB_set h0.1 ht0.1 (by omega), h.kn t ht, Bool.or_true]
theorem DvI.done {xs : List ND} (ok : Okay xs) {known : List Int} {I : List Bool} (h : DvI xs known I) (hk : ∀ t ∈ known, hasB xs t = true) (hc : ∀ t, hasB xs t = true → ∀ x ∈ nextF xs (inB I) t, inB I x = true) : ∀ t, hasB xs t = true → inB I t = derB xs known t := fun t ht => by
  rw [Bool.eq_iff_iff, derB_iff]
  exact ⟨h.snd t ht, fun hd => der_least (next_cl ok hc) (fun x hx => h.kn x hx) hd⟩
theorem next_le {xs : List ND} (ok : Okay xs) (f : Int → Bool) {t : Int} (ht : hasB xs t = true) : (nextF xs f t).length ≤ 64 := by
  have h := nd_le ok ht
  unfold nextF
  repeat' split
  all_goals simp
  all_goals omega
theorem count_set {I : List Bool} {k : Nat} (hk : k < I.length) (h : inB I (k : Int) = false) : (I.set k true).count false + 1 = I.count false := by
  have hf : I[k] = false := by
    unfold inB at h
    rw [Int.toNat_natCast, List.getD, List.getElem?_eq_getElem hk] at h
    simpa using h
  rw [List.count_set (h := hk), hf]
  have := List.count_pos_iff.2 (hf ▸ List.getElem_mem hk)
  simp
  omega
end Go.KK
namespace Go.Proofs.YtadbgmfdbahcbaaDoor
open Go.RowKit Go.KK Go.Shelf Go.Maps

theorem BlR.put {w : World} {mb N : Nat} {I : List Bool} (h : BlR w mb N I) {t : Nat} (ht : t < N) : BlR (w.setCell ⟨mb, t, none⟩ (.bool true)) mb N (I.set t true) := ⟨(bool_cell h.1 h.2 ht).2.2, by rw [List.length_set]; exact h.2⟩
theorem BlR.ne {w : World} {mb N k : Nat} {I : List Bool} (h : BlR w mb N I) {z : Int} (hc : w.cell? ⟨mb, k, none⟩ = some (.int .i64 z)) : False := by
  rcases h.1.2 with ⟨e, h0⟩ | ⟨g, cap, cur, e, hbg, hh, hnc, hcm, hcs, htk⟩
  · cases e
  · injection e with e1 e2 e3
    injection e1 with e1
    injection e1 with e1
    subst e1; subst e3
    have hcc : cur.toList = I.map .bool := by
      rw [← htk, List.take_of_length_le (by rw [Array.length_toList]; omega)]
    have : (Value.int .i64 z) ∈ cur.toList := by
      have h2 : w.cell? ⟨mb, k, none⟩ = cur[k]? := by rw [Lib.cell_of_heap hh]
      rw [h2] at hc
      have h3 : cur.toList[k]? = some (.int .i64 z) := by rw [Array.getElem?_toList]; exact hc
      exact List.mem_of_getElem? h3
    rw [hcc] at this
    obtain ⟨b, -, hb⟩ := List.mem_map.1 this
    cases hb
theorem sla_set {w : World} {A : Option Addr} {n c : Nat} {cs : List Value} {mb k : Nat} {v : Value} (h : SlA w 1 A n c cs) (hne : ∀ b o, A = some ⟨b, o, none⟩ → 0 < n → b ≠ mb) : SlA (w.setCell ⟨mb, k, none⟩ v) 1 A n c cs := by
  have hl := h.len
  refine ⟨h.nc, h.cm, h.len, fun j u hj => ?_⟩
  obtain ⟨b, off, rfl, hc⟩ := h.cells j u hj
  have hlt := (List.getElem?_eq_some_iff.1 hj).1
  have := hne b off rfl (by omega)
  exact ⟨b, off, rfl, (World.cell?_of_block (a := ⟨b, off + j, none⟩) (Below.heap_setCell w ⟨mb, k, none⟩ v b this)).trans hc⟩
/-- What derived leaves. -/
def DrvP (w : World) (xs : List ND) (known : List Int) (e : Ending) (w' : World) : Prop := ∃ mb I, e = .returned (.slice (some ⟨mb, 0, none⟩) xs.length xs.length) ∧ BlR w' mb xs.length I ∧ (∀ t, hasB xs t = true → inB I t = derB xs known t) ∧ w.heap.size ≤ mb ∧ Below w.heap.size w w'
set_option maxHeartbeats 8000000 in
set_option maxRecDepth 100000 in
theorem rderived_any (sb : Nat) (xs : List ND) (w : World) (hA : ArV w 59 sb xs) (hok : Okay xs) (A : Option Addr) (n c : Nat) (known : List Int) (hl : SlA w 1 A n c (known.map (.int .i64))) (hh : ∀ t ∈ known, hasB xs t = true) (hn : n ≤ 1000000) :
    Calls Tryd.prog 32 #[.pointer (some ⟨sb, 0, none⟩), .slice A n c] w fun e w' => DrvP w xs known e w' := by
  have HA := hid hA; have HOK := hid hok; have HL := hid hl; have HH := hid hh
  have hln := hl.lenI
  have hxn : xs.length ≤ 100000 := hok.len
  have hmk1 : ∀ U : World, (Instr.makeSlice 74 (.int .i64 (xs.length : Int)) (.int .i64 (xs.length : Int))).run Tryd.prog U = .ok (.slice (some ⟨U.heap.size, 0, none⟩) xs.length xs.length) (U.alloc (.cells (madeCells #[.bool false] xs.length) 4)) := by
    obtain ⟨b0, b1, b2, b3, b4⟩ := info_parts infoBool
    exact make1 Tryd.underlying74 b1 b2 b3 b4 (by decide) rfl hxn
  have HBC := hid (made1 (.bool false) xs.length)
  generalize madeCells #[Value.bool false] xs.length = bc at *
  clear hA hok hl hh
  go_enter Tryd.func32, Tryd.ntmps32
  go_wp2_with fail
  refine (rlen_any sb xs _ HA.out).mono ?_
  rintro e w1 ⟨rfl, hw⟩
  subst hw
  go_upto_region 2 with fail
  refine forget (R := fun V => BlR V w1.heap.size xs.length (List.replicate xs.length false) ∧ Below w1.heap.size w1 V) ?_ ⟨⟨by rw [List.map_replicate]; exact own_mono (own_new HBC.out hxn) (Nat.zero_le _), by simp⟩, (Below.refl _ _).alloc (Nat.le_refl _) _⟩
  clear hmk1 HBC
  rintro V ⟨hv, hbv⟩
  have HV := hid hv; have HBV := hid hbv
  clear hv hbv
  generalize hmb : w1.heap.size = mb at *
  have HMB := hid hmb
  clear hmb
  go_wp2_with fail
  go_loopw [17] (fun v wr => ∃ j : Nat, v = .int .i64 j ∧ j ≤ n ∧ Hid (BlR wr mb xs.length (setsB (List.replicate xs.length false) (known.take j)) ∧ Below mb w1 wr)) (fun v _ => n - (intOf v).toNat)
  case atStart => exact ⟨0, rfl, Nat.zero_le _, hid ⟨HV.out, HBV.out⟩⟩
  case round =>
    clear HV HBV
    obtain ⟨j, hv, hj, HR⟩ := hrel
    subst hv
    by_cases hlt : j < n
    · obtain ⟨b1, o1, u, rfl, huj, hcu⟩ := (HL.out.ext (by rw [HMB.out]; exact HR.out.2)).elemI hlt
      have huh := HH.out u (List.mem_of_getElem? huj)
      obtain ⟨q, rfl⟩ := Int.eq_ofNat_of_zero_le (has_iff.1 huh).1
      have hqx : (q : Int) < (xs.length : Int) := (has_iff.1 huh).2
      have hlt' : (j : Int) < (n : Int) := by omega
      have HTK := hid (show setsB (List.replicate xs.length false) (known.take (j + 1)) = (setsB (List.replicate xs.length false) (known.take j)).set q true by rw [take_one huj, setsB_snoc, Int.toNat_natCast])
      obtain ⟨d0, d1, -⟩ := bool_cell HR.out.1.1 HR.out.1.2 (t := q) (by omega)
      have HD := hid (HR.out.1.put (t := q) (by omega))
      clear huj huh
      go_wp2_with fail
      go_roundw
      case rel => exact ⟨j + 1, by go_num, by omega, hid ⟨by rw [HTK.out]; exact HD.out, HR.out.2.setCell (p := ⟨mb, q, none⟩) (Nat.le_refl _) _⟩⟩
      case measure => simp [intOf]; omega
    · have hjn : j = n := by omega
      subst hjn
      have hlt' : ¬ ((j : Nat) : Int) < (j : Int) := by omega
      have HTK := hid (show known.take j = known from List.take_of_length_le (by omega))
      have HS := hid (show ∃ I, BlR wr mb xs.length I ∧ Below mb w1 wr ∧ DvI xs known I from by
        have h := HR.out
        rw [HTK.out] at h
        refine ⟨_, h.1, h.2, ?_⟩
        have hin := setsB_in known (List.replicate xs.length false) (fun x hx => by
          have := has_iff.1 (HH.out x hx)
          rw [List.length_replicate]
          omega)
        refine ⟨fun t ht hi => ?_, fun t ht => (hin t (has_iff.1 (HH.out t ht)).1).2 (.inr ht)⟩
        rcases (hin t (has_iff.1 ht).1).1 hi with e | e
        · rw [inB_rep] at e; cases e
        · exact der_known e)
      clear hlt HR
      go_wp2_with fail
      obtain ⟨I0, hs⟩ := HS.out
      have HS0 := hid hs
      clear hs HS
      go_loopg [8] (2 * I0.count false + 1) (fun k v wr => ∃ (ag : Bool) (I : List Bool), v = .bool ag ∧ Hid (BlR wr mb xs.length I ∧ Below mb w1 wr ∧ DvI xs known I ∧ (ag = false → ∀ t, hasB xs t = true → ∀ x ∈ nextF xs (inB I) t, inB I x = true)) ∧ 2 * I.count false + (if ag then 1 else 0) ≤ k)
      case atStart => exact ⟨true, I0, rfl, hid ⟨HS0.out.1, HS0.out.2.1, HS0.out.2.2, fun e => by cases e⟩, by simp⟩
      case round =>
        clear HS0
        obtain ⟨ag, I, hv, HR, hk⟩ := hrel
        subst hv
        rcases ag with _ | _
        · have HF := hid (HR.out.2.2.1.done HOK.out HH.out (HR.out.2.2.2 rfl))
          go_wp2_with fail
          go_ret
          exact (show DrvP _ _ _ _ _ from ⟨mb, I, rfl, HR.out.1, HF.out, Nat.le_of_eq HMB.out, by rw [HMB.out]; exact HR.out.2.1⟩)
        · have hk1 : 2 * I.count false + 1 ≤ gk := by simpa using hk
          have HR0 := hid (show BlR wr mb xs.length I ∧ Below mb w1 wr ∧ DvI xs known I from ⟨HR.out.1, HR.out.2.1, HR.out.2.2.1⟩)
          clear HR hk
          go_wp2_with fail
          go_loopw [28, 8] (fun v a wq => ∃ (j : Nat) (ag : Bool) (I1 : List Bool), v = .int .i64 j ∧ a = .bool ag ∧ j ≤ xs.length ∧ Hid (BlR wq mb xs.length I1 ∧ Below mb w1 wq ∧ DvI xs known I1 ∧ I1.count false ≤ I.count false ∧ (ag = true → I1.count false < I.count false) ∧ (ag = false → I1 = I ∧ ∀ i : Nat, i < j → ∀ x ∈ nextF xs (inB I) (i : Int), inB I x = true))) (fun v _ _ => xs.length - (intOf v).toNat)
          case atStart => exact ⟨0, false, I, rfl, rfl, Nat.zero_le _, hid ⟨HR0.out.1, HR0.out.2.1, HR0.out.2.2, Nat.le_refl _, (fun e => by cases e), fun _ => ⟨rfl, fun i hi => by omega⟩⟩⟩
          case round =>
            clear HR0
            obtain ⟨j2, ag, I1, hv, ha, hj2, HQ⟩ := hrel
            subst hv; subst ha
            have hsz : mb ≤ wr.heap.size := by have := HQ.out.2.1.size; have := HMB.out; omega
            by_cases hlt2 : j2 < xs.length
            · have hlt2' : (j2 : Int) < (xs.length : Int) := by omega
              have hjh : hasB xs (j2 : Int) = true := has_iff.2 ⟨by omega, hlt2'⟩
              obtain ⟨L, hL⟩ : ∃ L, L = nextF xs (inB I1) (j2 : Int) := ⟨_, rfl⟩
              have HLE := hid hL
              have HLH := hid (show ∀ x ∈ L, hasB xs x = true ∧ Der xs known x from fun x hx => by
                rw [hL] at hx
                exact ⟨next_has HOK.out hjh x hx, next_snd HOK.out (der_cl xs known) HQ.out.2.2.1.snd hjh x hx⟩)
              have HNX := hid (rnext_any sb xs wr (HA.out.ext (by rw [HMB.out]; exact HQ.out.2.1)) HOK.out mb I1 HQ.out.1 j2 hlt2 L hL)
              have hLl : L.length ≤ 64 := by rw [hL]; exact next_le HOK.out _ hjh
              clear hL hjh
              go_wp2_with fail
              refine HNX.out.mono ?_
              rintro e w5 ⟨A5, c5, rfl, s5, b5⟩
              have HS5 := hid (show BlR w5 mb xs.length I1 ∧ Below mb w1 w5 ∧ SlA w5 1 A5 L.length c5 (L.map (.int .i64)) from ⟨HQ.out.1.ext b5, HQ.out.2.1.trans (b5.mono hsz), s5⟩)
              have HQ1 := hid HQ.out.2.2
              clear s5 b5 HQ HNX
              go_wp2_with fail
              go_loopw [36, 8] (fun v a wq => ∃ (i : Nat) (ag2 : Bool) (I2 : List Bool), v = .int .i64 i ∧ a = .bool ag2 ∧ i ≤ L.length ∧ Hid (BlR wq mb xs.length I2 ∧ Below mb w1 wq ∧ DvI xs known I2 ∧ I2.count false ≤ I.count false ∧ (ag2 = true → I2.count false < I.count false) ∧ (ag2 = false → ag = false ∧ I2 = I1 ∧ ∀ k : Nat, k < i → ∀ x, L[k]? = some x → inB I2 x = true) ∧ SlA wq 1 A5 L.length c5 (L.map (.int .i64)))) (fun v _ _ => L.length - (intOf v).toNat)
              case atStart => exact ⟨0, ag, I1, rfl, rfl, Nat.zero_le _, hid ⟨HS5.out.1, HS5.out.2.1, HQ1.out.1, HQ1.out.2.1, HQ1.out.2.2.1, fun e => ⟨e, rfl, fun k hk => by omega⟩, HS5.out.2.2⟩⟩
              case round =>
                clear HS5
                obtain ⟨i, ag2, I2, hv, ha, hi2, HP⟩ := hrel
                subst hv; subst ha
                by_cases hlti : i < L.length
                · have hlti' : (i : Int) < (L.length : Int) := by omega
                  obtain ⟨b2, o2, x, rfl, hx, hcx⟩ := HP.out.2.2.2.2.2.2.elemI hlti
                  have hxh := HLH.out x (List.mem_of_getElem? hx)
                  obtain ⟨kx, rfl⟩ := Int.eq_ofNat_of_zero_le (has_iff.1 hxh.1).1
                  have hkx : (kx : Int) < (xs.length : Int) := (has_iff.1 hxh.1).2
                  obtain ⟨d0, d1, -⟩ := bool_cell HP.out.1.1 HP.out.1.2 (t := kx) (by omega)
                  have HX := hid hx
                  have HNE := hid (show b2 ≠ mb from fun e => by subst e; exact HP.out.1.ne hcx)
                  have HXD := hid hxh.2
                  have HXH := hid hxh.1
                  clear hx hxh
                  rcases hin : inB I2 (kx : Int) with _ | _
                  · rw [hin] at d0
                    have HCT := hid (count_set (I := I2) (k := kx) (by rw [HP.out.1.2]; omega) hin)
                    have HNP := hid (show BlR (wr.setCell ⟨mb, kx, none⟩ (.bool true)) mb xs.length (I2.set kx true) ∧ Below mb w1 (wr.setCell ⟨mb, kx, none⟩ (.bool true)) ∧ DvI xs known (I2.set kx true) ∧ (I2.set kx true).count false ≤ I.count false ∧ (true = true → (I2.set kx true).count false < I.count false) ∧ (true = false → ag = false ∧ I2.set kx true = I1 ∧ ∀ k : Nat, k < i + 1 → ∀ x, L[k]? = some x → inB (I2.set kx true) x = true) ∧ SlA (wr.setCell ⟨mb, kx, none⟩ (.bool true)) 1 (some ⟨b2, o2, none⟩) L.length c5 (L.map (.int .i64)) from by
                      obtain ⟨q1, q2, q3, q4, q5, q6, q7⟩ := HP.out
                      have hct := HCT.out
                      refine ⟨q1.put (by omega), q2.setCell (p := ⟨mb, kx, none⟩) (Nat.le_refl _) _, ?_, by omega, fun _ => by omega, (fun e => by cases e), sla_set q7 fun b o e _ => by injection e with e; injection e with e; rw [← e]; exact HNE.out⟩
                      have := q3.put q1.2 HH.out HXH.out HXD.out
                      rwa [Int.toNat_natCast] at this)
                    clear hin HCT
                    go_wp2_with fail
                    go_roundw
                    case rel => exact ⟨i + 1, true, I2.set kx true, by go_num, rfl, by omega, HNP⟩
                    case measure => simp [intOf]; omega
                  · rw [hin] at d0
                    have HNP := hid (show BlR wr mb xs.length I2 ∧ Below mb w1 wr ∧ DvI xs known I2 ∧ I2.count false ≤ I.count false ∧ (ag2 = true → I2.count false < I.count false) ∧ (ag2 = false → ag = false ∧ I2 = I1 ∧ ∀ k : Nat, k < i + 1 → ∀ x, L[k]? = some x → inB I2 x = true) ∧ SlA wr 1 (some ⟨b2, o2, none⟩) L.length c5 (L.map (.int .i64)) from by
                      obtain ⟨q1, q2, q3, q4, q5, q6, q7⟩ := HP.out
                      refine ⟨q1, q2, q3, q4, q5, fun e => ?_, q7⟩
                      obtain ⟨r1, r2, r3⟩ := q6 e
                      refine ⟨r1, r2, fun k hk x hx => ?_⟩
                      rcases Nat.lt_or_ge k i with h | h
                      · exact r3 k h x hx
                      · obtain rfl : k = i := by omega
                        have := hx.symm.trans HX.out
                        injection this with this
                        rw [this]; exact hin)
                    clear hin
                    go_wp2_with fail
                    go_roundw
                    case rel => exact ⟨i + 1, ag2, I2, by go_num, rfl, by omega, HNP⟩
                    case measure => simp [intOf]; omega
                · have hiL : i = L.length := by omega
                  subst hiL
                  have hlti' : ¬ (L.length : Int) < (L.length : Int) := by omega
                  have HNP := hid (show BlR wr mb xs.length I2 ∧ Below mb w1 wr ∧ DvI xs known I2 ∧ I2.count false ≤ I.count false ∧ (ag2 = true → I2.count false < I.count false) ∧ (ag2 = false → I2 = I ∧ ∀ i : Nat, i < j2 + 1 → ∀ x ∈ nextF xs (inB I) (i : Int), inB I x = true) from by
                    obtain ⟨q1, q2, q3, q4, q5, q6, q7⟩ := HP.out
                    refine ⟨q1, q2, q3, q4, q5, fun e => ?_⟩
                    obtain ⟨r1, r2, r3⟩ := q6 e
                    obtain ⟨u1, u2⟩ := HQ1.out.2.2.2 r1
                    refine ⟨r2.trans u1, fun k hk x hx => ?_⟩
                    rcases Nat.lt_or_ge k j2 with h | h
                    · exact u2 k h x hx
                    · obtain rfl : k = j2 := by omega
                      rw [← u1, ← HLE.out] at hx
                      obtain ⟨m, hm, rfl⟩ := List.mem_iff_getElem.1 hx
                      have := r3 m hm _ (List.getElem?_eq_getElem hm)
                      rwa [r2.trans u1] at this)
                  clear hlti
                  go_wp2_with fail
                  go_roundw
                  case rel => exact ⟨j2 + 1, ag2, I2, by go_num, rfl, by omega, HNP⟩
                  case measure => simp [intOf]; omega
            · have hjx : j2 = xs.length := by omega
              subst hjx
              have hlt2' : ¬ (xs.length : Int) < (xs.length : Int) := by omega
              have HNP := hid (show BlR wr mb xs.length I1 ∧ Below mb w1 wr ∧ DvI xs known I1 ∧ (ag = false → ∀ t, hasB xs t = true → ∀ x ∈ nextF xs (inB I1) t, inB I1 x = true) from by
                obtain ⟨q1, q2, q3, q4, q5, q6⟩ := HQ.out
                refine ⟨q1, q2, q3, fun e t ht x hx => ?_⟩
                obtain ⟨r1, r2⟩ := q6 e
                have ht0 := has_iff.1 ht
                rw [r1] at hx ⊢
                refine r2 t.toNat (by omega) x ?_
                rwa [show ((t.toNat : Nat) : Int) = t by omega])
              have HK := hid (show 2 * I1.count false + (if ag then 1 else 0) ≤ gk - 1 ∧ gk - 1 < gk by
                obtain ⟨q1, q2, q3, q4, q5, q6⟩ := HQ.out
                rcases ag with _ | _
                · have := (q6 rfl).1
                  rw [this]
                  simp
                  omega
                · have := q5 rfl
                  simp
                  omega)
              clear hlt2 HQ
              go_wp2_with fail
              go_roundg (gk - 1)
              case rel => exact ⟨ag, I1, rfl, HNP, HK.out.1⟩
              case measure => exact HK.out.2
end Go.Proofs.YtadbgmfdbahcbaaDoor

