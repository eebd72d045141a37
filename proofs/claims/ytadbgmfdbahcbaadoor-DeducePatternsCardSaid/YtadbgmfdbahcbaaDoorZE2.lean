import Derived.Test.YtadbgmfdbahcbaaDoorZE1
/- deduce: all; unblind. -/
namespace Go.Proofs.YtadbgmfdbahcbaaDoor
open Go.RowKit Go.KK Go.Shelf Go.Maps
set_option linter.unusedVariables false
set_option linter.unusedSimpArgs false

section
variable (W : World) (G R : Nat → Prop) (sp : Nat) (lv uv : Value) (xs : List ND) (s : SD)
theorem all1_any (b : Nat) (t : Int) (h : SpA W G R sp lv uv xs s) (hb : W.cell? ⟨b, 0, none⟩ = some (.pointer (some ⟨sp, 0, none⟩))) (ht : hasB xs t = true) :
    Calls Tryd.prog 68 #[.int .i64 t, .pointer (some ⟨b, 0, none⟩)] W fun e w' => e = .returned (.bool (!inB s.i t)) ∧ w' = W := by
  have h2 := has_iff.1 ht
  obtain ⟨k, rfl⟩ := Int.eq_ofNat_of_zero_le h2.1
  have hlen := h.len
  have hkx : k < xs.length := by omega
  obtain ⟨iv, ov, ⟨c0, c1, c2, c3⟩, f3, own1, own3, -, g3⟩ := h.cells
  obtain ⟨ib, cap, rfl, hcb, hfb⟩ := in_cell own1 (t := k) (by omega)
  have hki : (k : Int) < (s.i.length : Int) := by omega
  clear h own1 own3 g3 h2
  go_enter Tryd.func68, Tryd.ntmps68
  go_wp2_with fail
  go_ret
  exact ⟨rfl, rfl⟩
set_option maxHeartbeats 1000000 in
theorem ixf_all (b : Nat) (A : Option Addr) (n c : Nat) (l : List Int) (h : SpA W G R sp lv uv xs s) (hb : W.cell? ⟨b, 0, none⟩ = some (.pointer (some ⟨sp, 0, none⟩))) (hl : SlA W 1 A n c (l.map (.int .i64))) (hh : ∀ t ∈ l, hasB xs t = true) (hn : n ≤ 2147483648) :
    Calls Tryd.prog 64 #[.slice A n c, .func (.func 68) #[] #[.pointer (some ⟨b, 0, none⟩)]] W fun e w' => (∃ k : Int, e = .returned (.int .i64 k) ∧ decide (0 ≤ k) = !l.all (inB s.i)) ∧ w' = W := by
  have H := hid h; have HB := hid hb; have HS := hid hl; have HL := hid hl.lenI; have HH := hid hh
  clear h hb hl hh
  go_enter Tryd.func64, Tryd.ntmps64
  go_wp2
  go_loopw [8] (fun i wr => ∃ j : Nat, i = .int .i64 j ∧ j ≤ n ∧ Hid (l.all (inB s.i) = (l.drop j).all (inB s.i)) ∧ wr = W) (fun i _ => n - (intOf i).toNat)
  case atStart => exact ⟨0, rfl, by omega, hid rfl, rfl⟩
  case round =>
    obtain ⟨j, hi, hj, HJ, hw⟩ := hrel
    subst hi; subst hw
    by_cases hlt : j < n
    · obtain ⟨b1, o, z, rfl, hz, hc⟩ := HS.out.elemI hlt
      have HZH := hid (HH.out z (List.mem_of_getElem? hz))
      have HD := hid (drop_get hz); clear hz
      rcases hh : inB s.i z with _ | _
      · have HF := hid (show l.all (inB s.i) = false by rw [HJ.out, HD.out, List.all_cons, hh]; rfl)
        go_wp2_with (go_at_call 68; refine (all1_any _ G R sp lv uv xs s b z H.out HB.out HZH.out).mono ?_; rintro e w' ⟨rfl, hw'⟩; subst hw'; rw [hh])
        go_ret
        exact ⟨⟨j, rfl, by rw [HF.out, decide_eq_true (by omega)]; rfl⟩, rfl⟩
      · have HF := hid (show l.all (inB s.i) = (l.drop (j + 1)).all (inB s.i) by rw [HJ.out, HD.out, List.all_cons, hh]; rfl)
        go_wp2_with (go_at_call 68; refine (all1_any _ G R sp lv uv xs s b z H.out HB.out HZH.out).mono ?_; rintro e w' ⟨rfl, hw'⟩; subst hw'; rw [hh])
        go_roundw
        case rel => exact ⟨j + 1, by go_num, by omega, HF, by first | rfl | trivial⟩
        case measure => simp [intOf]; omega
    · have HF := hid (show l.all (inB s.i) = true by rw [HJ.out, List.drop_of_length_le (by have := HL.out; omega)]; rfl)
      go_wp2
      go_ret
      exact ⟨⟨-1, rfl, by rw [HF.out]; rfl⟩, rfl⟩
theorem ctf_all (b : Nat) (A : Option Addr) (n c : Nat) (l : List Int) (h : SpA W G R sp lv uv xs s) (hb : W.cell? ⟨b, 0, none⟩ = some (.pointer (some ⟨sp, 0, none⟩))) (hl : SlA W 1 A n c (l.map (.int .i64))) (hh : ∀ t ∈ l, hasB xs t = true) (hn : n ≤ 2147483648) :
    Calls Tryd.prog 43 #[.slice A n c, .func (.func 68) #[] #[.pointer (some ⟨b, 0, none⟩)]] W fun e w' => e = .returned (.bool (!l.all (inB s.i))) ∧ w' = W := by
  have HX := hid (ixf_all W G R sp lv uv xs s b A n c l h hb hl hh hn)
  clear h hb hl hh
  go_enter Tryd.func43, Tryd.ntmps43
  go_wp2_with fail
  refine HX.out.mono ?_
  rintro e w' ⟨⟨k, rfl, hk⟩, hw⟩
  subst hw
  have HK := hid hk
  clear hk
  go_wp2
  go_ret
  exact ⟨by rw [← HK.out]; rfl, rfl⟩
theorem all_any (A : Option Addr) (n c : Nat) (l : List Int) (h : SpA W G R sp lv uv xs s) (hl : SlA W 1 A n c (l.map (.int .i64))) (hh : ∀ t ∈ l, hasB xs t = true) (hn : n ≤ 2147483648) :
    Calls Tryd.prog 47 #[.pointer (some ⟨sp, 0, none⟩), .slice A n c] W fun e w' => e = .returned (.bool (l.all (inB s.i))) ∧ Below W.heap.size W w' := by
  have B0 := hid (show Below W.heap.size W (W.alloc (.cells #[.pointer (some ⟨sp, 0, none⟩)] 60)) from (Below.refl _ _).alloc (Nat.le_refl _) _)
  have HX := hid (ctf_all (W.alloc (.cells #[.pointer (some ⟨sp, 0, none⟩)] 60)) G R sp lv uv xs s W.heap.size A n c l (h.ext B0.out) (by rw [World.cell?_alloc_at _ _ _ _ rfl]; rfl) (hl.ext B0.out) hh hn)
  clear h hl
  go_enter Tryd.func47, Tryd.ntmps47
  go_wp2_with fail
  refine HX.out.mono ?_
  rintro e w' ⟨rfl, hw⟩
  subst hw
  go_wp2
  go_ret
  exact ⟨by simp, B0.out⟩
end
theorem two_of_len {l : List Int} (h : l.length = 2) : ∃ a b, l = [a, b] := by
  rcases l with _ | ⟨a, _ | ⟨b, _ | ⟨c, l⟩⟩⟩
  · cases h
  · cases h
  · exact ⟨a, b, rfl⟩
  · simp at h
/-- Which of a list are such signatures. -/
def sigB (xs : List ND) (sk m t : Int) : Bool := (nodeF xs t).o == 10 && (nodeF xs t).l.getD 0 0 == sk && (nodeF xs t).l.getD 1 0 == m
theorem filt_take {f : Int → Bool} {U : List Int} {j : Nat} {u : Int} (h : U[j]? = some u) : (U.take (j + 1)).filter f = (U.take j).filter f ++ (if f u then [u] else []) := by
  rw [take_one h, List.filter_append]
  by_cases hf : f u = true
  · simp [hf]
  · simp [hf]
theorem addL_app (s : SD) (l m : List Int) : addL s (l ++ m) = addL (addL s l) m := by unfold addL; rw [List.foldl_append]
set_option maxHeartbeats 4000000 in
set_option maxRecDepth 100000 in
theorem unblind_any (W : World) (G R : Nat → Prop) (sp : Nat) (lv uv : Value) (xs : List ND) (s : SD) (sk m : Int) (h : SpA W G R sp lv uv xs s) (hm : hasB xs m = true) (hul : (uses xs m).length ≤ 100000000) :
    Calls Tryd.prog 73 #[.pointer (some ⟨sp, 0, none⟩), .int .i64 sk, .int .i64 m] W fun e w' => e = .returned (.tuple #[]) ∧ SpS W G R sp lv uv xs (unbF xs s sk m) w' := by
  have H := hid h
  have h2 := has_iff.1 hm
  obtain ⟨k, rfl⟩ := Int.eq_ofNat_of_zero_le h2.1
  have hkx : k < xs.length := by omega
  obtain ⟨bu, ou, cu, Au, ku, rfl, hcu, hku⟩ := h.keepU hkx
  have HKU := hid hku
  have hcu0 := hcu W (Nat.le_refl _) fun _ _ _ => rfl
  obtain ⟨iv, ov, ⟨c0, c1, c2, c3⟩, -⟩ := h.cells
  have hkx' : (k : Int) < (xs.length : Int) := by omega
  have HUN := hid (show unbF xs s sk (k : Int) = addL s ((uses xs (k : Int)).filter (sigB xs sk (k : Int))) from rfl)
  have HUM := hid (fun u (hu : u ∈ uses xs (k : Int)) => (uses_mem.1 hu).1)
  have hok := hid h.ok
  generalize uses xs (k : Int) = U at *
  clear h hm h2 hku hcu
  go_enter Tryd.func73, Tryd.ntmps73
  go_wp2_with fail
  go_loopw [17] (fun v wr => ∃ (j : Nat) (G' : Nat → Prop), v = .int .i64 j ∧ j ≤ U.length ∧ Hid (SpA wr G' R sp lv (.slice (some ⟨bu, ou, none⟩) xs.length cu) xs (addL s ((U.take j).filter (sigB xs sk (k : Int)))) ∧ Turn G W wr ∧ ∀ b, G' b → G b ∨ W.heap.size ≤ b)) (fun v _ => U.length - (intOf v).toNat)
  case atStart => exact ⟨0, G, rfl, Nat.zero_le _, hid ⟨H.out, Turn.refl _ _, fun _ h => .inl h⟩⟩
  case round =>
    clear hcu0 c0 c1 c2 c3
    obtain ⟨j, G', hv, hj, HR⟩ := hrel
    subst hv
    obtain ⟨hs, ht, hg⟩ := HR.out
    have HS := hid hs; have HT := hid ht; have HG := hid hg
    clear hs ht hg HR
    by_cases hlt : j < U.length
    · obtain ⟨b1, o1, u, rfl, huj, hct⟩ := (HKU.out.turn HT.out).elemI hlt
      have huh := HUM.out u (List.mem_of_getElem? huj)
      have HFT := hid (filt_take (f := sigB xs sk (k : Int)) huj)
      have hlt' : (j : Int) < (U.length : Int) := by omega
      have h2 := has_iff.1 huh
      obtain ⟨q, rfl⟩ := Int.eq_ofNat_of_zero_le h2.1
      have hqx : (q : Int) < (xs.length : Int) := by omega
      have hx := nodeF_get huh
      rw [Int.toNat_natCast] at hx
      have HLE := hid (fun ho => len_of hok.out huh (o := 10) (k := 2) ho rfl)
      have HSG := hid (show sigB xs sk (k : Int) (q : Int) = ((nodeF xs (q : Int)).o == 10 && (nodeF xs (q : Int)).l.getD 0 0 == sk && (nodeF xs (q : Int)).l.getD 1 0 == (k : Int)) from rfl)
      have HUH := hid huh
      generalize nodeF xs (q : Int) = x at *
      obtain ⟨bn, on, cn, A', c', rfl, hcell, hkl⟩ := HS.out.keep hx
      obtain ⟨y0, y1, y2, y3⟩ := hcell wr (Nat.le_refl _) fun _ _ _ => rfl
      obtain ⟨iv, ov, ⟨c0, c1, c2, c3⟩, -⟩ := HS.out.cells
      have HKL := hid hkl
      have HAL := hid (show Below wr.heap.size wr (wr.alloc (.cells #[.int .i64 x.o, .int .i64 x.n, .string x.s, .slice A' x.l.length c'] 32)) from (Below.refl _ _).alloc (Nat.le_refl _) _)
      clear huh h2 hx hcell hkl huj
      by_cases ho : x.o = 10
      · obtain ⟨a, b, hl⟩ := two_of_len (HLE.out ho)
        obtain ⟨xo, xn, xstr, xl⟩ := x
        simp only at ho hl
        subst ho; subst hl
        have hsl := (HKL.out.here).ext HAL.out
        obtain ⟨ba, oa, z0, rfl, hz0', e0⟩ := hsl.elemI (k := 0) (by simp)
        obtain ⟨ba2, oa2, z1, eA, hz1', e1⟩ := hsl.elemI (k := 1) (by simp)
        injection eA with eA
        injection eA with eA eA2
        subst eA; subst eA2
        have hz0'' : a = z0 := by simpa using hz0'
        have hz1'' : b = z1 := by simpa using hz1'
        subst hz0''; subst hz1''
        rw [Nat.add_zero] at e0
        have e0' : (wr.alloc (.cells #[.int .i64 10, .int .i64 xn, .string xstr, .slice (some ⟨ba, oa, none⟩) 2 c'] 32)).cell? ⟨ba, oa, none⟩ = some (.int .i64 a) := e0
        have e1' : (wr.alloc (.cells #[.int .i64 10, .int .i64 xn, .string xstr, .slice (some ⟨ba, oa, none⟩) 2 c'] 32)).cell? ⟨ba, oa + 1, none⟩ = some (.int .i64 b) := e1
        have y3' : wr.cell? ⟨bn, on + q * 4 + 3, none⟩ = some (.slice (some ⟨ba, oa, none⟩) 2 c') := y3
        replace HAL : Hid (Below wr.heap.size wr (wr.alloc (.cells #[.int .i64 10, .int .i64 xn, .string xstr, .slice (some ⟨ba, oa, none⟩) 2 c'] 32))) := HAL
        clear hz0' hz1' hsl e0 e1 y3
        by_cases h1 : a = sk ∧ b = (k : Int)
        · obtain ⟨ha, hb⟩ := h1
          subst ha; subst hb
          have HSB := hid (show sigB xs a (k : Int) (q : Int) = true by rw [HSG.out]; simp)
          go_upto_region 5 with fail
          refine forget (R := fun V => Below wr.heap.size wr V) ?_ HAL.out
          clear HAL e0' e1' y0 y1 y2 y3' c0 c1 c2 c3
          intro V hV
          have HVB := hid hV
          have HAD := hid (add_any (V.alloc (.cells #[.int .i64 (q : Int)] 3)) G' R sp _ _ xs _ _ 1 1 [(q : Int)] ((HS.out.ext hV).ext ((Below.refl _ _).alloc (Nat.le_refl _) _)) (keepL_new (q : Int) fun b hb => Nat.lt_of_lt_of_le (HS.out.glt b hb) hV.size) (fun t ht => by rw [List.mem_singleton] at ht; subst ht; exact HUH.out) (by decide))
          clear hV
          go_wp2_with fail
          refine HAD.out.mono ?_
          rintro e w5 ⟨rfl, hs5⟩
          obtain ⟨G5, p1, p2, p3⟩ := (hs5.first ((Below.refl _ _).alloc (Nat.le_refl _) _)).first HVB.out
          have P1 := hid p1; have P2 := hid p2; have P3 := hid p3
          clear p1 p2 p3 hs5
          go_wp2_with fail
          go_roundw
          case rel =>
            refine ⟨j + 1, G5, by go_num, by omega, hid ⟨by rw [HFT.out, HSB.out, if_pos rfl, addL_app]; exact P1.out, HT.out.trans P2.out HG.out, fun b hb => ?_⟩⟩
            have := HT.out.size
            rcases P3.out b hb with h' | h'
            · exact HG.out b h'
            · exact .inr (by omega)
          case measure => simp [intOf]; omega
        · have HSB := hid (show sigB xs sk (k : Int) (q : Int) = false by
            rw [HSG.out, Bool.eq_false_iff]
            intro e
            simp only [Bool.and_eq_true, beq_iff_eq] at e
            exact h1 ⟨by simpa using e.1.2, by simpa using e.2⟩)
          have h1' : (a == sk) = false ∨ ((a == sk) = true ∧ (b == (k : Int)) = false) := by
            by_cases ha : a = sk
            · exact .inr ⟨beq_iff_eq.2 ha, beq_eq_false_iff_ne.2 fun hb => h1 ⟨ha, hb⟩⟩
            · exact .inl (beq_eq_false_iff_ne.2 ha)
          clear h1
          rcases h1' with h1' | ⟨h1', h1''⟩
          all_goals
            go_wp2_with fail
            go_roundw
            case rel => exact ⟨j + 1, G', by go_num, by omega, hid ⟨by rw [HFT.out, HSB.out, if_neg (by decide), List.append_nil]; exact HS.out.ext HAL.out, HT.out.trans (Turn.of_below (F := fun _ => False) HAL.out) (fun _ h => h.elim), fun b hb => HG.out b hb⟩⟩
            case measure => simp [intOf]; omega
      · have ho' : (x.o == 10) = false := beq_eq_false_iff_ne.2 ho
        have HSB := hid (show sigB xs sk (k : Int) (q : Int) = false by rw [HSG.out, ho']; rfl)
        clear ho
        go_wp2_with fail
        go_roundw
        case rel => exact ⟨j + 1, G', by go_num, by omega, hid ⟨by rw [HFT.out, HSB.out, if_neg (by decide), List.append_nil]; exact HS.out.ext HAL.out, HT.out.trans (Turn.of_below (F := fun _ => False) HAL.out) (fun _ h => h.elim), fun b hb => HG.out b hb⟩⟩
        case measure => simp [intOf]; omega
    · have hjn : j = U.length := by omega
      have HTK := hid (show U.take j = U from List.take_of_length_le (by omega))
      have hlt' : ¬ (j : Int) < (U.length : Int) := by omega
      go_wp2_with fail
      go_end0
      exact ⟨rfl, G', by rw [HUN.out, ← HTK.out]; exact HS.out, HT.out, HG.out⟩
end Go.Proofs.YtadbgmfdbahcbaaDoor

