import Derived.Test.YtadbgmfdbahcbaaDoorZe
/- deduce: what close is built of (memory; the bases). -/
namespace Go.KK
open Go.Proofs
set_option linter.unusedVariables false
set_option linter.unusedSimpArgs false
theorem bases_succ (xs : List ND) (k : Nat) : bases xs (k + 1) = bases xs k ++ (if (nodeF xs (k : Int)).o ≠ 1 ∧ (nodeF xs (k : Int)).l = [] then [(k : Int)] else []) := by
  unfold bases
  rw [List.range_succ, List.filter_append, List.map_append]
  congr 1
  by_cases h : (nodeF xs (k : Int)).o ≠ 1 ∧ (nodeF xs (k : Int)).l = []
  · rw [if_pos h]
    simp [h.1, h.2]
  · rw [if_neg h]
    have : ((nodeF xs (k : Int)).o != 1 && (nodeF xs (k : Int)).l.isEmpty) = false := by
      rw [Bool.eq_false_iff]
      intro e
      simp only [Bool.and_eq_true, bne_iff_ne, List.isEmpty_iff] at e
      exact h e
    simp [this]
theorem bases_has {xs : List ND} {k : Nat} (hk : k ≤ xs.length) : ∀ t ∈ bases xs k, hasB xs t = true := fun t ht => by
  unfold bases at ht
  obtain ⟨j, hj, rfl⟩ := List.mem_map.1 ht
  have := List.mem_range.1 (List.mem_filter.1 hj).1
  exact has_iff.2 ⟨by omega, by omega⟩
theorem vis_mu {xs : List ND} (ok : Okay xs) : ∀ {l : List Int} {s : SD}, s.i.length = xs.length → (∀ u ∈ l, hasB xs u = true) → mu (l.foldl (visF xs) s) ≤ mu s
  | [], _, _, _ => Nat.le_refl _
  | u :: l, s, hl, h => by
    have h1 := mu_vis ok hl (h u (by simp))
    exact Nat.le_trans (vis_mu ok (l := l) h1.2 fun v hv => h v (by simp [hv])) h1.1
theorem fold_take {xs : List ND} {U : List Int} {s : SD} {j : Nat} {u : Int} (h : U[j]? = some u) : (U.take (j + 1)).foldl (visF xs) s = visF xs ((U.take j).foldl (visF xs) s) u := by
  rw [take_one h, List.foldl_append]
  rfl
end Go.KK
namespace Go.Proofs.YtadbgmfdbahcbaaDoor
open Go.RowKit Go.KK Go.Shelf Go.Maps

theorem run_cut_to {P : Program} {A : Option Addr} {n c : Nat} {t e : TypeId} (ht : P.underlying t = some (.slice e)) (hs : ∀ W : World, (sizeOf e).run P W = .ok 1 W) {p : Nat} (hp : p ≤ c) :
    ∀ W : World, (Instr.slice t (.slice A n c) none (some (.int .i64 (p : Int))) none).run P W = .ok (.slice A p c) W := by
  intro W
  have he : P.elem t = e := by simp [Program.elem, ht]
  rw [run_slice_h W t A n c (by rw [he]; exact ht) .i64 p (by omega) (by omega), he, hs W]
  have hz : ∀ a : Addr, a.add 0 = a := fun a => by simp [Addr.add]
  simp [Result.andThen, sliced, hz]
theorem open_cut {w : World} {b0 : Nat} {A : Option Addr} {n c : Nat} {l : List Int} {t : Int} (h : w.ownsRow b0 3 1 (.slice A n c) (l ++ [t]).length ((l ++ [t]).map (.int .i64))) : w.ownsRow b0 3 1 (.slice A l.length c) l.length (l.map (.int .i64)) := by
  refine ⟨by rw [List.length_map, Nat.mul_one], ?_⟩
  rcases h.2 with ⟨hv, h0⟩ | ⟨g, cap, cur, hv, hg, hh, hc, hm', hcs, ht⟩
  · simp at h0
  · injection hv with e1 e2 e3
    subst e1; subst e3
    rw [List.length_append, List.length_singleton] at hc ht
    refine .inr ⟨g, c, cur, rfl, hg, hh, by omega, hm', hcs, ?_⟩
    have : (cur.toList.take ((l.length + 1) * 1)).take l.length = cur.toList.take (l.length * 1) := by rw [List.take_take]; congr 1; omega
    rw [← this, ht, List.map_append]
    exact List.take_left' (by simp)
section
variable {W W' : World} {G G' R : Nat → Prop} {sp : Nat} {lv uv : Value} {xs : List ND} {A : Option Addr} {n c : Nat} {l : List Int} {I : List Bool} {O : List Int} {t : Int}
theorem KeepL.move (h : KeepL W G A n c l) (ht : Turn G W W') (hg : ∀ b, G' b → G b ∨ W.heap.size ≤ b) : KeepL W' G' A n c l := fun W2 hs hk =>
  h W2 (Nat.le_trans ht.size hs) fun b hb hn => (hk b (Nat.lt_of_lt_of_le hb ht.size) fun hh => (hg b hh).elim hn (by omega)).trans (ht.block b hb hn)
/-- The last of those that are open is taken away. -/
theorem SpA.pop (h : SpA W G R sp lv uv xs ⟨I, O ++ [t]⟩) (hc : W.cell? ⟨sp, 3, none⟩ = some (.slice A n c)) : SpA (W.setCell ⟨sp, 3, none⟩ (.slice A O.length c)) G R sp lv uv xs ⟨I, O⟩ := by
  obtain ⟨iv, ov, h1, h2, h3, h4, h5⟩ := h.go
  have e : ov = .slice A n c := by
    have := cell_of_row W sp 3 _ _ (0, 0) h1
    rw [hc] at this
    injection this with this
    exact this.symm
  subst e
  have hne : ∀ b, b ≠ sp → (W.setCell ⟨sp, 3, none⟩ (.slice A O.length c)).heap[b]? = W.heap[b]? := fun b hb => Below.heap_setCell W ⟨sp, 3, none⟩ _ b hb
  have hol := h.ol
  have hl := h.len
  have h3' := open_cut h3
  refine ⟨⟨iv, .slice A O.length c, by rw [heap_setCell_same W sp 3 _ _ _ h1]; rfl, own_block h2 fun b hb => hne b (h4 b hb).2, own_block h3' fun b hb => hne b (h5 b (by cases A <;> exact hb)).2, h4, fun b hb => h5 b (by cases A <;> exact hb)⟩, h.gs, fun b hb => by simpa using h.glt b hb, h.gr, fun b hb => by simpa using h.rlt b hb, rdl_kept h.rdl fun b hb => hne b fun e => h.gr b hb (e ▸ h.gs), rdu_kept h.rdu fun b hb => hne b fun e => h.gr b hb (e ▸ h.gs), h.ok, hl, by
    simp only [List.length_append, List.length_singleton] at hol
    show O.length + I.count false ≤ _
    omega⟩
end
set_option maxHeartbeats 4000000 in
set_option maxRecDepth 100000 in
theorem close_any (W : World) (G R : Nat → Prop) (sp : Nat) (lv uv : Value) (xs : List ND) (A : Option Addr) (n c : Nat) (known : List Int) (h : SpA W G R sp lv uv xs ⟨List.replicate xs.length false, []⟩) (hk : KeepL W G A n c known) (hh : ∀ t ∈ known, hasB xs t = true) (hn : n ≤ 1000000) (hul : ∀ m, (uses xs m).length ≤ 100000000) :
    Calls Tryd.prog 45 #[.pointer (some ⟨sp, 0, none⟩), .slice A n c] W fun e w' => e = .returned (.tuple #[]) ∧ ∃ I, Inv xs known ⟨I, []⟩ ∧ SpS W G R sp lv uv xs ⟨I, []⟩ w' := by
  have H := hid h; have HKN := hid hk; have HH := hid hh; have HUL := hid hul
  have hok := hid h.ok
  have hxn : xs.length ≤ 100000 := h.ok.len
  obtain ⟨iv, ov, ⟨c0, c1, c2, c3⟩, -⟩ := h.cells
  have hlv : ∃ bn on cn, lv = .slice (some ⟨bn, on, none⟩) xs.length cn ∨ (xs.length = 0 ∧ ∃ A c, lv = .slice A 0 c) := by
    obtain ⟨A, c, qs, h1, h2, h3⟩ := h.rdl
    obtain ⟨hs, -⟩ := h3 W fun _ _ => rfl
    rcases Nat.eq_zero_or_pos xs.length with h0 | h0
    · exact ⟨0, 0, 0, .inr ⟨h0, A, c, by rw [h1, h0]⟩⟩
    · obtain ⟨bn, on, c0, A', c', hb, -⟩ := h.keep (List.getElem?_eq_getElem h0)
      exact ⟨bn, on, c0, .inl hb⟩
  have hlen : ∃ A c, lv = .slice A xs.length c := by
    obtain ⟨A, c, qs, h1, -⟩ := h.rdl
    exact ⟨A, c, h1⟩
  obtain ⟨Al, cl, rfl⟩ := hlen
  clear h hk hh hul hlv
  go_enter Tryd.func45, Tryd.ntmps45
  go_wp2_with fail
  go_loopw [14] (fun v wr => ∃ (j : Nat) (G' : Nat → Prop), v = .int .i64 j ∧ j ≤ xs.length ∧ Hid (SpA wr G' R sp (.slice Al xs.length cl) uv xs (addL ⟨List.replicate xs.length false, []⟩ (bases xs j)) ∧ Turn G W wr ∧ ∀ b, G' b → G b ∨ W.heap.size ≤ b)) (fun v _ => xs.length - (intOf v).toNat)
  case atStart => exact ⟨0, G, rfl, Nat.zero_le _, hid ⟨H.out, Turn.refl _ _, fun _ h => .inl h⟩⟩
  case round =>
    clear c0 c1 c2 c3
    obtain ⟨j, G', hv, hj, HR⟩ := hrel
    subst hv
    obtain ⟨hs, ht, hg⟩ := HR.out
    have HS := hid hs; have HT := hid ht; have HG := hid hg
    clear hs ht hg HR
    by_cases hlt : j < xs.length
    · have hlt' : (j : Int) < (xs.length : Int) := by omega
      have HBS := hid (bases_succ xs j)
      have hx := nodeF_get (xs := xs) (t := (j : Int)) (has_iff.2 ⟨by omega, by omega⟩)
      rw [Int.toNat_natCast] at hx
      generalize nodeF xs (j : Int) = x at *
      generalize HSJ : addL ⟨List.replicate xs.length false, []⟩ (bases xs j) = sj at *
      obtain ⟨bn, on, cn, A', c', e, hcell, hkl⟩ := HS.out.keep hx
      injection e with e _ e3
      subst e; subst e3
      obtain ⟨y0, y1, y2, y3⟩ := hcell wr (Nat.le_refl _) fun _ _ _ => rfl
      have HAL := hid (show Below wr.heap.size wr (wr.alloc (.cells #[.int .i64 x.o, .int .i64 x.n, .string x.s, .slice A' x.l.length c'] 32)) from (Below.refl _ _).alloc (Nat.le_refl _) _)
      have HSJ' := hid HSJ
      clear hx hcell hkl HSJ
      have hNX : ∀ (G5 : Nat → Prop) (w5 : World) (s5 : SD), SpS wr G' R sp (.slice (some ⟨bn, on, none⟩) xs.length cl) uv xs s5 w5 → s5 = addL ⟨List.replicate xs.length false, []⟩ (bases xs (j + 1)) → True := fun _ _ _ _ _ => trivial
      clear hNX
      by_cases hb : x.o ≠ 1 ∧ x.l = []
      · have HB1 := hid (show addL ⟨List.replicate xs.length false, []⟩ (bases xs (j + 1)) = addL sj [(j : Int)] by rw [HBS.out, if_pos hb, addL_app, HSJ'.out])
        obtain ⟨hb1, hb2⟩ := hb
        have hb1' : (x.o != 1) = true := by simpa using hb1
        have hb2' : x.l.length = 0 := by rw [hb2]; rfl
        obtain ⟨xo, xn, xt, xl⟩ := x
        simp only at hb1 hb2 hb1'
        subst hb2
        have y3' : wr.cell? ⟨bn, on + j * 4 + 3, none⟩ = some (.slice A' 0 c') := y3
        clear y3 hb2'
        go_upto_region 4 with fail
        refine forget (R := fun V => Below wr.heap.size wr V) ?_ HAL.out
        clear HAL y0 y1 y2 y3'
        intro V hV
        have HVB := hid hV
        have HAD := hid (add_any (V.alloc (.cells #[.int .i64 (j : Int)] 3)) G' R sp _ _ xs _ _ 1 1 [(j : Int)] ((HS.out.ext hV).ext ((Below.refl _ _).alloc (Nat.le_refl _) _)) (keepL_new (j : Int) fun b hb => Nat.lt_of_lt_of_le (HS.out.glt b hb) hV.size) (fun t ht => by rw [List.mem_singleton] at ht; subst ht; exact has_iff.2 ⟨by omega, by omega⟩) (by decide))
        clear hV
        go_wp2_with fail
        refine HAD.out.mono ?_
        rintro e w5 ⟨rfl, hs5⟩
        obtain ⟨G5, p1, p2, p3⟩ := (hs5.first ((Below.refl _ _).alloc (Nat.le_refl _) _)).first HVB.out
        have P1 := hid p1; have P2 := hid p2; have P3 := hid p3
        clear p1 p2 p3 hs5
        go_wp2_with fail
        go_roundw
        case rel =>
          refine ⟨j + 1, G5, by go_num, by omega, hid ⟨by rw [HB1.out]; exact P1.out, HT.out.trans P2.out HG.out, fun b hb => ?_⟩⟩
          have := HT.out.size
          rcases P3.out b hb with h' | h'
          · exact HG.out b h'
          · exact .inr (by omega)
        case measure => simp [intOf]; omega
      · have HB1 := hid (show addL ⟨List.replicate xs.length false, []⟩ (bases xs (j + 1)) = sj by rw [HBS.out, if_neg hb, List.append_nil, HSJ'.out])
        have hb' : (x.o != 1) = false ∨ ((x.o != 1) = true ∧ (x.l.length == 0) = false) := by
          by_cases h1 : x.o = 1
          · exact .inl (by simp [h1])
          · refine .inr ⟨by simpa using h1, beq_eq_false_iff_ne.2 fun h2 => hb ⟨h1, List.eq_nil_of_length_eq_zero h2⟩⟩
        have hbx : (x.o != 1) = true → ¬ (x.l.length = 0) := fun h => by
          rcases hb' with h1 | ⟨_, h1⟩
          · rw [h1] at h; cases h
          · exact beq_eq_false_iff_ne.1 h1
        have hxl := HS.out.ok
        rcases hb' with hb' | ⟨hb', hb2⟩
        · have hb1 : x.o = 1 := by simpa using hb'
          rw [hb1] at y0
          clear hb hbx hb' hxl
          go_wp2_with fail
          go_roundw
          case rel => exact ⟨j + 1, G', by go_num, by omega, hid ⟨by rw [HB1.out]; exact HS.out.ext (by first | exact HAL.out | exact (Below.refl _ _).alloc (Nat.le_refl _) _), HT.out.trans (Turn.of_below (F := fun _ => False) ((Below.refl _ _).alloc (Nat.le_refl _) _)) (fun _ h => h.elim), fun b hb => HG.out b hb⟩⟩
          case measure => simp [intOf]; omega
        · have hb3 := beq_eq_false_iff_ne.1 hb2
          have hb4 : ((x.l.length : Int) == 0) = false := by rw [beq_eq_false_iff_ne]; omega
          clear hb hbx hxl hb2
          generalize x.l.length = xn at *
          go_wp2_with fail
          go_roundw
          case rel => exact ⟨j + 1, G', by go_num, by omega, hid ⟨by rw [HB1.out]; exact HS.out.ext HAL.out, HT.out.trans (Turn.of_below (F := fun _ => False) HAL.out) (fun _ h => h.elim), fun b hb => HG.out b hb⟩⟩
          case measure => simp [intOf]; omega
    · have hjn : j = xs.length := by omega
      subst hjn
      have hlt' : ¬ ((xs.length : Nat) : Int) < (xs.length : Int) := by omega
      have HAD := hid (add_any wr G' R sp _ _ xs _ A n c known HS.out (HKN.out.move HT.out HG.out) HH.out hn)
      go_wp2_with fail
      refine HAD.out.mono ?_
      rintro e w5 ⟨rfl, hs5⟩
      obtain ⟨G5, p1, p2, p3⟩ := hs5
      have HST := hid (show ∃ G5, SpA w5 G5 R sp (.slice Al xs.length cl) uv xs (startS xs known) ∧ Turn G W w5 ∧ ∀ b, G5 b → G b ∨ W.heap.size ≤ b from ⟨G5, p1, HT.out.trans p2 HG.out, fun b hb => (p3 b hb).elim (HG.out b) fun h => .inr (Nat.le_trans HT.out.size h)⟩)
      have HIS := hid (inv_start hok.out HH.out)
      clear p1 p2 p3 HS HT HG HAD hlt hlt' hj
      go_wp2_with fail
      go_loopg [] (mu (startS xs known)) (fun k wr => ∃ I O G', Hid (SpA wr G' R sp (.slice Al xs.length cl) uv xs ⟨I, O⟩ ∧ Turn G W wr ∧ ∀ b, G' b → G b ∨ W.heap.size ≤ b) ∧ Hid (Inv xs known ⟨I, O⟩ ∧ mu ⟨I, O⟩ ≤ k))
      case atStart =>
        obtain ⟨G5, p⟩ := HST.out
        exact ⟨(startS xs known).i, (startS xs known).o, G5, hid p, hid ⟨HIS.out, Nat.le_refl _⟩⟩
      case round =>
        clear HST HIS
        obtain ⟨I, O, G', HR, HK⟩ := hrel
        obtain ⟨hs, ht, hg⟩ := HR.out
        have HS := hid hs; have HT := hid ht; have HG := hid hg
        clear hs ht hg HR
        obtain ⟨iv, ov, ⟨c0, c1, c2, c3⟩, f3, own1, own3, -, g3⟩ := HS.out.cells
        have HO := hid (show wr.ownsRow 0 3 1 ov O.length (O.map (.int .i64)) from own3)
        obtain ⟨Ao, co, rfl, hos⟩ := SlA.owned HO.out
        have HOS := hid hos
        clear own1 own3 hos
        rcases List.eq_nil_or_concat O with rfl | ⟨O', t, rfl⟩
        · go_wp2_with fail
          go_end0
          exact ⟨rfl, I, HK.out.1, G', HS.out, HT.out, HG.out⟩
        · rw [List.concat_eq_append] at HK HS HO HOS c3
          have hol : (O' ++ [t]).length + I.count false ≤ xs.length := HS.out.ol
          have hO1 : (O' ++ [t]).length = O'.length + 1 := by simp
          have hOb : O'.length ≤ co := by have := HOS.out.nc; omega
          obtain ⟨g, off, z, rfl, hz, hcz⟩ := HOS.out.elemI (k := O'.length) (by omega)
          have hzx : z = t := by
            rw [List.getElem?_append_right (Nat.le_refl _), Nat.sub_self] at hz
            injection hz with hz
            exact hz.symm
          subst hzx
          have hth := (HK.out.1.o z (by simp)).1
          obtain ⟨k, rfl⟩ := Int.eq_ofNat_of_zero_le (has_iff.1 hth).1
          have hkx : (k : Int) < (xs.length : Int) := (has_iff.1 hth).2
          have HTH := hid hth
          have hOl : O'.length < 100000 := by omega
          have HPOP := hid (HK.out.1.pop hok.out)
          have HPL := hid (show I.length = xs.length from HS.out.len)
          have HMU := hid (show mu (⟨I, O'⟩ : SD) + 1 ≤ gk from Nat.le_trans mu_pop HK.out.2)
          have hcut := run_cut_to Tryd.underlying23 sizeI (A := some ⟨g, off, none⟩) (n := (O' ++ [(k : Int)]).length) (c := co) (p := O'.length) hOb
          have c3' : wr.cell? ⟨sp, 3, none⟩ = some (.slice (some ⟨g, off, none⟩) (O' ++ [(k : Int)]).length co) := c3
          clear c3
          have HOM := hid (show (O' ++ [(k : Int)]).length = (O' ++ [(k : Int)]).length from rfl)
          generalize hm : (O' ++ [(k : Int)]).length = m at *
          have hsub : IntKind.i64.wrap ((m : Int) - 1) = (O'.length : Int) := by rw [IntKind.wrap_i64]; omega
          have hm0 : (0 : Int) < (m : Int) := by omega
          have hm0n : 0 < m := by omega
          have hm0d : decide (0 < m) = true := decide_eq_true hm0n
          have hlm : (O'.length : Int) < (m : Int) := by omega
          have hl0 : (0 : Int) ≤ (O'.length : Int) := by omega
          have HNE := hid (show IntKind.i64.wrap ((m : Int) - 1) = (O'.length : Int) from hsub)
          clear hz hth HK hol hm hO1 HOS HO g3
          have HC3 := hid c3'
          go_upto_region 8 with fail
          go_quiet (fail)
          go_upto_region 9 with fail
          refine forget (R := fun V => Below wr.heap.size wr V) ?_ (by first | exact below_drewN (Below.refl _ _) _ | exact below_drew (Below.refl _ _))
          clear c0 c1 c2 c3' f3 hcz
          intro V hV
          have HVB := hid hV
          have HSV := hid (HS.out.ext hV)
          have c3 : V.cell? ⟨sp, 3, none⟩ = some (.slice (some ⟨g, off, none⟩) m co) := (hV.cell (p := _) (block_lt_of_cell HC3.out)).trans HC3.out
          obtain ⟨-, -, -, f3, -⟩ := HSV.out.cells
          have HPP := hid (HSV.out.pop c3)
          have HPT := hid (show Turn G' wr (V.setCell ⟨sp, 3, none⟩ (.slice (some ⟨g, off, none⟩) O'.length co)) from (Turn.of_below (F := G') hV).trans (Turn.setCell (F := G') _ (.inl HSV.out.gs)) (fun _ h => .inl h))
          clear hV HC3
          go_region
          go_upto_region 10 with fail
          refine forget (R := fun U => SpA U G' R sp (.slice Al xs.length cl) uv xs ⟨I, O'⟩ ∧ Turn G' wr U) ?_ ⟨HPP.out.ext (below_drew (Below.refl _ _)), HPT.out.trans (Turn.of_below (F := G') (below_drew (Below.refl _ _))) (fun _ h => .inl h)⟩
          clear HPP HPT HSV HVB c3 f3
          rintro U ⟨hs, ht⟩
          have HAP := hid (apart_any U G' R sp _ uv xs ⟨I, O'⟩ (k : Int) hs HTH.out HUL.out)
          have HTU := hid (show Turn G W U from HT.out.trans ht HG.out)
          have HSZ := hid (show W.heap.size ≤ U.heap.size from Nat.le_trans HT.out.size ht.size)
          clear hs ht HS
          go_wp2_with fail
          refine HAP.out.mono ?_
          rintro e w6 ⟨rfl, hs6⟩
          obtain ⟨G6, p1, p2, p3⟩ := hs6
          have HS6 := hid p1
          have HT6 := hid (show Turn G W w6 from HTU.out.trans p2 HG.out)
          have HG6 := hid (show ∀ b, G6 b → G b ∨ W.heap.size ≤ b from fun b hb => (p3 b hb).elim (HG.out b) fun h => .inr (Nat.le_trans HSZ.out h))
          have HUV := hid (vis_mu (xs := xs) hok.out (l := uses xs (k : Int)) (s := apF xs ⟨I, O'⟩ (k : Int)) p1.len (fun u hu => (uses_mem.1 hu).1))
          have HUM := hid (fun u (hu : u ∈ uses xs (k : Int)) => (uses_mem.1 hu).1)
          have HMA := hid (mu_ap (xs := xs) hok.out (s := ⟨I, O'⟩) (t := (k : Int)) HPL.out HTH.out)
          have HUk := HUL.out (k : Int)
          obtain ⟨bu, ou, cu, Au, ku, rfl, hcu, hku⟩ := p1.keepU (t := k) (by omega)
          have HKU := hid hku
          have hcu0 := hcu w6 (Nat.le_refl _) fun _ _ _ => rfl
          obtain ⟨iv6, ov6, ⟨c0, c1, c2, c3⟩, -⟩ := p1.cells
          have HKM := hid (fun (w7 : World) (G7 : Nat → Prop) (h : Turn G6 w6 w7) => (hku.turn h))
          generalize apF xs ⟨I, O'⟩ (k : Int) = s6 at *
          generalize uses xs (k : Int) = U6 at *
          clear p1 p2 p3 hcu hku HAP HTU HSZ HKM
          go_wp2_with fail
          go_loopw [79] (fun v wq => ∃ (j : Nat) (G7 : Nat → Prop), v = .int .i64 j ∧ j ≤ U6.length ∧ Hid (SpA wq G7 R sp (.slice Al xs.length cl) (.slice (some ⟨bu, ou, none⟩) xs.length cu) xs ((U6.take j).foldl (visF xs) s6) ∧ Turn G6 w6 wq ∧ ∀ b, G7 b → G6 b ∨ w6.heap.size ≤ b)) (fun v _ => U6.length - (intOf v).toNat)
          case atStart => exact ⟨0, G6, rfl, Nat.zero_le _, hid ⟨HS6.out, Turn.refl _ _, fun _ h => .inl h⟩⟩
          case round =>
            clear hcu0 c0 c1 c2 c3
            obtain ⟨j, G7, hv, hj, HR⟩ := hrel
            subst hv
            obtain ⟨hs, ht, hg⟩ := HR.out
            have HS := hid hs; have HT7 := hid ht; have HG7 := hid hg
            clear hs ht hg HR
            by_cases hlt : j < U6.length
            · obtain ⟨b1, o1, u, rfl, huj, hct⟩ := (HKU.out.turn HT7.out).elemI hlt
              have huh := HUM.out u (List.mem_of_getElem? huj)
              have HFT := hid (fold_take (xs := xs) (s := s6) huj)
              have hlt' : (j : Int) < (U6.length : Int) := by omega
              have h2 := has_iff.1 huh
              obtain ⟨q, rfl⟩ := Int.eq_ofNat_of_zero_le h2.1
              have hqx : (q : Int) < (xs.length : Int) := by omega
              have HUH := hid huh
              have hlen := HS.out.len
              generalize (U6.take j).foldl (visF xs) s6 = s7 at *
              obtain ⟨iv, ov, ⟨c0, c1, c2, c3⟩, -, own1, -⟩ := HS.out.cells
              obtain ⟨ib, cap, rfl, hcb, hfb⟩ := in_cell own1 (t := q) (by omega)
              have hqi : (q : Int) < (s7.i.length : Int) := by omega
              have HNX := hid (fun (s8 : SD) (w8 : World) (h8 : SpS wr G7 R sp (.slice Al xs.length cl) (.slice (some ⟨bu, ou, none⟩) xs.length cu) xs s8 w8) (e : visF xs s7 (q : Int) = s8) =>
                (show ∃ G8, SpA w8 G8 R sp (.slice Al xs.length cl) (.slice (some ⟨bu, ou, none⟩) xs.length cu) xs ((U6.take (j + 1)).foldl (visF xs) s6) ∧ Turn G6 w6 w8 ∧ ∀ b, G8 b → G6 b ∨ w6.heap.size ≤ b by
                  obtain ⟨G8, a1, a2, a3⟩ := h8
                  exact ⟨G8, by rw [HFT.out, e]; exact a1, HT7.out.trans a2 HG7.out, fun b hb => (a3 b hb).elim (HG7.out b) fun h => .inr (Nat.le_trans HT7.out.size h)⟩))
              have HVI := hid (show visF xs s7 (q : Int) = if inB s7.i (q : Int) = true then apF xs s7 (q : Int) else if (nodeF xs (q : Int)).l.all (inB s7.i) = true then add1 s7 (q : Int) else s7 from rfl)
              clear own1 huj h2
              rcases hin : inB s7.i (q : Int) with _ | _
              · rw [hin] at hcb
                have hx := nodeF_get huh
                rw [Int.toNat_natCast] at hx
                have HV2 := hid (show visF xs s7 (q : Int) = if (nodeF xs (q : Int)).l.all (inB s7.i) = true then add1 s7 (q : Int) else s7 by rw [HVI.out, hin]; rfl)
                have HXH := hid (ap_has wr G7 R sp _ _ xs s7 q _ HS.out hx)
                have HXB := ap_bound wr G7 R sp _ _ xs s7 q _ HS.out hx
                obtain ⟨bn, on, cn, A', c', e, hcell, hkl⟩ := HS.out.keep hx
                injection e with e _ e3
                subst e; subst e3
                generalize nodeF xs (q : Int) = x at *
                obtain ⟨y0, y1, y2, y3⟩ := hcell wr (Nat.le_refl _) fun _ _ _ => rfl
                have HAL := hid (all_any wr G7 R sp _ _ xs s7 A' _ c' x.l HS.out hkl.here HXH.out (by omega))
                clear hcell hkl hx huh hin HVI
                go_wp2_with fail
                refine HAL.out.mono ?_
                rintro e w8 ⟨rfl, hb8⟩
                have HB8 := hid hb8
                rcases hall : x.l.all (inB s7.i) with _ | _
                · have HN := hid (HNX.out s7 w8 (HS.out.stay hb8) (by rw [HV2.out, hall]; rfl))
                  clear hb8
                  go_wp2_with fail
                  go_roundw
                  case rel => obtain ⟨G8, h8⟩ := HN.out; exact ⟨j + 1, G8, by go_num, by omega, hid h8⟩
                  case measure => simp [intOf]; omega
                · have HAD := hid (add_any (w8.alloc (.cells #[.int .i64 (q : Int)] 3)) G7 R sp _ _ xs s7 _ 1 1 [(q : Int)] ((HS.out.ext hb8).ext ((Below.refl _ _).alloc (Nat.le_refl _) _)) (keepL_new (q : Int) fun b hb => Nat.lt_of_lt_of_le (HS.out.glt b hb) hb8.size) (fun t ht => by rw [List.mem_singleton] at ht; subst ht; exact HUH.out) (by decide))
                  have HV3 := hid (show visF xs s7 (q : Int) = addL s7 [(q : Int)] by rw [HV2.out, hall]; rfl)
                  clear hb8 hall c0 c1 c2 c3 hcb hfb y0 y1 y2 y3
                  go_wp2_with fail
                  refine HAD.out.mono ?_
                  rintro e w9 ⟨rfl, hs9⟩
                  have HN := hid (HNX.out _ w9 ((hs9.first ((Below.refl _ _).alloc (Nat.le_refl _) _)).first HB8.out) HV3.out)
                  clear hs9
                  go_wp2_with fail
                  go_roundw
                  case rel => obtain ⟨G8, h8⟩ := HN.out; exact ⟨j + 1, G8, by go_num, by omega, hid h8⟩
                  case measure => simp [intOf]; omega
              · rw [hin] at hcb
                have HV2 := hid (show visF xs s7 (q : Int) = apF xs s7 (q : Int) by rw [HVI.out, hin]; rfl)
                have HAP := hid (apart_any wr G7 R sp _ _ xs s7 (q : Int) HS.out HUH.out HUL.out)
                clear hin HVI huh
                go_wp2_with fail
                refine HAP.out.mono ?_
                rintro e w8 ⟨rfl, hs8⟩
                have HN := hid (HNX.out _ w8 hs8 HV2.out)
                clear hs8
                go_wp2_with fail
                go_roundw
                case rel => obtain ⟨G8, h8⟩ := HN.out; exact ⟨j + 1, G8, by go_num, by omega, hid h8⟩
                case measure => simp [intOf]; omega
            · have hjn : j = U6.length := by omega
              have HTK := hid (show U6.take j = U6 from List.take_of_length_le (by omega))
              have HSD := hid (show SpA wr G7 R sp (.slice Al xs.length cl) (.slice (some ⟨bu, ou, none⟩) xs.length cu) xs (U6.foldl (visF xs) s6) by rw [← HTK.out]; exact HS.out)
              subst hjn
              have hlt' : ¬ ((U6.length : Nat) : Int) < (U6.length : Int) := by omega
              clear hlt
              go_wp2_with fail
              go_roundg (gk - 1)
              case rel =>
                exact ⟨(U6.foldl (visF xs) s6).i, (U6.foldl (visF xs) s6).o, G7, hid ⟨HSD.out, HT6.out.trans HT7.out HG6.out, fun b hb => (HG7.out b hb).elim (HG6.out b) fun h => .inr (Nat.le_trans HT6.out.size h)⟩, hid ⟨HPOP.out, by have h1 := HMU.out; have h2 := HMA.out; have h3 := HUV.out; exact Nat.le_trans h3 (Nat.le_trans h2 (by omega))⟩⟩
              case measure => have := HMU.out; omega
end Go.Proofs.YtadbgmfdbahcbaaDoor

