import Derived.Test.YtfmkniakfgpgjaaGreatDoorY18
import Derived.Test.YtfmkniakfgpgjaaGreatDoorY03
import Derived.Laws.MakeOwn
import Derived.Laws.Entries
/- deduce: what close is built of (memory; the bases). -/
namespace Go.KK
open Go.Proofs
set_option linter.unusedVariables false
set_option linter.unusedSimpArgs false
theorem bases_succ (xs : List ND) (k : Nat) : bases xs (k + 1) = bases xs k ++ (if (nodeF xs (k : Int)).o ≠ 1 ∧ (nodeF xs (k : Int)).l = [] then [(k : Int)] else []) := by
  unfold bases
  rw [List.range_succ, List.filter_append, List.map_append]
  congr 1
  by_cases h : (nodeF xs (k : Int)).o ≠ 1 ∧ (nodeF xs (k : Int)).l = []
  · rw [if_pos h]
    simp [h.1, h.2]
  · rw [if_neg h]
    have : ((nodeF xs (k : Int)).o != 1 && (nodeF xs (k : Int)).l.isEmpty) = false := by
      rw [Bool.eq_false_iff]
      intro e
      simp only [Bool.and_eq_true, bne_iff_ne, List.isEmpty_iff] at e
      exact h e
    simp [this]
theorem vis_mu {xs : List ND} (ok : Okay xs) : ∀ {l : List Int} {s : SD}, s.i.length = xs.length → (∀ u ∈ l, hasB xs u = true) → mu (l.foldl (visF xs) s) ≤ mu s
  | [], _, _, _ => Nat.le_refl _
  | u :: l, s, hl, h => by
    have h1 := mu_vis ok hl (h u (by simp))
    exact Nat.le_trans (vis_mu ok (l := l) h1.2 fun v hv => h v (by simp [hv])) h1.1
theorem fold_take {xs : List ND} {U : List Int} {s : SD} {j : Nat} {u : Int} (h : U[j]? = some u) : (U.take (j + 1)).foldl (visF xs) s = visF xs ((U.take j).foldl (visF xs) s) u := by
  rw [take_one h, List.foldl_append]
  rfl
end Go.KK
namespace Go.Proofs.YtfmkniakfgpgjaaGreatDoor
open Go.RowKit Go.KK Go.Shelf Go.Maps

theorem run_cut_to {P : Program} {A : Option Addr} {n c : Nat} {t e : TypeId} (ht : P.underlying t = some (.slice e)) (hs : ∀ W : World, (sizeOf e).run P W = .ok 1 W) {p : Nat} (hp : p ≤ c) :
    ∀ W : World, (Instr.slice t (.slice A n c) none (some (.int .i64 (p : Int))) none).run P W = .ok (.slice A p c) W := by
  intro W
  have he : P.elem t = e := by simp [Program.elem, ht]
  rw [run_slice_h W t A n c (by rw [he]; exact ht) .i64 p (by omega) (by omega), he, hs W]
  have hz : ∀ a : Addr, a.add 0 = a := fun a => by simp [Addr.add]
  simp [Result.andThen, sliced, hz]
theorem open_cut {w : World} {b0 : Nat} {A : Option Addr} {n c : Nat} {l : List Int} {t : Int} (h : w.ownsRow b0 3 1 (.slice A n c) (l ++ [t]).length ((l ++ [t]).map (.int .i64))) : w.ownsRow b0 3 1 (.slice A l.length c) l.length (l.map (.int .i64)) := by
  refine ⟨by rw [List.length_map, Nat.mul_one], ?_⟩
  rcases h.2 with ⟨hv, h0⟩ | ⟨g, cap, cur, hv, hg, hh, hc, hm', hcs, ht⟩
  · simp at h0
  · injection hv with e1 e2 e3
    subst e1; subst e3
    rw [List.length_append, List.length_singleton] at hc ht
    refine .inr ⟨g, c, cur, rfl, hg, hh, by omega, hm', hcs, ?_⟩
    have : (cur.toList.take ((l.length + 1) * 1)).take l.length = cur.toList.take (l.length * 1) := by rw [List.take_take]; congr 1; omega
    rw [← this, ht, List.map_append]
    exact List.take_left' (by simp)
section
variable {W W' : World} {G G' R : Nat → Prop} {sp : Nat} {lv uv : Value} {xs : List ND} {A : Option Addr} {n c : Nat} {l : List Int} {I : List Bool} {O : List Int} {t : Int}
theorem KeepL.move (h : KeepL W G A n c l) (ht : Turn G W W') (hg : ∀ b, G' b → G b ∨ W.heap.size ≤ b) : KeepL W' G' A n c l := fun W2 hs hk =>
  h W2 (Nat.le_trans ht.size hs) fun b hb hn => (hk b (Nat.lt_of_lt_of_le hb ht.size) fun hh => (hg b hh).elim hn (by omega)).trans (ht.block b hb hn)
/-- The last of those that are open is taken away. -/
theorem SpA.pop (h : SpA W G R sp lv uv xs ⟨I, O ++ [t]⟩) (hc : W.cell? ⟨sp, 3, none⟩ = some (.slice A n c)) : SpA (W.setCell ⟨sp, 3, none⟩ (.slice A O.length c)) G R sp lv uv xs ⟨I, O⟩ := by
  obtain ⟨iv, ov, h1, h2, h3, h4, h5⟩ := h.go
  have e : ov = .slice A n c := by
    have := cell_of_row W sp 3 _ _ (0, 0) h1
    rw [hc] at this
    injection this with this
    exact this.symm
  subst e
  have hne : ∀ b, b ≠ sp → (W.setCell ⟨sp, 3, none⟩ (.slice A O.length c)).heap[b]? = W.heap[b]? := fun b hb => Below.heap_setCell W ⟨sp, 3, none⟩ _ b hb
  have hol := h.ol
  have hl := h.len
  have h3' := open_cut h3
  refine ⟨⟨iv, .slice A O.length c, by rw [heap_setCell_same W sp 3 _ _ _ h1]; rfl, own_block h2 fun b hb => hne b (h4 b hb).2, own_block h3' fun b hb => hne b (h5 b (by cases A <;> exact hb)).2, h4, fun b hb => h5 b (by cases A <;> exact hb)⟩, h.gs, fun b hb => by simpa using h.glt b hb, h.gr, fun b hb => by simpa using h.rlt b hb, rdl_kept h.rdl fun b hb => hne b fun e => h.gr b hb (e ▸ h.gs), rdu_kept h.rdu fun b hb => hne b fun e => h.gr b hb (e ▸ h.gs), h.ok, hl, by
    simp only [List.length_append, List.length_singleton] at hol
    show O.length + I.count false ≤ _
    omega⟩
end
set_option maxHeartbeats 4000000 in
set_option maxRecDepth 100000 in
theorem close_any (W : World) (G R : Nat → Prop) (sp : Nat) (lv uv : Value) (xs : List ND) (A : Option Addr) (n c : Nat) (known : List Int) (h : SpA W G R sp lv uv xs ⟨List.replicate xs.length false, []⟩) (hk : KeepL W G A n c known) (hh : ∀ t ∈ known, hasB xs t = true) (hn : n ≤ 1000000) (hul : ∀ m, (uses xs m).length ≤ 100000000) :
    Calls Tryz.prog 120 #[.pointer (some ⟨sp, 0, none⟩), .slice A n c] W fun e w' => e = .returned (.tuple #[]) ∧ ∃ I, Inv xs known ⟨I, []⟩ ∧ SpS W G R sp lv uv xs ⟨I, []⟩ w' := by
  have H := hid h; have HKN := hid hk; have HH := hid hh; have HUL := hid hul
  have hok := hid h.ok
  have hxn : xs.length ≤ 100000 := h.ok.len
  obtain ⟨iv, ov, ⟨c0, c1, c2, c3⟩, -⟩ := h.cells
  have hlv : ∃ bn on cn, lv = .slice (some ⟨bn, on, none⟩) xs.length cn ∨ (xs.length = 0 ∧ ∃ A c, lv = .slice A 0 c) := by
    obtain ⟨A, c, qs, h1, h2, h3⟩ := h.rdl
    obtain ⟨hs, -⟩ := h3 W fun _ _ => rfl
    rcases Nat.eq_zero_or_pos xs.length with h0 | h0
    · exact ⟨0, 0, 0, .inr ⟨h0, A, c, by rw [h1, h0]⟩⟩
    · obtain ⟨bn, on, c0, A', c', hb, -⟩ := h.keep (List.getElem?_eq_getElem h0)
      exact ⟨bn, on, c0, .inl hb⟩
  have hlen : ∃ A c, lv = .slice A xs.length c := by
    obtain ⟨A, c, qs, h1, -⟩ := h.rdl
    exact ⟨A, c, h1⟩
  obtain ⟨Al, cl, rfl⟩ := hlen
  clear h hk hh hul hlv
  go_enter Tryz.func120, Tryz.ntmps120
  go_wp2_with fail
  go_loopw [14] (fun v wr => ∃ (j : Nat) (G' : Nat → Prop), v = .int .i64 j ∧ j ≤ xs.length ∧ Hid (SpA wr G' R sp (.slice Al xs.length cl) uv xs (Go.KK.addL ⟨List.replicate xs.length false, []⟩ (bases xs j)) ∧ Turn G W wr ∧ ∀ b, G' b → G b ∨ W.heap.size ≤ b)) (fun v _ => xs.length - (intOf v).toNat)
  case atStart => exact ⟨0, G, rfl, Nat.zero_le _, hid ⟨H.out, Turn.refl _ _, fun _ h => .inl h⟩⟩
  case round =>
    clear c0 c1 c2 c3
    obtain ⟨j, G', hv, hj, HR⟩ := hrel
    subst hv
    obtain ⟨hs, ht, hg⟩ := HR.out
    have HS := hid hs; have HT := hid ht; have HG := hid hg
    clear hs ht hg HR
    by_cases hlt : j < xs.length
    · have hlt' : (j : Int) < (xs.length : Int) := by omega
      have HBS := hid (bases_succ xs j)
      have hx := nodeF_get (xs := xs) (t := (j : Int)) (has_iff.2 ⟨by omega, by omega⟩)
      rw [Int.toNat_natCast] at hx
      generalize nodeF xs (j : Int) = x at *
      generalize HSJ : Go.KK.addL ⟨List.replicate xs.length false, []⟩ (bases xs j) = sj at *
      obtain ⟨bn, on, cn, A', c', e, hcell, hkl⟩ := HS.out.keep hx
      injection e with e _ e3
      subst e; subst e3
      obtain ⟨y0, y1, y2, y3⟩ := hcell wr (Nat.le_refl _) fun _ _ _ => rfl
      have HAL := hid (show Below wr.heap.size wr (wr.alloc (.cells #[.int .i64 x.o, .int .i64 x.n, .string x.s, .slice A' x.l.length c'] 64)) from (Below.refl _ _).alloc (Nat.le_refl _) _)
      have HSJ' := hid HSJ
      clear hx hcell hkl HSJ
      have hNX : ∀ (G5 : Nat → Prop) (w5 : World) (s5 : SD), SpS wr G' R sp (.slice (some ⟨bn, on, none⟩) xs.length cl) uv xs s5 w5 → s5 = Go.KK.addL ⟨List.replicate xs.length false, []⟩ (bases xs (j + 1)) → True := fun _ _ _ _ _ => trivial
      clear hNX
      by_cases hb : x.o ≠ 1 ∧ x.l = []
      · have HB1 := hid (show Go.KK.addL ⟨List.replicate xs.length false, []⟩ (bases xs (j + 1)) = Go.KK.addL sj [(j : Int)] by rw [HBS.out, if_pos hb, addL_app, HSJ'.out])
        obtain ⟨hb1, hb2⟩ := hb
        have hb1' : (x.o != 1) = true := by simpa using hb1
        have hb2' : x.l.length = 0 := by rw [hb2]; rfl
        obtain ⟨xo, xn, xt, xl⟩ := x
        simp only at hb1 hb2 hb1'
        subst hb2
        have y3' : wr.cell? ⟨bn, on + j * 4 + 3, none⟩ = some (.slice A' 0 c') := y3
        clear y3 hb2'
        go_upto_region 4 with fail
        refine forget (R := fun V => Below wr.heap.size wr V) ?_ HAL.out
        clear HAL y0 y1 y2 y3'
        intro V hV
        have HVB := hid hV
        have HAD := hid (add_any (V.alloc (.cells #[.int .i64 (j : Int)] 3)) G' R sp _ _ xs _ _ 1 1 [(j : Int)] ((HS.out.ext hV).ext ((Below.refl _ _).alloc (Nat.le_refl _) _)) (keepL_new (j : Int) fun b hb => Nat.lt_of_lt_of_le (HS.out.glt b hb) hV.size) (fun t ht => by rw [List.mem_singleton] at ht; subst ht; exact has_iff.2 ⟨by omega, by omega⟩) (by decide))
        clear hV
        go_wp2_with fail
        refine HAD.out.mono ?_
        rintro e w5 ⟨rfl, hs5⟩
        obtain ⟨G5, p1, p2, p3⟩ := (hs5.first ((Below.refl _ _).alloc (Nat.le_refl _) _)).first HVB.out
        have P1 := hid p1; have P2 := hid p2; have P3 := hid p3
        clear p1 p2 p3 hs5
        go_wp2_with fail
        go_roundw
        case rel =>
          refine ⟨j + 1, G5, by go_num, by omega, hid ⟨by rw [HB1.out]; exact P1.out, HT.out.trans P2.out HG.out, fun b hb => ?_⟩⟩
          have := HT.out.size
          rcases P3.out b hb with h' | h'
          · exact HG.out b h'
          · exact .inr (by omega)
        case measure => simp [intOf]; omega
      · have HB1 := hid (show Go.KK.addL ⟨List.replicate xs.length false, []⟩ (bases xs (j + 1)) = sj by rw [HBS.out, if_neg hb, List.append_nil, HSJ'.out])
        have hb' : (x.o != 1) = false ∨ ((x.o != 1) = true ∧ (x.l.length == 0) = false) := by
          by_cases h1 : x.o = 1
          · exact .inl (by simp [h1])
          · refine .inr ⟨by simpa using h1, beq_eq_false_iff_ne.2 fun h2 => hb ⟨h1, List.eq_nil_of_length_eq_zero h2⟩⟩
        have hbx : (x.o != 1) = true → ¬ (x.l.length = 0) := fun h => by
          rcases hb' with h1 | ⟨_, h1⟩
          · rw [h1] at h; cases h
          · exact beq_eq_false_iff_ne.1 h1
        have hxl := HS.out.ok
        rcases hb' with hb' | ⟨hb', hb2⟩
        · have hb1 : x.o = 1 := by simpa using hb'
          rw [hb1] at y0
          clear hb hbx hb' hxl
          go_wp2_with fail
          go_roundw
          case rel => exact ⟨j + 1, G', by go_num, by omega, hid ⟨by rw [HB1.out]; exact HS.out.ext (by first | exact HAL.out | exact (Below.refl _ _).alloc (Nat.le_refl _) _), HT.out.trans (Turn.of_below (F := fun _ => False) ((Below.refl _ _).alloc (Nat.le_refl _) _)) (fun _ h => h.elim), fun b hb => HG.out b hb⟩⟩
          case measure => simp [intOf]; omega
        · have hb3 := beq_eq_false_iff_ne.1 hb2
          have hb4 : ((x.l.length : Int) == 0) = false := by rw [beq_eq_false_iff_ne]; omega
          clear hb hbx hxl hb2
          generalize x.l.length = xn at *
          go_wp2_with fail
          go_roundw
          case rel => exact ⟨j + 1, G', by go_num, by omega, hid ⟨by rw [HB1.out]; exact HS.out.ext HAL.out, HT.out.trans (Turn.of_below (F := fun _ => False) HAL.out) (fun _ h => h.elim), fun b hb => HG.out b hb⟩⟩
          case measure => simp [intOf]; omega
    · have hjn : j = xs.length := by omega
      subst hjn
      have hlt' : ¬ ((xs.length : Nat) : Int) < (xs.length : Int) := by omega
      have HAD := hid (add_any wr G' R sp _ _ xs _ A n c known HS.out (HKN.out.move HT.out HG.out) HH.out hn)
      go_wp2_with fail
      refine HAD.out.mono ?_
      rintro e w5 ⟨rfl, hs5⟩
      obtain ⟨G5, p1, p2, p3⟩ := hs5
      have HST := hid (show ∃ G5, SpA w5 G5 R sp (.slice Al xs.length cl) uv xs (startS xs known) ∧ Turn G W w5 ∧ ∀ b, G5 b → G b ∨ W.heap.size ≤ b from ⟨G5, p1, HT.out.trans p2 HG.out, fun b hb => (p3 b hb).elim (HG.out b) fun h => .inr (Nat.le_trans HT.out.size h)⟩)
      have HIS := hid (inv_start hok.out HH.out)
      clear p1 p2 p3 HS HT HG HAD hlt hlt' hj
      go_wp2_with fail
      go_loopg [] (mu (startS xs known)) (fun k wr => ∃ I O G', Hid (SpA wr G' R sp (.slice Al xs.length cl) uv xs ⟨I, O⟩ ∧ Turn G W wr ∧ ∀ b, G' b → G b ∨ W.heap.size ≤ b) ∧ Hid (Inv xs known ⟨I, O⟩ ∧ mu ⟨I, O⟩ ≤ k))
      case atStart =>
        obtain ⟨G5, p⟩ := HST.out
        exact ⟨(startS xs known).i, (startS xs known).o, G5, hid p, hid ⟨HIS.out, Nat.le_refl _⟩⟩
      case round =>
        clear HST HIS
        obtain ⟨I, O, G', HR, HK⟩ := hrel
        obtain ⟨hs, ht, hg⟩ := HR.out
        have HS := hid hs; have HT := hid ht; have HG := hid hg
        clear hs ht hg HR
        obtain ⟨iv, ov, ⟨c0, c1, c2, c3⟩, f3, own1, own3, -, g3⟩ := HS.out.cells
        have HO := hid (show wr.ownsRow 0 3 1 ov O.length (O.map (.int .i64)) from own3)
        obtain ⟨Ao, co, rfl, hos⟩ := SlA.owned HO.out
        have HOS := hid hos
        clear own1 own3 hos
        rcases List.eq_nil_or_concat O with rfl | ⟨O', t, rfl⟩
        · go_wp2_with fail
          go_end0
          exact ⟨rfl, I, HK.out.1, G', HS.out, HT.out, HG.out⟩
        · rw [List.concat_eq_append] at HK HS HO HOS c3
          have hol : (O' ++ [t]).length + I.count false ≤ xs.length := HS.out.ol
          have hO1 : (O' ++ [t]).length = O'.length + 1 := by simp
          have hOb : O'.length ≤ co := by have := HOS.out.nc; omega
          obtain ⟨g, off, z, rfl, hz, hcz⟩ := HOS.out.elemI (k := O'.length) (by omega)
          have hzx : z = t := by
            rw [List.getElem?_append_right (Nat.le_refl _), Nat.sub_self] at hz
            injection hz with hz
            exact hz.symm
          subst hzx
          have hth := (HK.out.1.o z (by simp)).1
          obtain ⟨k, rfl⟩ := Int.eq_ofNat_of_zero_le (has_iff.1 hth).1
          have hkx : (k : Int) < (xs.length : Int) := (has_iff.1 hth).2
          have HTH := hid hth
          have hOl : O'.length < 100000 := by omega
          have HPOP := hid (HK.out.1.pop hok.out)
          have HPL := hid (show I.length = xs.length from HS.out.len)
          have HMU := hid (show mu (⟨I, O'⟩ : SD) + 1 ≤ gk from Nat.le_trans mu_pop HK.out.2)
          have hcut := run_cut_to Tryz.underlying33 sizeI (A := some ⟨g, off, none⟩) (n := (O' ++ [(k : Int)]).length) (c := co) (p := O'.length) hOb
          have c3' : wr.cell? ⟨sp, 3, none⟩ = some (.slice (some ⟨g, off, none⟩) (O' ++ [(k : Int)]).length co) := c3
          clear c3
          have HOM := hid (show (O' ++ [(k : Int)]).length = (O' ++ [(k : Int)]).length from rfl)
          generalize hm : (O' ++ [(k : Int)]).length = m at *
          have hsub : IntKind.i64.wrap ((m : Int) - 1) = (O'.length : Int) := by rw [IntKind.wrap_i64]; omega
          have hm0 : (0 : Int) < (m : Int) := by omega
          have hm0n : 0 < m := by omega
          have hm0d : decide (0 < m) = true := decide_eq_true hm0n
          have hlm : (O'.length : Int) < (m : Int) := by omega
          have hl0 : (0 : Int) ≤ (O'.length : Int) := by omega
          have HNE := hid (show IntKind.i64.wrap ((m : Int) - 1) = (O'.length : Int) from hsub)
          clear hz hth HK hol hm hO1 HOS HO g3
          have HC3 := hid c3'
          go_upto_region 8 with fail
          go_quiet (fail)
          go_upto_region 9 with fail
          refine forget (R := fun V => Below wr.heap.size wr V) ?_ (by first | exact below_drewN (Below.refl _ _) _ | exact below_drew (Below.refl _ _))
          clear c0 c1 c2 c3' f3 hcz
          intro V hV
          have HVB := hid hV
          have HSV := hid (HS.out.ext hV)
          have c3 : V.cell? ⟨sp, 3, none⟩ = some (.slice (some ⟨g, off, none⟩) m co) := (hV.cell (p := _) (block_lt_of_cell HC3.out)).trans HC3.out
          obtain ⟨-, -, -, f3, -⟩ := HSV.out.cells
          have HPP := hid (HSV.out.pop c3)
          have HPT := hid (show Turn G' wr (V.setCell ⟨sp, 3, none⟩ (.slice (some ⟨g, off, none⟩) O'.length co)) from (Turn.of_below (F := G') hV).trans (Turn.setCell (F := G') _ (.inl HSV.out.gs)) (fun _ h => .inl h))
          clear hV HC3
          go_region
          go_upto_region 10 with fail
          refine forget (R := fun U => SpA U G' R sp (.slice Al xs.length cl) uv xs ⟨I, O'⟩ ∧ Turn G' wr U) ?_ ⟨HPP.out.ext (below_drew (Below.refl _ _)), HPT.out.trans (Turn.of_below (F := G') (below_drew (Below.refl _ _))) (fun _ h => .inl h)⟩
          clear HPP HPT HSV HVB c3 f3
          rintro U ⟨hs, ht⟩
          have HAP := hid (apart_any U G' R sp _ uv xs ⟨I, O'⟩ (k : Int) hs HTH.out HUL.out)
          have HTU := hid (show Turn G W U from HT.out.trans ht HG.out)
          have HSZ := hid (show W.heap.size ≤ U.heap.size from Nat.le_trans HT.out.size ht.size)
          clear hs ht HS
          go_wp2_with fail
          refine HAP.out.mono ?_
          rintro e w6 ⟨rfl, hs6⟩
          obtain ⟨G6, p1, p2, p3⟩ := hs6
          have HS6 := hid p1
          have HT6 := hid (show Turn G W w6 from HTU.out.trans p2 HG.out)
          have HG6 := hid (show ∀ b, G6 b → G b ∨ W.heap.size ≤ b from fun b hb => (p3 b hb).elim (HG.out b) fun h => .inr (Nat.le_trans HSZ.out h))
          have HUV := hid (vis_mu (xs := xs) hok.out (l := uses xs (k : Int)) (s := apF xs ⟨I, O'⟩ (k : Int)) p1.len (fun u hu => (uses_mem.1 hu).1))
          have HUM := hid (fun u (hu : u ∈ uses xs (k : Int)) => (uses_mem.1 hu).1)
          have HMA := hid (mu_ap (xs := xs) hok.out (s := ⟨I, O'⟩) (t := (k : Int)) HPL.out HTH.out)
          have HUk := HUL.out (k : Int)
          obtain ⟨bu, ou, cu, Au, ku, rfl, hcu, hku⟩ := p1.keepU (t := k) (by omega)
          have HKU := hid hku
          have hcu0 := hcu w6 (Nat.le_refl _) fun _ _ _ => rfl
          obtain ⟨iv6, ov6, ⟨c0, c1, c2, c3⟩, -⟩ := p1.cells
          have HKM := hid (fun (w7 : World) (G7 : Nat → Prop) (h : Turn G6 w6 w7) => (hku.turn h))
          generalize apF xs ⟨I, O'⟩ (k : Int) = s6 at *
          generalize uses xs (k : Int) = U6 at *
          clear p1 p2 p3 hcu hku HAP HTU HSZ HKM
          go_wp2_with fail
          go_loopw [79] (fun v wq => ∃ (j : Nat) (G7 : Nat → Prop), v = .int .i64 j ∧ j ≤ U6.length ∧ Hid (SpA wq G7 R sp (.slice Al xs.length cl) (.slice (some ⟨bu, ou, none⟩) xs.length cu) xs ((U6.take j).foldl (visF xs) s6) ∧ Turn G6 w6 wq ∧ ∀ b, G7 b → G6 b ∨ w6.heap.size ≤ b)) (fun v _ => U6.length - (intOf v).toNat)
          case atStart => exact ⟨0, G6, rfl, Nat.zero_le _, hid ⟨HS6.out, Turn.refl _ _, fun _ h => .inl h⟩⟩
          case round =>
            clear hcu0 c0 c1 c2 c3
            obtain ⟨j, G7, hv, hj, HR⟩ := hrel
            subst hv
            obtain ⟨hs, ht, hg⟩ := HR.out
            have HS := hid hs; have HT7 := hid ht; have HG7 := hid hg
            clear hs ht hg HR
            by_cases hlt : j < U6.length
            · obtain ⟨b1, o1, u, rfl, huj, hct⟩ := (HKU.out.turn HT7.out).elemI hlt
              have huh := HUM.out u (List.mem_of_getElem? huj)
              have HFT := hid (fold_take (xs := xs) (s := s6) huj)
              have hlt' : (j : Int) < (U6.length : Int) := by omega
              have h2 := has_iff.1 huh
              obtain ⟨q, rfl⟩ := Int.eq_ofNat_of_zero_le h2.1
              have hqx : (q : Int) < (xs.length : Int) := by omega
              have HUH := hid huh
              have hlen := HS.out.len
              generalize (U6.take j).foldl (visF xs) s6 = s7 at *
              obtain ⟨iv, ov, ⟨c0, c1, c2, c3⟩, -, own1, -⟩ := HS.out.cells
              obtain ⟨ib, cap, rfl, hcb, hfb⟩ := in_cell own1 (t := q) (by omega)
              have hqi : (q : Int) < (s7.i.length : Int) := by omega
              have HNX := hid (fun (s8 : SD) (w8 : World) (h8 : SpS wr G7 R sp (.slice Al xs.length cl) (.slice (some ⟨bu, ou, none⟩) xs.length cu) xs s8 w8) (e : visF xs s7 (q : Int) = s8) =>
                (show ∃ G8, SpA w8 G8 R sp (.slice Al xs.length cl) (.slice (some ⟨bu, ou, none⟩) xs.length cu) xs ((U6.take (j + 1)).foldl (visF xs) s6) ∧ Turn G6 w6 w8 ∧ ∀ b, G8 b → G6 b ∨ w6.heap.size ≤ b by
                  obtain ⟨G8, a1, a2, a3⟩ := h8
                  exact ⟨G8, by rw [HFT.out, e]; exact a1, HT7.out.trans a2 HG7.out, fun b hb => (a3 b hb).elim (HG7.out b) fun h => .inr (Nat.le_trans HT7.out.size h)⟩))
              have HVI := hid (show visF xs s7 (q : Int) = if inB s7.i (q : Int) = true then apF xs s7 (q : Int) else if (nodeF xs (q : Int)).l.all (inB s7.i) = true then add1 s7 (q : Int) else s7 from rfl)
              clear own1 huj h2
              rcases hin : inB s7.i (q : Int) with _ | _
              · rw [hin] at hcb
                have hx := nodeF_get huh
                rw [Int.toNat_natCast] at hx
                have HV2 := hid (show visF xs s7 (q : Int) = if (nodeF xs (q : Int)).l.all (inB s7.i) = true then add1 s7 (q : Int) else s7 by rw [HVI.out, hin]; rfl)
                have HXH := hid (ap_has wr G7 R sp _ _ xs s7 q _ HS.out hx)
                have HXB := ap_bound wr G7 R sp _ _ xs s7 q _ HS.out hx
                obtain ⟨bn, on, cn, A', c', e, hcell, hkl⟩ := HS.out.keep hx
                injection e with e _ e3
                subst e; subst e3
                generalize nodeF xs (q : Int) = x at *
                obtain ⟨y0, y1, y2, y3⟩ := hcell wr (Nat.le_refl _) fun _ _ _ => rfl
                have HAL := hid (all_any wr G7 R sp _ _ xs s7 A' _ c' x.l HS.out hkl.here HXH.out (by omega))
                clear hcell hkl hx huh hin HVI
                go_wp2_with fail
                refine HAL.out.mono ?_
                rintro e w8 ⟨rfl, hb8⟩
                have HB8 := hid hb8
                rcases hall : x.l.all (inB s7.i) with _ | _
                · have HN := hid (HNX.out s7 w8 (HS.out.stay hb8) (by rw [HV2.out, hall]; rfl))
                  clear hb8
                  go_wp2_with fail
                  go_roundw
                  case rel => obtain ⟨G8, h8⟩ := HN.out; exact ⟨j + 1, G8, by go_num, by omega, hid h8⟩
                  case measure => simp [intOf]; omega
                · have HAD := hid (add_any (w8.alloc (.cells #[.int .i64 (q : Int)] 3)) G7 R sp _ _ xs s7 _ 1 1 [(q : Int)] ((HS.out.ext hb8).ext ((Below.refl _ _).alloc (Nat.le_refl _) _)) (keepL_new (q : Int) fun b hb => Nat.lt_of_lt_of_le (HS.out.glt b hb) hb8.size) (fun t ht => by rw [List.mem_singleton] at ht; subst ht; exact HUH.out) (by decide))
                  have HV3 := hid (show visF xs s7 (q : Int) = Go.KK.addL s7 [(q : Int)] by rw [HV2.out, hall]; rfl)
                  clear hb8 hall c0 c1 c2 c3 hcb hfb y0 y1 y2 y3
                  go_wp2_with fail
                  refine HAD.out.mono ?_
                  rintro e w9 ⟨rfl, hs9⟩
                  have HN := hid (HNX.out _ w9 ((hs9.first ((Below.refl _ _).alloc (Nat.le_refl _) _)).first HB8.out) HV3.out)
                  clear hs9
                  go_wp2_with fail
                  go_roundw
                  case rel => obtain ⟨G8, h8⟩ := HN.out; exact ⟨j + 1, G8, by go_num, by omega, hid h8⟩
                  case measure => simp [intOf]; omega
              · rw [hin] at hcb
                have HV2 := hid (show visF xs s7 (q : Int) = apF xs s7 (q : Int) by rw [HVI.out, hin]; rfl)
                have HAP := hid (apart_any wr G7 R sp _ _ xs s7 (q : Int) HS.out HUH.out HUL.out)
                clear hin HVI huh
                go_wp2_with fail
                refine HAP.out.mono ?_
                rintro e w8 ⟨rfl, hs8⟩
                have HN := hid (HNX.out _ w8 hs8 HV2.out)
                clear hs8
                go_wp2_with fail
                go_roundw
                case rel => obtain ⟨G8, h8⟩ := HN.out; exact ⟨j + 1, G8, by go_num, by omega, hid h8⟩
                case measure => simp [intOf]; omega
            · have hjn : j = U6.length := by omega
              have HTK := hid (show U6.take j = U6 from List.take_of_length_le (by omega))
              have HSD := hid (show SpA wr G7 R sp (.slice Al xs.length cl) (.slice (some ⟨bu, ou, none⟩) xs.length cu) xs (U6.foldl (visF xs) s6) by rw [← HTK.out]; exact HS.out)
              subst hjn
              have hlt' : ¬ ((U6.length : Nat) : Int) < (U6.length : Int) := by omega
              clear hlt
              go_wp2_with fail
              go_roundg (gk - 1)
              case rel =>
                exact ⟨(U6.foldl (visF xs) s6).i, (U6.foldl (visF xs) s6).o, G7, hid ⟨HSD.out, HT6.out.trans HT7.out HG6.out, fun b hb => (HG7.out b hb).elim (HG6.out b) fun h => .inr (Nat.le_trans HT6.out.size h)⟩, hid ⟨HPOP.out, by have h1 := HMU.out; have h2 := HMA.out; have h3 := HUV.out; exact Nat.le_trans h3 (Nat.le_trans h2 (by omega))⟩⟩
              case measure => have := HMU.out; omega
end Go.Proofs.YtfmkniakfgpgjaaGreatDoor

/- deduce: what each term is looked at for, in memory; the closure that notes one more. -/
namespace Go.Proofs.YtfmkniakfgpgjaaGreatDoor
open Go.RowKit Go.KK Go.Shelf Go.Maps
set_option linter.unusedVariables false
set_option linter.unusedSimpArgs false

/-- The rows of what each term is looked at for, while they are noted. -/
structure UsS (w : World) (sp sv B bu cu : Nat) (lv iv : Value) (n : Nat) (ps : List (Int × Int)) (us : List Value) : Prop where
  var : w.heap[sv]? = some (.cells #[.pointer (some ⟨sp, 0, none⟩)] 114 (0, 0))
  box : w.heap[sp]? = some (.cells #[lv, iv, .slice (some ⟨bu, 0, none⟩) n cu, .slice none 0 0] 120 (0, 0))
  row : w.ownsRow 0 33 1 (.slice (some ⟨bu, 0, none⟩) n cu) n us
  rows : ∀ (x : Nat) u, us[x]? = some u → w.ownsRow B 3 1 u (useOf ps (x : Int)).length ((useOf ps (x : Int)).map (.int .i64))
  sep : ∀ (x y : Nat) u v b, x ≠ y → us[x]? = some u → us[y]? = some v → u.ownBlock = some b → v.ownBlock ≠ some b
  ne : sp ≠ bu ∧ sv ≠ bu ∧ sp ≠ sv
  lo : sp < B ∧ sv < B ∧ bu < B ∧ B ≤ w.heap.size
section
variable {w w1 w4 : World} {sp sv B bu cu : Nat} {lv iv : Value} {n : Nat} {ps : List (Int × Int)} {us : List Value}
theorem UsS.len (h : UsS w sp sv B bu cu lv iv n ps us) : us.length = n := by have := h.row.1; omega
theorem UsS.cell (h : UsS w sp sv B bu cu lv iv n ps us) {x : Nat} {u : Value} (hx : us[x]? = some u) (hb : Below w.heap.size w w1) (hg : w1.grownBy w4 u.ownBlock) : (w4.cell? ⟨bu, x, none⟩ = some u ∧ w4.frozen? ⟨bu, x, none⟩ = false) ∧ w4.cell? ⟨sv, 0, none⟩ = some (.pointer (some ⟨sp, 0, none⟩)) ∧ w4.cell? ⟨sp, 2, none⟩ = some (.slice (some ⟨bu, 0, none⟩) n cu) := by
  obtain ⟨l1, l2, l3, l4⟩ := h.lo
  have hub := (h.rows x u hx).lt
  have hr := own_block (w' := w4) h.row fun b e => by
    have e' : bu = b := by injection e
    subst e'
    exact (hg.block bu (by have := hb.size; omega) (fun e => by have := (hub bu e.symm).1; omega)).trans (hb.block bu (by omega))
  have := hr.cells rfl x _ hx
  rw [add_lit, Nat.zero_add] at this
  have low : ∀ b, b < B → w4.heap[b]? = w.heap[b]? := fun b hb' => (hg.block b (by have := hb.size; omega) (fun e => by have := (hub b e.symm).1; omega)).trans (hb.block b (by omega))
  exact ⟨⟨this, hr.frozenAt x⟩, cell_of_row w4 sv 0 _ _ (0, 0) ((low sv l2).trans h.var), cell_of_row w4 sp 2 _ _ (0, 0) ((low sp l1).trans h.box)⟩
theorem UsS.put (h : UsS w sp sv B bu cu lv iv n ps us) {x : Nat} {t : Int} {u v : Value} (hx : us[x]? = some u) (hb : Below w.heap.size w w1) (hg : w1.grownBy w4 u.ownBlock)
    (ho : w4.ownsRow B 3 1 v ((useOf ps (x : Int)).length + 1) ((useOf ps (x : Int)).map (.int .i64) ++ [.int .i64 t])) (hl : v.ownBlock = u.ownBlock ∨ v.ownBlock = some w1.heap.size) :
    UsS (w4.setCell ⟨bu, x, none⟩ v) sp sv B bu cu lv iv n (ps ++ [(t, (x : Int))]) (us.set x v) ∧ Turn (fun b => b = bu ∨ ∃ (x : Nat) (u : Value), us[x]? = some u ∧ u.ownBlock = some b) w (w4.setCell ⟨bu, x, none⟩ v) := by
  obtain ⟨l1, l2, l3, l4⟩ := h.lo
  obtain ⟨n1, n2, n3⟩ := h.ne
  have hub := (h.rows x u hx).lt
  have hs1 := hb.size
  have hs2 := hg.size
  have old : ∀ b, b < w.heap.size → u.ownBlock ≠ some b → w4.heap[b]? = w.heap[b]? := fun b hb' hn => (hg.block b (by omega) (fun e => hn e.symm)).trans (hb.block b hb')
  have low : ∀ b, b < B → w4.heap[b]? = w.heap[b]? := fun b hb' => old b (by omega) fun e => by have := (hub b e).1; omega
  have hst : ∀ b, b ≠ bu → (w4.setCell ⟨bu, x, none⟩ v).heap[b]? = w4.heap[b]? := fun b hn => Below.heap_setCell w4 ⟨bu, x, none⟩ _ b hn
  have hvb := ho.lt
  refine ⟨⟨(hst sv n2).trans ((low sv l2).trans h.var), (hst sp n1).trans ((low sp l1).trans h.box), ?_, ?_, ?_, h.ne, l1, l2, l3, by simp; omega⟩, ?_⟩
  · exact ((own_block h.row fun b e => by injection e with e; subst e; exact low _ l3).stored x v).1
  · intro y z hz
    rw [useOf_snoc]
    by_cases hy : y = x
    · subst hy
      have hyl := (List.getElem?_eq_some_iff.1 hx).1
      rw [List.getElem?_set_self hyl] at hz
      injection hz with hz
      subst hz
      rw [if_pos rfl, List.length_append, List.length_singleton, List.map_append]
      exact own_block ho fun b e => hst b (by have := (hvb b e).1; omega)
    · rw [List.getElem?_set_ne (fun e => hy e.symm)] at hz
      rw [if_neg (by omega)]
      have hr := h.rows y z hz
      refine own_block hr fun b e => ?_
      have := hr.lt b e
      rw [hst b (by omega)]
      exact old b this.2 (fun e' => h.sep x y u z b (fun e => hy e.symm) hx hz e' e)
  · intro a b u' v' k hab ha hb' e
    have olds : ∀ (c : Nat) z k, us[c]? = some z → z.ownBlock = some k → k < w.heap.size := fun c z k hc e => ((h.rows c z hc).lt k e).2
    by_cases h1 : a = x
    · subst h1
      have hyl := (List.getElem?_eq_some_iff.1 hx).1
      rw [List.getElem?_set_self hyl] at ha
      injection ha with ha
      subst ha
      rw [List.getElem?_set_ne hab] at hb'
      intro e2
      rcases hl with hl | hl
      · exact h.sep a b u v' k hab hx hb' (hl ▸ e) e2
      · have := olds b v' k hb' e2
        rw [hl] at e
        injection e with e
        omega
    · rw [List.getElem?_set_ne (fun e => h1 e.symm)] at ha
      by_cases h2 : b = x
      · subst h2
        have hyl := (List.getElem?_eq_some_iff.1 hx).1
        rw [List.getElem?_set_self hyl] at hb'
        injection hb' with hb'
        subst hb'
        intro e2
        rcases hl with hl | hl
        · exact h.sep a b u' u k hab ha hx e (hl ▸ e2)
        · have := olds a u' k ha e
          rw [hl] at e2
          injection e2 with e2
          omega
      · rw [List.getElem?_set_ne (fun e => h2 e.symm)] at hb'
        exact h.sep a b u' v' k hab ha hb' e
  · have t1 : Turn (fun b => b = bu ∨ ∃ (x : Nat) (u : Value), us[x]? = some u ∧ u.ownBlock = some b) w w4 := (Turn.of_below (F := fun b => b = bu ∨ ∃ (x : Nat) (u : Value), us[x]? = some u ∧ u.ownBlock = some b) hb).trans (Turn.grown (F := fun b => b = bu ∨ ∃ (x : Nat) (u : Value), us[x]? = some u ∧ u.ownBlock = some b) hg fun b e => .inl (.inr ⟨x, u, hx, e⟩)) (fun _ h => .inl h)
    exact t1.trans (Turn.setCell (F := fun b => b = bu ∨ ∃ (x : Nat) (u : Value), us[x]? = some u ∧ u.ownBlock = some b) (w := w4) (a := ⟨bu, x, none⟩) v (.inl (.inl rfl))) (fun _ h => .inl h)
/-- What lies low is kept. -/
theorem UsS.lo_turn (h : UsS w sp sv B bu cu lv iv n ps us) (ht : Turn (fun b => b = bu ∨ ∃ (x : Nat) (u : Value), us[x]? = some u ∧ u.ownBlock = some b) w w1) : Turn (fun b => b = bu ∨ B ≤ b) w w1 :=
  ht.mono fun b hb => hb.imp id fun ⟨x, u, hx, e⟩ => ((h.rows x u hx).lt b e).1
/-- A row of nodes is kept. -/
theorem UsS.node (h : UsS w sp sv B bu cu lv iv n ps us) (ht : Turn (fun b => b = bu ∨ ∃ (x : Nat) (u : Value), us[x]? = some u ∧ u.ownBlock = some b) w w1) {b0 m : Nat} {v : Value} {cs : List Value} (ho : w.ownsRow b0 64 4 v m cs) : w1.ownsRow b0 64 4 v m cs :=
  own_block ho fun b e => ht.block b (ho.lt b e).2 fun hb => hb.elim (fun e' => own_apart ho h.row (by decide) b e (by subst e'; rfl)) fun ⟨x, u, hx, e'⟩ => own_apart ho (h.rows x u hx) (by decide) b e e'
end
set_option maxHeartbeats 4000000 in
set_option maxRecDepth 100000 in
theorem look1_any (w : World) (sp sv B bu cu : Nat) (lv iv : Value) (n : Nat) (ps : List (Int × Int)) (us : List Value) (x : Nat) (t : Int) (h : UsS w sp sv B bu cu lv iv n ps us) (hx : x < n) (hlen : (useOf ps (x : Int)).length ≤ 100000000) :
    Calls Tryz.prog 138 #[.int .i64 x, .int .i64 t, .pointer (some ⟨sv, 0, none⟩)] w fun e w' => e = .returned (.tuple #[]) ∧ ∃ us', UsS w' sp sv B bu cu lv iv n (ps ++ [(t, (x : Int))]) us' ∧ Turn (fun b => b = bu ∨ ∃ (x : Nat) (u : Value), us[x]? = some u ∧ u.ownBlock = some b) w w' := by
  obtain ⟨i0, hi, hz0, hz1, hz2⟩ := info_parts Tryz.infoInt
  have H := hid h
  have hxl : x < us.length := by rw [h.len]; exact hx
  have hux := List.getElem?_eq_getElem hxl
  generalize us[x] = u at hux
  have HUX := hid hux
  have hur := h.rows x u hux
  have HUR := hid hur
  have HLE := hid hlen
  obtain ⟨A0, c0, rfl, -⟩ := SlA.owned hur
  obtain ⟨l1, l2, l3, l4⟩ := h.lo
  have hxn : (x : Int) < (n : Int) := by omega
  have r0 : w.cell? ⟨sv, 0, none⟩ = some (.pointer (some ⟨sp, 0, none⟩)) := cell_of_row w sv 0 _ _ (0, 0) h.var
  have r1 : w.cell? ⟨sp, 2, none⟩ = some (.slice (some ⟨bu, 0, none⟩) n cu) := cell_of_row w sp 2 _ _ (0, 0) h.box
  have r2 : w.cell? ⟨bu, x, none⟩ = some (.slice A0 (useOf ps (x : Int)).length c0) := by
    have := h.row.cells rfl x _ hux
    rwa [add_lit, Nat.zero_add] at this
  have f2 : w.frozen? ⟨bu, x, none⟩ = false := h.row.frozenAt x
  have r0' : (w.alloc (.cells #[.int .i64 t] 3)).cell? ⟨sv, 0, none⟩ = some (.pointer (some ⟨sp, 0, none⟩)) := (World.cell?_alloc_old _ _ _ (show sv ≠ w.heap.size by omega)).trans r0
  have r1' : (w.alloc (.cells #[.int .i64 t] 3)).cell? ⟨sp, 2, none⟩ = some (.slice (some ⟨bu, 0, none⟩) n cu) := (World.cell?_alloc_old _ _ _ (show sp ≠ w.heap.size by omega)).trans r1
  have r2' : (w.alloc (.cells #[.int .i64 t] 3)).cell? ⟨bu, x, none⟩ = some (.slice A0 (useOf ps (x : Int)).length c0) := (World.cell?_alloc_old _ _ _ (show bu ≠ w.heap.size by omega)).trans r2
  have HOW := hid (show ((w.alloc (.cells #[.int .i64 t] 3)).drew).ownsRow B 3 1 (.slice A0 (useOf ps (x : Int)).length c0) (useOf ps (x : Int)).length ((useOf ps (x : Int)).map (.int .i64)) from own_block (hur.alloc _) (fun _ _ => rfl))
  have HLO := hid (show B ≤ ((w.alloc (.cells #[.int .i64 t] 3)).drew).heap.size by simp; omega)
  have HBB := hid (show Below w.heap.size w ((w.alloc (.cells #[.int .i64 t] 3)).drew) from below_drew ((Below.refl _ _).alloc (Nat.le_refl _) _))
  clear h hux hur hlen l1 l2 l3 l4
  have HCL := hid (fun (w4 : World) (hg : ((w.alloc (.cells #[.int .i64 t] 3)).drew).grownBy w4 (Value.slice A0 (useOf ps (x : Int)).length c0).ownBlock) => H.out.cell HUX.out HBB.out hg)
  have HPT := hid (fun (v : Value) (w4 : World) (hg : ((w.alloc (.cells #[.int .i64 t] 3)).drew).grownBy w4 (Value.slice A0 (useOf ps (x : Int)).length c0).ownBlock) (ho : w4.ownsRow B 3 1 v ((useOf ps (x : Int)).length + 1) ((useOf ps (x : Int)).map (Value.int .i64) ++ [Value.int .i64 t])) (hl : v.ownBlock = (Value.slice A0 (useOf ps (x : Int)).length c0).ownBlock ∨ v.ownBlock = some ((w.alloc (.cells #[.int .i64 t] 3)).drew).heap.size) => H.out.put (v := v) (t := t) HUX.out HBB.out hg ho hl)
  generalize (useOf ps (x : Int)).map (Value.int .i64) = ul at *
  generalize (useOf ps (x : Int)).length = m at *
  go_enter Tryz.func138, Tryz.ntmps138
  go_region_law (refine step_append_sl _ rfl (.tmp 16) (.tmp 18) 33 rfl B 3 i0 (.int .i64 0) 1 8 Tryz.underlying33 hi hz0 hz1 hz2 rfl (by decide) (.slice A0 m c0) m ul (by rfl) HOW.out (some ⟨w.heap.size, 0, none⟩) 1 1 [.int .i64 t] (by rfl) (SlA.lit1 (w := w) (T := 3) (.int .i64 t)).drew (one_int _ _) (by have := HLE.out; unfold maxLen; omega) (by have := HLE.out; omega) HLO.out ?_; intro v4 w4 h4 g4 l4; obtain ⟨A4, c4, rfl, -⟩ := SlA.owned h4; have HP4 := hid (HPT.out _ _ g4 h4 l4); obtain ⟨⟨s4, f4⟩, s5, s6⟩ := HCL.out _ g4; clear h4 g4 l4)
  all_goals
    go_wp2_with fail
    go_end0
    exact ⟨rfl, _, HP4.out⟩
end Go.Proofs.YtfmkniakfgpgjaaGreatDoor

/- deduce: look (the terms, copied). -/
namespace Go.Proofs.YtfmkniakfgpgjaaGreatDoor
open Go.RowKit Go.KK Go.Shelf Go.Maps
set_option linter.unusedVariables false
set_option linter.unusedSimpArgs false

theorem use_le {xs : List ND} {t : Nat} (ht : t < xs.length) {m1 m2 : List Int} (h : links xs (nodeF xs (t : Int)) = m1 ++ m2) (q : Int) : (useOf (pairs xs t ++ m1.map fun y => ((t : Int), y)) q).length ≤ (uses xs q).length := by
  have hp : ∀ n, t + 1 ≤ n → ∃ r, pairs xs n = pairs xs (t + 1) ++ r := by
    intro n hn
    induction n with
    | zero => omega
    | succ n ih =>
      rcases Nat.lt_or_ge t n with h1 | h1
      · obtain ⟨r, hr⟩ := ih (by omega)
        exact ⟨r ++ pairsT xs n, by rw [pairs_succ, hr, List.append_assoc]⟩
      · have : n = t := by omega
        subst this
        exact ⟨[], by simp⟩
  obtain ⟨r, hr⟩ := hp xs.length (by omega)
  unfold uses
  rw [hr, pairs_succ]
  unfold pairsT
  rw [h]
  unfold useOf
  simp only [List.map_append, List.filter_append, List.length_append]
  omega
/-- The terms that are copied, so far. -/
structure LkS (w0 w : World) (sp sv B : Nat) (lv : Value) (xs : List ND) (j : Nat) (qs : List Value) : Prop where
  var : w.heap[sv]? = some (.cells #[.pointer (some ⟨sp, 0, none⟩)] 114 (0, 0))
  box : w.heap[sp]? = some (.cells #[lv, .slice none 0 0, .slice none 0 0, .slice none 0 0] 120 (0, 0))
  row : w.ownsRow B 64 4 lv j (nds (xs.take j) qs)
  ql : qs.length = j
  qr : ∀ (i : Nat) x q, (xs.take j)[i]? = some x → qs[i]? = some q → w.ownsRow B 3 1 q x.l.length (x.l.map (.int .i64))
  lo : sp < B ∧ sv < B ∧ sp ≠ sv ∧ B ≤ w.heap.size ∧ w0.heap.size ≤ sp ∧ w0.heap.size ≤ sv
  low : Below w0.heap.size w0 w
section
variable {w0 w w1 w4 : World} {sp sv B : Nat} {lv : Value} {xs : List ND} {j : Nat} {qs : List Value}
theorem LkS.ext (h : LkS w0 w sp sv B lv xs j qs) (hb : Below w.heap.size w w1) : LkS w0 w1 sp sv B lv xs j qs := by
  obtain ⟨l1, l2, l3, l4, l5, l6⟩ := h.lo
  exact ⟨(hb.block sv (by omega)).trans h.var, (hb.block sp (by omega)).trans h.box, own_ext h.row hb, h.ql, fun i x q hx hq => own_ext (h.qr i x q hx hq) hb, ⟨l1, l2, l3, Nat.le_trans l4 hb.size, l5, l6⟩, h.low.trans (hb.mono (by omega))⟩
theorem LkS.cell (h : LkS w0 w sp sv B lv xs j qs) (hb : Below w.heap.size w w1) (hg : w1.grownBy w4 lv.ownBlock) : w4.cell? ⟨sv, 0, none⟩ = some (.pointer (some ⟨sp, 0, none⟩)) ∧ w4.cell? ⟨sp, 0, none⟩ = some lv ∧ w4.frozen? ⟨sp, 0, none⟩ = false := by
  obtain ⟨l1, l2, l3, l4, l5, l6⟩ := h.lo
  have low : ∀ b, b < B → w4.heap[b]? = w.heap[b]? := fun b hb' => (hg.block b (by have := hb.size; omega) (fun e => by have := (h.row.lt b e.symm).1; omega)).trans (hb.block b (by omega))
  have hbox := (low sp l1).trans h.box
  exact ⟨cell_of_row w4 sv 0 _ _ (0, 0) ((low sv l2).trans h.var), cell_of_row w4 sp 0 _ _ (0, 0) hbox, by simp [World.frozen?, hbox]⟩
theorem LkS.put (h : LkS w0 w sp sv B lv xs j qs) {x : ND} {q v : Value} (hx : xs[j]? = some x) (hb : Below w.heap.size w w1) (hq : w1.ownsRow B 3 1 q x.l.length (x.l.map (.int .i64)))
    (hg : w1.grownBy w4 lv.ownBlock) (ho : w4.ownsRow B 64 4 v (j + 1) (nds (xs.take j) qs ++ x.cells q)) : LkS w0 (w4.setCell ⟨sp, 0, none⟩ v) sp sv B v xs (j + 1) (qs ++ [q]) := by
  obtain ⟨l1, l2, l3, l4, l5, l6⟩ := h.lo
  have hs1 := hb.size
  have hs2 := hg.size
  have hr1 := own_ext h.row hb
  have low : ∀ b, b < B → w4.heap[b]? = w.heap[b]? := fun b hb' => (hg.block b (by omega) (fun e => by have := (h.row.lt b e.symm).1; omega)).trans (hb.block b (by omega))
  have hst : ∀ b, b ≠ sp → (w4.setCell ⟨sp, 0, none⟩ v).heap[b]? = w4.heap[b]? := fun b hn => Below.heap_setCell w4 ⟨sp, 0, none⟩ _ b hn
  have htk : xs.take (j + 1) = xs.take j ++ [x] := take_one hx
  have hjx : (xs.take j).length = j := by
    have := (List.getElem?_eq_some_iff.1 hx).1
    rw [List.length_take]; omega
  have keepq : ∀ {u : Value} {m : Nat} {l : List Value}, w1.ownsRow B 3 1 u m l → (w4.setCell ⟨sp, 0, none⟩ v).ownsRow B 3 1 u m l := fun {u m l} hu => own_block hu fun b e => by
    have := hu.lt b e
    rw [hst b (by omega)]
    exact hg.block b this.2 fun e' => own_apart hu hr1 (by decide) b e e'.symm
  refine ⟨(hst sv (fun e => l3 e.symm)).trans ((low sv l2).trans h.var), ?_, ?_, by simp [h.ql], ?_, ⟨l1, l2, l3, by simp; omega, l5, l6⟩, ?_⟩
  · rw [heap_setCell_same w4 sp 0 _ _ v ((low sp l1).trans h.box)]; rfl
  · rw [htk, nds_snoc (by rw [h.ql, hjx])]
    exact own_block ho fun b e => hst b (by have := (ho.lt b e).1; omega)
  · intro i y u hy hu
    rw [htk] at hy
    by_cases hi : i < j
    · rw [List.getElem?_append_left (by omega)] at hy
      rw [List.getElem?_append_left (by rw [h.ql]; exact hi)] at hu
      exact keepq (own_ext (h.qr i y u hy hu) hb)
    · have hij : i = j := by
        have := (List.getElem?_eq_some_iff.1 hy).1
        simp at this
        omega
      subst hij
      rw [List.getElem?_append_right (by omega), hjx, Nat.sub_self] at hy
      rw [List.getElem?_append_right (by rw [h.ql]; exact Nat.le_refl _), h.ql, Nat.sub_self] at hu
      injection hy with hy
      injection hu with hu
      subst hy; subst hu
      exact keepq hq
  · have b1 : Below w0.heap.size w0 w1 := h.low.trans (hb.mono (by omega))
    have b2 : Below w0.heap.size w0 w4 := below_append b1 hg hr1 (by omega) (by omega)
    exact b2.setCell (p := ⟨sp, 0, none⟩) l5 v
end
theorem made1 (v : Value) (n : Nat) : (madeCells #[v] n).toList = List.replicate n v := by
  apply List.ext_getElem
  · simp [madeCells]
  · intro i h1 h2
    simp [madeCells, Nat.mod_one]
theorem own_mono {w : World} {b b' : Nat} {e : TypeId} {size n : Nat} {v : Value} {cs : List Value} (h : w.ownsRow b e size v n cs) (hb : b' ≤ b) : w.ownsRow b' e size v n cs := by
  refine ⟨h.1, ?_⟩
  rcases h.2 with h2 | ⟨g, cap, cur, rfl, hg, r⟩
  · exact .inl h2
  · exact .inr ⟨g, cap, cur, rfl, Nat.le_trans hb hg, r⟩
theorem UsS.ext {w w1 : World} {sp sv B bu cu : Nat} {lv iv : Value} {n : Nat} {ps : List (Int × Int)} {us : List Value} (h : UsS w sp sv B bu cu lv iv n ps us) (hb : Below w.heap.size w w1) : UsS w1 sp sv B bu cu lv iv n ps us := by
  obtain ⟨l1, l2, l3, l4⟩ := h.lo
  exact ⟨(hb.block sv (by omega)).trans h.var, (hb.block sp (by omega)).trans h.box, own_ext h.row hb, fun x u hx => own_ext (h.rows x u hx) hb, h.sep, h.ne, l1, l2, l3, Nat.le_trans l4 hb.size⟩
/-- The copied terms, as they read. -/
theorem rd_at {w w' : World} {B : Nat} {lv : Value} {xs : List ND} {qs : List Value} (hr : w.ownsRow B 64 4 lv xs.length (nds xs qs)) (hq : qs.length = xs.length)
    (hqr : ∀ (i : Nat) x q, xs[i]? = some x → qs[i]? = some q → w.ownsRow B 3 1 q x.l.length (x.l.map (.int .i64)))
    (hk : ∀ b, B ≤ b → b < w.heap.size → (∀ c t f, w.heap[b]? = some (.cells c t f) → t = 64 ∨ t = 3) → w'.heap[b]? = w.heap[b]?) : ∃ A c, lv = .slice A xs.length c ∧ SlA w' 4 A xs.length c (nds xs qs) ∧ ∀ (j : Nat) x q, xs[j]? = some x → qs[j]? = some q → In1 w' q x.l := by
  have kp : ∀ {e : TypeId} {size n : Nat} {v : Value} {cs : List Value}, w.ownsRow B e size v n cs → (e = 64 ∨ e = 3) → w'.ownsRow B e size v n cs := fun {e size n v cs} h he => own_block h fun b hb => by
    have hl := h.lt b hb
    refine hk b hl.1 hl.2 fun c t f hc => ?_
    rcases h.2 with ⟨rfl, _⟩ | ⟨g, cap, cur, rfl, hg, hh, r⟩
    · cases hb
    · have hb' : g = b := by injection hb
      subst hb'
      rw [hh] at hc
      injection hc with hc
      injection hc with _ hc
      rw [← hc]
      exact he
  obtain ⟨A, c, rfl, hs⟩ := SlA.owned (kp hr (.inl rfl))
  refine ⟨A, c, rfl, hs, fun j x q hx hq' => ?_⟩
  obtain ⟨A', c', rfl, hs'⟩ := SlA.owned (kp (hqr j x q hx hq') (.inr rfl))
  exact ⟨A', c', rfl, hs'⟩
/-- What stays as it is while the rows of uses are noted. -/
structure LkR (w0 w : World) (B : Nat) (lv iv : Value) (xs : List ND) (qs : List Value) : Prop where
  row : w.ownsRow B 64 4 lv xs.length (nds xs qs)
  ql : qs.length = xs.length
  qr : ∀ (i : Nat) x q, xs[i]? = some x → qs[i]? = some q → w.ownsRow B 3 1 q x.l.length (x.l.map (.int .i64))
  inr : w.ownsRow B 4 1 iv xs.length ((List.replicate xs.length false).map .bool)
  low : Below w0.heap.size w0 w
  lo : w0.heap.size ≤ B
section
variable {w0 w w' : World} {sp sv B B3 bu cu : Nat} {lv iv : Value} {xs : List ND} {qs us : List Value} {bc : Array Value}
theorem own_new {T : TypeId} {n : Nat} {v : Value} (hb : bc.toList = List.replicate n v) (hn : n ≤ 100000) : (w.alloc (.cells bc T)).ownsRow w.heap.size T 1 (.slice (some ⟨w.heap.size, 0, none⟩) n n) n (List.replicate n v) :=
  ⟨by simp, .inr ⟨w.heap.size, n, bc, rfl, Nat.le_refl _, heap_alloc_new w _, Nat.le_refl _, by unfold maxLen; omega, by rw [← Array.length_toList, hb]; simp, by rw [hb]; simp⟩⟩
theorem LkS.made (h : LkS w0 w sp sv B lv xs xs.length qs) (hn : xs.length ≤ 100000) (hb : bc.toList = List.replicate xs.length (.bool false)) :
    LkR w0 (((w.alloc (.cells bc 4)).setCell ⟨sp, 1, none⟩ (.slice (some ⟨w.heap.size, 0, none⟩) xs.length xs.length)).drew) B lv (.slice (some ⟨w.heap.size, 0, none⟩) xs.length xs.length) xs qs ∧
    (((w.alloc (.cells bc 4)).setCell ⟨sp, 1, none⟩ (.slice (some ⟨w.heap.size, 0, none⟩) xs.length xs.length)).drew).heap[sv]? = some (.cells #[.pointer (some ⟨sp, 0, none⟩)] 114 (0, 0)) ∧
    (((w.alloc (.cells bc 4)).setCell ⟨sp, 1, none⟩ (.slice (some ⟨w.heap.size, 0, none⟩) xs.length xs.length)).drew).heap[sp]? = some (.cells #[lv, .slice (some ⟨w.heap.size, 0, none⟩) xs.length xs.length, .slice none 0 0, .slice none 0 0] 120 (0, 0)) ∧ B < (((w.alloc (.cells bc 4)).setCell ⟨sp, 1, none⟩ (.slice (some ⟨w.heap.size, 0, none⟩) xs.length xs.length)).drew).heap.size := by
  obtain ⟨l1, l2, l3, l4, l5, l6⟩ := h.lo
  have htk : xs.take xs.length = xs := List.take_length
  have hrow := h.row; have hqr := h.qr
  rw [htk] at hrow hqr
  have old : ∀ b, b < w.heap.size → b ≠ sp → (((w.alloc (.cells bc 4)).setCell ⟨sp, 1, none⟩ (.slice (some ⟨w.heap.size, 0, none⟩) xs.length xs.length)).drew).heap[b]? = w.heap[b]? := fun b hb hn =>
    (Below.heap_setCell _ ⟨sp, 1, none⟩ _ b hn).trans (Below.heap_alloc w _ b hb)
  refine ⟨⟨own_block hrow fun b e => old b (hrow.lt b e).2 (by have := (hrow.lt b e).1; omega), h.ql, fun i x q hx hq => own_block (hqr i x q hx hq) fun b e => old b ((hqr i x q hx hq).lt b e).2 (by have := ((hqr i x q hx hq).lt b e).1; omega), ?_, ?_, by omega⟩, (old sv (by omega) fun e => l3 e.symm).trans h.var, ?_, by show _ < ((w.alloc _).setCell _ _).heap.size; simp; omega⟩
  · rw [List.map_replicate]
    exact own_mono (own_block (own_new hb hn) fun b e => (Below.heap_setCell (w.alloc (.cells bc 4)) ⟨sp, 1, none⟩ _ b (fun e' => by have e2 : w.heap.size = b := (by injection e); have e3 : b = sp := e'; omega))) l4
  · exact below_drew ((h.low.alloc h.low.size _).setCell (p := ⟨sp, 1, none⟩) l5 _)
  · exact (heap_setCell_same (w.alloc (.cells bc 4)) sp 1 _ _ _ ((Below.heap_alloc w _ sp (by omega)).trans h.box)).trans rfl
theorem LkR.made (h : LkR w0 w B lv iv xs qs) (hv : w.heap[sv]? = some (.cells #[.pointer (some ⟨sp, 0, none⟩)] 114 (0, 0))) (hx : w.heap[sp]? = some (.cells #[lv, iv, .slice none 0 0, .slice none 0 0] 120 (0, 0)))
    (hs : sp < B) (hsv : sv < B) (hne : sp ≠ sv) (h0 : w0.heap.size ≤ sp) (hB : B ≤ w.heap.size) (hn : xs.length ≤ 100000) (hb : bc.toList = List.replicate xs.length (.slice none 0 0)) :
    LkR w0 (((w.alloc (.cells bc 33)).setCell ⟨sp, 2, none⟩ (.slice (some ⟨w.heap.size, 0, none⟩) xs.length xs.length)).drew) B lv iv xs qs ∧
    UsS (((w.alloc (.cells bc 33)).setCell ⟨sp, 2, none⟩ (.slice (some ⟨w.heap.size, 0, none⟩) xs.length xs.length)).drew) sp sv (w.heap.size + 1) w.heap.size xs.length lv iv xs.length [] (List.replicate xs.length (.slice none 0 0)) := by
  have old : ∀ b, b < w.heap.size → b ≠ sp → (((w.alloc (.cells bc 33)).setCell ⟨sp, 2, none⟩ (.slice (some ⟨w.heap.size, 0, none⟩) xs.length xs.length)).drew).heap[b]? = w.heap[b]? := fun b hb hn =>
    (Below.heap_setCell _ ⟨sp, 2, none⟩ _ b hn).trans (Below.heap_alloc w _ b hb)
  have kp : ∀ {e : TypeId} {size n : Nat} {v : Value} {cs : List Value}, w.ownsRow B e size v n cs → (((w.alloc (.cells bc 33)).setCell ⟨sp, 2, none⟩ (.slice (some ⟨w.heap.size, 0, none⟩) xs.length xs.length)).drew).ownsRow B e size v n cs := fun h => own_block h fun b e => old b (h.lt b e).2 (by have := (h.lt b e).1; omega)
  refine ⟨⟨kp h.row, h.ql, fun i x q hx hq => kp (h.qr i x q hx hq), kp h.inr, below_drew ((h.low.alloc h.low.size _).setCell (p := ⟨sp, 2, none⟩) h0 _), h.lo⟩, ⟨(old sv (by omega) fun e => hne e.symm).trans hv, (heap_setCell_same (w.alloc (.cells bc 33)) sp 2 _ _ _ ((Below.heap_alloc w _ sp (by omega)).trans hx)).trans rfl, ?_, ?_, ?_, ⟨by omega, by omega, hne⟩, by omega, by omega, by omega, by show _ ≤ ((w.alloc _).setCell _ _).heap.size; simp⟩⟩
  · exact own_mono (own_block (own_new hb hn) fun b e => (Below.heap_setCell (w.alloc (.cells bc 33)) ⟨sp, 2, none⟩ _ b (fun e' => by have e2 : w.heap.size = b := (by injection e); have e3 : b = sp := e'; omega))) (Nat.zero_le _)
  · intro x u hu
    rw [List.getElem?_replicate] at hu
    split at hu
    · injection hu with hu
      subst hu
      exact World.ownsRow_nil _ _ _ _
    · cases hu
  · intro x y u v b _ hu hv e
    rw [List.getElem?_replicate] at hu
    split at hu
    · injection hu with hu
      subst hu
      cases e
    · cases hu
/-- A copied term, as it reads whatever is noted. -/
theorem LkR.keep (h : LkR w0 w B lv iv xs qs) (hV : w.heap[bu]? = some (.cells bc 33 (0, 0))) {t : Nat} {x : ND} (hx : xs[t]? = some x) : ∃ bn on c0 A' c', lv = .slice (some ⟨bn, on, none⟩) xs.length c0 ∧ ∀ W' : World, Turn (fun b => b = bu ∨ w.heap.size ≤ b) w W' →
    (W'.cell? ⟨bn, on + t * 4, none⟩ = some (.int .i64 x.o) ∧ W'.cell? ⟨bn, on + t * 4 + 1, none⟩ = some (.int .i64 x.n) ∧ W'.cell? ⟨bn, on + t * 4 + 2, none⟩ = some (.string x.s) ∧ W'.cell? ⟨bn, on + t * 4 + 3, none⟩ = some (.slice A' x.l.length c')) ∧ SlA W' 1 A' x.l.length c' (x.l.map (.int .i64)) := by
  have ht := (List.getElem?_eq_some_iff.1 hx).1
  have hq := h.ql
  have hqt : qs[t]? = some (qs[t]'(by omega)) := List.getElem?_eq_getElem (by omega)
  generalize qs[t]'(by omega) = q at hqt
  obtain ⟨A, c0, rfl, hs0, hi0⟩ := rd_at (w' := w) h.row h.ql h.qr fun _ _ _ _ => rfl
  obtain ⟨A', c', rfl, -⟩ := hi0 t x q hx hqt
  obtain ⟨bn, on, rfl, -⟩ := hs0.cells (t * 4 + 0) _ (nds_get hx hqt (by decide))
  refine ⟨bn, on, c0, A', c', rfl, fun W' hk => ?_⟩
  obtain ⟨A3, c3, e3, hs, hi⟩ := rd_at (w' := W') h.row h.ql h.qr fun b h1 h2 hty => hk.block b h2 fun e => e.elim (fun e => by subst e; exact absurd (hty _ _ _ hV) (by decide)) (by omega)
  injection e3 with e3 _ e4
  subst e3; subst e4
  obtain ⟨A2, c2, e2, hs2⟩ := hi t x _ hx hqt
  injection e2 with e2 _ e3
  subst e2; subst e3
  have cell : ∀ k, k < 4 → ∀ u, (x.cells (.slice A' x.l.length c'))[k]? = some u → W'.cell? ⟨bn, on + (t * 4 + k), none⟩ = some u := fun k hk u hu => by
    obtain ⟨b, off, e, hc⟩ := hs.cells (t * 4 + k) u ((nds_get hx hqt hk).trans hu)
    injection e with e
    injection e with e e'
    subst e; subst e'
    exact hc
  exact ⟨⟨cell 0 (by decide) _ rfl, by have := cell 1 (by decide) _ rfl; rwa [← Nat.add_assoc] at this, by have := cell 2 (by decide) _ rfl; rwa [← Nat.add_assoc] at this, by have := cell 3 (by decide) _ rfl; rwa [← Nat.add_assoc] at this⟩, hs2⟩
/-- The space, once all is noted. -/
theorem LkR.done (h : LkR w0 w B lv iv xs qs) (hV : w.heap[bu]? = some (.cells bc 33 (0, 0))) (hB3 : B3 ≤ w.heap.size) (hBB : B ≤ B3) (hsp : sp < B) (h0 : w0.heap.size ≤ sp) (ok : Okay xs) (hu : UsS w' sp sv B3 bu cu lv iv xs.length (pairs xs xs.length) us) (ht : Turn (fun b => b = bu ∨ B3 ≤ b) w w') (hold : ∀ b, iv.ownBlock = some b → b < B3) (hrl : ∀ b, B ≤ b → B3 ≤ b → b < w.heap.size → False) :
    ∃ G R, SpA w' G R sp lv (.slice (some ⟨bu, 0, none⟩) xs.length cu) xs ⟨List.replicate xs.length false, []⟩ ∧ ∀ b, G b → w0.heap.size ≤ b := by
  have hsz := ht.size
  have hiv := h.inr.lt
  have tkeep : ∀ b, b < B3 → b ≠ bu → w'.heap[b]? = w.heap[b]? := fun b hb hn => ht.block b (by omega) fun e => e.elim hn (by omega)
  have hinr : w'.ownsRow 0 4 1 iv xs.length ((List.replicate xs.length false).map .bool) := own_mono (own_block h.inr fun b e => tkeep b (hold b e) fun e' => by
    subst e'
    rcases h.inr.2 with ⟨rfl, _⟩ | ⟨g, cap, cur, rfl, hg, hh, r⟩
    · cases e
    · have hb' : g = b := by injection e
      subst hb'
      rw [hV] at hh
      injection hh with hh
      injection hh with _ hh
      exact absurd hh (by decide)) (Nat.zero_le _)
  obtain ⟨m1, m2, m3, m4⟩ := hu.lo
  obtain ⟨q1, q2, q3⟩ := hu.ne
  refine ⟨fun b => b = sp ∨ iv.ownBlock = some b, fun b => b < w'.heap.size ∧ b ≠ sp ∧ iv.ownBlock ≠ some b, ⟨⟨iv, .slice none 0 0, hu.box, by simpa using hinr, World.ownsRow_nil _ _ _ _, fun b e => ⟨.inr e, fun e' => by have := (hiv b e).1; omega⟩, fun b e => by cases e⟩, .inl rfl, fun b hb => hb.elim (fun e => by omega) fun e => (hinr.lt b e).2, fun b hb hg => hg.elim hb.2.1 hb.2.2, fun b hb => hb.1, ?_, ?_, ok, by simp, by simp⟩, fun b hb => hb.elim (fun e => by omega) fun e => by have := (hiv b e).1; have := h.lo; omega⟩
  · obtain ⟨A, c, e, -, -⟩ := rd_at (w' := w) h.row h.ql h.qr fun _ _ _ _ => rfl
    refine ⟨A, c, qs, e, h.ql, fun W' hW => ?_⟩
    obtain ⟨A', c', e', hs, hi⟩ := rd_at (w' := W') h.row h.ql h.qr fun b h1 h2 hty => by
      have hb3 : b < B3 := by
        rcases Nat.lt_or_ge b B3 with h | h
        · exact h
        · exact (hrl b h1 h h2).elim
      have hnb : b ≠ bu := fun e => by
        subst e
        exact absurd (hty _ _ _ hV) (by decide)
      have hni : iv.ownBlock ≠ some b := fun e => by
        rcases h.inr.2 with ⟨rfl, _⟩ | ⟨g, cap, cur, rfl, hg, hh, r⟩
        · cases e
        · have hb' : g = b := by injection e
          subst hb'
          exact absurd (hty _ _ _ hh) (by decide)
      exact (hW b ⟨by omega, by omega, hni⟩).trans (tkeep b hb3 hnb)
    rw [e] at e'
    injection e' with e1 _ e3
    subst e1; subst e3
    exact ⟨hs, hi⟩
  · refine ⟨some ⟨bu, 0, none⟩, cu, us, rfl, hu.len, fun W' hW => ⟨?_, fun j q hq => ?_⟩⟩
    · have hr := own_block (w' := W') hu.row fun b e => hW b ⟨(hu.row.lt b e).2, fun e' => by (have e2 : bu = b := by injection e); omega, fun e' => own_apart hinr hu.row (by decide) b e' e⟩
      obtain ⟨A, c, e, hs⟩ := SlA.owned hr
      injection e with e1 _ e3
      subst e1; subst e3
      exact hs
    · have h1 := hu.rows j q hq
      have hr := own_block (w' := W') h1 fun b e => hW b ⟨(h1.lt b e).2, fun e' => by have := (h1.lt b e).1; omega, fun e' => own_apart hinr h1 (by decide) b e' e⟩
      obtain ⟨A, c, rfl, hs⟩ := SlA.owned hr
      exact ⟨A, c, rfl, hs⟩
end
theorem infoBool : (Tryz.prog.info? 4).map (fun i => (i.zero, i.size, i.bytes)) = some (some (.bool false), 1, 1) := by kernel_rfl
theorem infoInts : (Tryz.prog.info? 33).map (fun i => (i.zero, i.size, i.bytes)) = some (some (.slice none 0 0), 1, 24) := by kernel_rfl
theorem make1 {P : Program} {t e : TypeId} {i : TypeInfo} {z : Value} {bytes : Nat} (ht : P.underlying t = some (.slice e)) (hi : P.info? e = some i) (hz : i.zero = some z) (hs : i.size = 1) (hb : i.bytes = bytes) (hbb : bytes ≤ 24) (hzc : z.cells = #[z]) {n : Nat} (hn : n ≤ 100000) (U : World) :
    (Instr.makeSlice t (.int .i64 (n : Int)) (.int .i64 (n : Int))).run P U = .ok (.slice (some ⟨U.heap.size, 0, none⟩) n n) (U.alloc (.cells (madeCells #[z] n) e)) := by
  have hbn : bytes * n ≤ 24 * n := Nat.mul_le_mul_right _ hbb
  have hb' : (i.bytes : Int) * (n : Int) ≤ 281474976710656 := by
    have h : ((i.bytes * n : Nat) : Int) ≤ 281474976710656 := by rw [hb]; omega
    rwa [Int.natCast_mul] at h
  have hr := run_make (P := P) U t e i z ht hi hz .i64 .i64 n n (by omega) (by omega) hb' (by omega)
  simp only [Int.toNat_natCast, hs, Nat.mul_one, hzc] at hr
  exact hr
end Go.Proofs.YtfmkniakfgpgjaaGreatDoor

