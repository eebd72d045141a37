import Derived.Test.YtadbgmfdbahcbaaDoorZh
import Derived.Test.YtadbgmfdbahcbaaDoorZD8
/- deduce's law: DeduceNames walked. -/
namespace Go.Proofs.YtadbgmfdbahcbaaDoor
open Go.RowKit Go.KK Go.Shelf Go.Maps
set_option linter.unusedVariables false
set_option linter.unusedSimpArgs false

/-- The nodes that are turned so far. -/
structure TrnR (w w5 wr : World) (l : List ND) (b : Int) (j : Nat) (o : Value) (qs : List Value) : Prop where
  low : Below w5.heap.size w5 wr
  ql : qs.length = j
  row : wr.ownsRow w5.heap.size 32 4 o j (nds ((l.take j).map (renN b)) qs)
  inn : ∀ (i : Nat) x q, (l.take j)[i]? = some x → qs[i]? = some q → In1 w q x.l
  rng : ∀ x ∈ l.take j, x.o = 1 → 0 ≤ x.n ∧ x.n < 1000000
theorem TrnR.put {w w5 wr w6 : World} {l : List ND} {b : Int} {j : Nat} {o v A' : Value} {qs : List Value} {x : ND} (h : TrnR w w5 wr l b j o qs) (hx : l[j]? = some x) (hq : In1 w A' x.l) (hr : x.o = 1 → 0 ≤ x.n ∧ x.n < 1000000) (hb : Below w5.heap.size w5 w6) (ho : w6.ownsRow w5.heap.size 32 4 v (j + 1) (nds ((l.take j).map (renN b)) qs ++ (renN b x).cells A')) : TrnR w w5 w6 l b (j + 1) v (qs ++ [A']) := by
  have hl : (l.take j).length = j := by
    have := (List.getElem?_eq_some_iff.1 hx).1
    simp; omega
  have htk := take_one hx
  refine ⟨hb, by simp [h.ql], ?_, fun i y q hy hq' => ?_, fun y hy => ?_⟩
  · rw [htk, List.map_append, List.map_singleton, nds_snoc (by rw [List.length_map, hl, h.ql])]
    exact ho
  · rw [htk] at hy
    rcases Nat.lt_or_ge i j with hi | hi
    · rw [List.getElem?_append_left (by omega)] at hy
      rw [List.getElem?_append_left (by have := h.ql; omega)] at hq'
      exact h.inn i y q hy hq'
    · have hi2 : i = j := by
        have := (List.getElem?_eq_some_iff.1 hy).1
        rw [List.length_append, hl] at this
        simp at this
        omega
      subst hi2
      rw [List.getElem?_append_right (by omega), hl] at hy
      rw [List.getElem?_append_right (by have := h.ql; omega), h.ql] at hq'
      simp at hy hq'
      subst hy; subst hq'
      exact hq
  · rw [htk] at hy
    rcases List.mem_append.1 hy with hy | hy
    · exact h.rng y hy
    · rw [List.mem_singleton] at hy; subst hy; exact hr
theorem ndw_ren {b : Int} {x : ND} (h : NdW x) (hb : 0 ≤ b ∧ b < 1000) (hr : x.o = 1 → 0 ≤ x.n ∧ x.n < 1000000) : NdW (renN b x) := by
  refine ⟨by rw [(ren_o b x).1]; exact h.o, ?_, by rw [(ren_o b x).2.2]; exact h.l, by rw [(ren_o b x).2.1]; exact h.s⟩
  unfold renN
  split
  · rename_i h1
    have := hr h1
    simp only
    omega
  · exact h.n
theorem TrnR.nda {w w5 wr : World} {l : List ND} {b : Int} {A : Option Addr} {n c : Nat} {qs : List Value} (h : TrnR w w5 wr l b n (.slice A n c) qs) (hn : l.length = n) (hw : Below w.heap.size w wr) : NdA wr A n c (l.map (renN b)) := by
  have e : l.take n = l := List.take_of_length_le (by omega)
  have hr := h.row
  have hi := h.inn
  rw [e] at hr hi
  refine ⟨qs, by rw [h.ql, List.length_map, hn], (SlA.of_own hr).2, fun i x q hx hq => ?_⟩
  rw [List.getElem?_map] at hx
  rcases hy : l[i]? with _ | y
  · rw [hy] at hx; cases hx
  · rw [hy] at hx
    injection hx with hx
    subst hx
    rw [(ren_o b y).2.2]
    exact (hi i y q hy hq).ext hw
set_option maxHeartbeats 8000000 in
set_option maxRecDepth 100000 in
theorem names_go (A : Option Addr) (n c : Nat) (l : List ND) (A1 : Option Addr) (n1 c1 : Nat) (x : List Int) (k : Int) (w : World) (hl : NdA w A n c l) (hI : ∀ x ∈ l, NdW x) (hx : SlA w 1 A1 n1 c1 (x.map (.int .i64))) (hxi : ∀ i ∈ x, I64 i) (hk : I64 k) (hT : Tb w.heap.size w) :
    Calls Tryd.prog 3 #[.slice A n c, .slice A1 n1 c1, .int .i64 k] w fun e w' => e = .returned (.bool true) ∧ Below w.heap.size w w' := by
  have hln := hl.len
  have hxn := hx.lenI
  have HT := hid hT; have HL := hid hl; have HI := hid hI; have HX := hid hx
  have HLV := hid (live_any w hT)
  have hz : (1000 : Int) ≠ 0 := by decide
  have hm1 : -1000 < k.tmod 1000 ∧ k.tmod 1000 < 1000 := ⟨by have := Int.lt_tmod_of_pos k (show (0 : Int) < 1000 by decide); omega, Int.tmod_lt_of_pos k (by decide)⟩
  have hr1 : IntKind.i64.wrap (k.tmod 1000) = k.tmod 1000 := by rw [IntKind.wrap_i64]; omega
  have hr2 : IntKind.i64.wrap (k.tmod 1000 + 1000) = k.tmod 1000 + 1000 := by rw [IntKind.wrap_i64]; omega
  have hr3 : IntKind.i64.wrap (k.tmod 1000 % 1000) = k.tmod 1000 % 1000 := by rw [IntKind.wrap_i64]; omega
  obtain ⟨bq, hbq⟩ : ∃ bq, bq = k.tmod 1000 % 1000 := ⟨_, rfl⟩
  have hbb : 0 ≤ bq ∧ bq < 1000 := by omega
  have HBQ := hid hbq
  clear hbq
  clear hT hl hI hx hxi hk
  obtain ⟨iN, hNi, hNz, hNs, hNb⟩ := info_parts infoN
  go_enter Tryd.func3, Tryd.ntmps3
  go_wp2_with fail
  refine HLV.out.mono ?_
  rintro e w1 ⟨rfl, b1⟩
  have HB1 := hid b1
  clear b1 HLV
  go_wp2_with fail
  refine (few1_any A n c l A1 n1 c1 w1 (HL.out.ext HB1.out)).mono ?_
  rintro e w2 ⟨rfl, b2⟩
  have HB2 := hid (HB1.out.trans (b2.mono HB1.out.size))
  clear b2 HB1
  rcases hf : few5B l [n1] with _ | _
  · clear hf
    go_wp2_with fail
    go_ret
    exact ⟨rfl, HB2.out⟩
  have hfw := few5_iff.1 hf
  have hn40 : n ≤ 40 := by have := hfw.1; omega
  have h20 : n1 ≤ 20 := hfw.2.2 n1 (by simp)
  have HSZ := hid (szL_le (k := 60) fun z hz => (hfw.2.1 z hz).1)
  clear hf hfw
  go_upto_region 4 with fail
  go_cut [2] (fun v U => v = .int .i64 bq ∧ U = w2)
  case first =>
    go_wp2_with fail
    go_meet
    exact ⟨by rw [HBQ.out]; congr 1; omega, rfl⟩
  obtain ⟨rfl, rfl⟩ := hcut
  clear hr1 hr2 hr3 hm1 hz HBQ
  go_wp2_with fail
  refine (two_any A n c l _ (HL.out.ext HB2.out) HI.out (Tb.up (HT.out.on HB2.out) HB2.out.size) (by omega)).mono ?_
  rintro e w3 ⟨sa, sb, Z, Z', rfl, ht⟩
  have HAA := hid ht.a.vw; have HAB := hid ht.b.vw; have HOK := hid ht.a.ok
  have HB3 := hid (HB2.out.trans (ht.bl.mono HB2.out.size))
  clear ht HB2
  have HRN := hid (fun (h : ∀ x ∈ l, x.o = 1 → 0 ≤ x.n) => mks_ren hbb.1 l [] h)
  generalize mksT [] l = X at *
  have HTU := hid (fun (U : World) (hb : Below w.heap.size w U) => (show Tb U.heap.size U from Tb.up (HT.out.on hb) hb.size))
  go_wp2_with fail
  refine (light_any sb X _ HAB.out HOK.out A1 n1 c1 x (HX.out.ext HB3.out) (by omega)).mono ?_
  rintro e w4 ⟨rfl, b4⟩
  have HB34 := hid b4
  have HB4 := hid (HB3.out.trans (b4.mono HB3.out.size))
  clear b4
  rcases hlx : lightB X x with _ | _
  · clear hlx
    go_wp2_with fail
    go_ret
    exact ⟨rfl, HB4.out⟩
  have HPX := hid (fun (I : Int → Bool) (h : x.all (hasB X) = true) => pats_short HOK.out HSZ.out I hlx h)
  have HR0 := hid (show TrnR w w4 w4 l bq 0 (.slice none 0 0) [] from ⟨Below.refl _ _, rfl, World.ownsRow_nil _ _ _ _, fun i x q h => by simp at h, fun x h => by simp at h⟩)
  clear hlx HAB
  go_wp2_with fail
  go_loopw [42, 10] (fun v o wr => ∃ (j : Nat) (qs : List Value), v = .int .i64 j ∧ j ≤ n ∧ Hid (TrnR w w4 wr l bq j o qs)) (fun v _ _ => n - (intOf v).toNat)
  case atStart => exact ⟨0, [], rfl, Nat.zero_le _, HR0⟩
  case round =>
    clear HR0
    obtain ⟨j, qs, hv, hj, HR⟩ := hrel
    subst hv
    have HBW := hid (show Below w.heap.size w wr from HB4.out.trans (HR.out.low.mono HB4.out.size))
    by_cases hlt : j < n
    · obtain ⟨b, off, z, A', c', rfl, hzj, y0', y1', y2', y3', ys⟩ := HL.out.at hlt
      have up : ∀ {p : Addr} {u : Value}, w.cell? p = some u → wr.cell? p = some u := fun h => (HBW.out.cell (p := _) (block_lt_of_cell h)).trans h
      have y0 := up y0'; have y1 := up y1'; have y2 := up y2'; have y3 := up y3'
      clear up y0' y1' y2' y3'
      have HQ := hid (show In1 w (.slice A' z.l.length c') z.l from ⟨A', c', rfl, ys⟩)
      have HZ := hid hzj
      have hlt' : (j : Int) < (n : Int) := by omega
      have HBX := hid (show Below wr.heap.size wr (wr.alloc (.cells #[.int .i64 z.o, .int .i64 z.n, .string z.s, .slice A' z.l.length c'] 32)) from (Below.refl _ _).alloc (Nat.le_refl _) _)
      clear hzj ys
      have hw4r : w4.heap.size ≤ wr.heap.size := HR.out.low.size
      go_upto_region 12 with fail
      refine forget (R := fun W => W.ownsRow wr.heap.size 32 4 (.slice (some ⟨wr.heap.size, 0, none⟩) 1 1) 1 [.int .i64 z.o, .int .i64 z.n, .string z.s, .slice A' z.l.length c'] ∧ Below wr.heap.size wr W) ?_ ⟨boxN, HBX.out⟩
      clear HBX y0 y1 y2 y3
      rintro W6 ⟨h6, t6⟩
      have H6 := hid h6; have T6 := hid t6
      clear h6 t6
      obtain ⟨⟨p0, p1, p2, p3⟩, f0, f1, f2, f3⟩ := box4 H6.out
      have HRT := hid (fun (U : World) (hb : Below wr.heap.size wr U) => own_ext HR.out.row hb)
      obtain ⟨zz, hzz⟩ : ∃ zz, zz = renN bq z := ⟨_, rfl⟩
      have HZZ := hid hzz
      by_cases ho : z.o = 1
      · have ho1 : (z.o == 1) = true := beq_iff_eq.2 ho
        by_cases hnr : 0 ≤ z.n ∧ z.n < 1000000
        · have hd0 : decide (0 ≤ z.n) = true := decide_eq_true hnr.1
          have hd1 : decide (z.n < 1000000) = true := decide_eq_true hnr.2
          have HNR := hid (show z.o = 1 → 0 ≤ z.n ∧ z.n < 1000000 from fun _ => hnr)
          have hw1 : IntKind.i64.wrap (2 * z.n) = 2 * z.n := by rw [IntKind.wrap_i64]; omega
          have hw2 : IntKind.i64.wrap (2 * z.n + bq) = 2 * z.n + bq := by rw [IntKind.wrap_i64]; omega
          have HZE := hid (show zz = ⟨z.o, 2 * z.n + bq, z.s, z.l⟩ by rw [hzz]; unfold renN; rw [if_pos ho])
          have HS6 := hid (show (W6.setCell ⟨wr.heap.size, 1, none⟩ (.int .i64 (2 * z.n + bq))).ownsRow wr.heap.size 32 4 (.slice (some ⟨wr.heap.size, 0, none⟩) 1 1) 1 [.int .i64 z.o, .int .i64 (2 * z.n + bq), .string z.s, .slice A' z.l.length c'] from (H6.out.stored 1 (.int .i64 (2 * z.n + bq))).1)
          have HT6 := hid (show Below wr.heap.size wr (W6.setCell ⟨wr.heap.size, 1, none⟩ (.int .i64 (2 * z.n + bq))) from T6.out.setCell (p := ⟨wr.heap.size, 1, none⟩) (Nat.le_refl _) _)
          clear hnr ho hzz
          go_upto_region 16 with fail
          refine forget (R := fun W => W.ownsRow wr.heap.size 32 4 (.slice (some ⟨wr.heap.size, 0, none⟩) 1 1) 1 [.int .i64 zz.o, .int .i64 zz.n, .string zz.s, .slice A' z.l.length c'] ∧ Below wr.heap.size wr W) ?_ ⟨by rw [HZE.out]; exact HS6.out, HT6.out⟩
          clear HS6 HT6 H6 T6 p0 p1 p2 p3 f0 f1 f2 f3 hw1 hw2
          rintro W7 ⟨h7, t7⟩
          have H7 := hid h7; have T7 := hid t7
          obtain ⟨⟨p0, p1, p2, p3⟩, -⟩ := box4 h7
          have HROW7 := hid (HRT.out W7 t7)
          have hsz7 := t7.size
          clear h7 t7 HRT
          go_wp2_with (first
            | (at_builtin; refine wpList_append_sl _ rfl _ _ 22 rfl w4.heap.size 32 iN (.agg #[.int .i64 0, .int .i64 0, .string ⟨#[]⟩, .slice none 0 0]) 4 56 Tryd.underlying22 hNi hNz hNs hNb rfl (by decide) u10 j (nds ((l.take j).map (renN bq)) qs) rfl (HROW7.out.alloc _) _ 1 1 (zz.cells (.slice A' z.l.length c')) rfl (lit4 _ _ _ _) (one4 _ _ _ _) (by unfold maxLen; omega) (by omega) (by simp; omega) ?_; intro v8 w8 own8 gr8 loc8; have HO8 := hid own8; have HB8 := hid (below_append ((HR.out.low.trans (T7.out.mono HR.out.low.size)).alloc (by omega) (.cells #[.int .i64 zz.o, .int .i64 zz.n, .string zz.s, .slice A' z.l.length c'] 32)) gr8 (HROW7.out.alloc _) (Nat.le_refl _) (by simp; omega)); clear own8 gr8 loc8)
            | fail)
          go_roundw
          case rel => exact ⟨j + 1, qs ++ [.slice A' z.l.length c'], by go_num, by omega, hid (HR.out.put HZ.out HQ.out HNR.out HB8.out (by rw [← HZZ.out]; exact HO8.out))⟩
          case measure => simp [intOf]; omega
        · have HBF := hid (HBW.out.trans (T6.out.mono HBW.out.size))
          clear hzz
          by_cases h0 : 0 ≤ z.n
          · have hd0 : decide (0 ≤ z.n) = true := decide_eq_true h0
            have hd1 : decide (z.n < 1000000) = false := decide_eq_false (by omega)
            clear hnr h0
            go_wp2_with fail
            go_ret
            exact ⟨rfl, HBF.out⟩
          · have hd0 : decide (0 ≤ z.n) = false := decide_eq_false h0
            clear hnr h0
            go_wp2_with fail
            go_ret
            exact ⟨rfl, HBF.out⟩
      · have ho1 : (z.o == 1) = false := beq_eq_false_iff_ne.2 ho
        have HNR := hid (show z.o = 1 → 0 ≤ z.n ∧ z.n < 1000000 from fun e => absurd e ho)
        have HZE := hid (show zz = z by rw [hzz]; unfold renN; rw [if_neg ho])
        clear ho hzz
        go_upto_region 16 with fail
        refine forget (R := fun W => W.ownsRow wr.heap.size 32 4 (.slice (some ⟨wr.heap.size, 0, none⟩) 1 1) 1 [.int .i64 zz.o, .int .i64 zz.n, .string zz.s, .slice A' z.l.length c'] ∧ Below wr.heap.size wr W) ?_ ⟨by rw [HZE.out]; exact H6.out, T6.out⟩
        clear H6 T6 p0 p1 p2 p3 f0 f1 f2 f3
        rintro W7 ⟨h7, t7⟩
        have H7 := hid h7; have T7 := hid t7
        obtain ⟨⟨p0, p1, p2, p3⟩, -⟩ := box4 h7
        have HROW7 := hid (HRT.out W7 t7)
        have hsz7 := t7.size
        clear h7 t7 HRT
        go_wp2_with (first
          | (at_builtin; refine wpList_append_sl _ rfl _ _ 22 rfl w4.heap.size 32 iN (.agg #[.int .i64 0, .int .i64 0, .string ⟨#[]⟩, .slice none 0 0]) 4 56 Tryd.underlying22 hNi hNz hNs hNb rfl (by decide) u10 j (nds ((l.take j).map (renN bq)) qs) rfl (HROW7.out.alloc _) _ 1 1 (zz.cells (.slice A' z.l.length c')) rfl (lit4 _ _ _ _) (one4 _ _ _ _) (by unfold maxLen; omega) (by omega) (by simp; omega) ?_; intro v8 w8 own8 gr8 loc8; have HO8 := hid own8; have HB8 := hid (below_append ((HR.out.low.trans (T7.out.mono HR.out.low.size)).alloc (by omega) (.cells #[.int .i64 zz.o, .int .i64 zz.n, .string zz.s, .slice A' z.l.length c'] 32)) gr8 (HROW7.out.alloc _) (Nat.le_refl _) (by simp; omega)); clear own8 gr8 loc8)
          | fail)
        go_roundw
        case rel => exact ⟨j + 1, qs ++ [.slice A' z.l.length c'], by go_num, by omega, hid (HR.out.put HZ.out HQ.out HNR.out HB8.out (by rw [← HZZ.out]; exact HO8.out))⟩
        case measure => simp [intOf]; omega
    · have hjn : j = n := by omega
      subst hjn
      have hlt' : ¬ ((j : Nat) : Int) < (j : Int) := by omega
      obtain ⟨At, ct, hu10⟩ : ∃ At ct, u10 = .slice At j ct := by
        rcases HR.out.row.2 with ⟨e, h0⟩ | ⟨g, cap, cur, e, _⟩
        · exact ⟨none, 0, by rw [e, h0]⟩
        · exact ⟨_, _, e⟩
      subst hu10
      have HRG := hid (show ∀ z ∈ l, z.o = 1 → 0 ≤ z.n ∧ z.n < 1000000 from by
        have := HR.out.rng
        rwa [show l.take j = l from List.take_of_length_le (by omega)] at this)
      have HND := hid (HR.out.nda hln HBW.out)
      have HIW := hid (show ∀ z ∈ l.map (renN bq), NdW z from fun z hz => by
        obtain ⟨y, hy, rfl⟩ := List.mem_map.1 hz
        exact ndw_ren (HI.out y hy) hbb (HRG.out y hy))
      have HXE := hid (show mksT [] (l.map (renN bq)) = X.map (renN bq) from HRN.out fun z hz h1 => (HRG.out z hz h1).1)
      have HREN := hid (ren_of bq X)
      have HB3R := hid (show Below w3.heap.size w3 wr from HB34.out.trans (HR.out.low.mono HB34.out.size))
      have HSZ2 := hid (show ∀ z ∈ X.map (renN bq), z.s.size ≤ 60 from fun z hz => by
        obtain ⟨y, hy, rfl⟩ := List.mem_map.1 hz
        rw [(ren_o bq y).2.1]
        exact HSZ.out y hy)
      clear hlt HR HRN
      go_wp2_with fail
      refine (two_any At j ct (l.map (renN bq)) _ HND.out HIW.out (HTU.out _ HBW.out) (by omega)).mono ?_
      rintro e w6 ⟨sc, sd, Z2, Z2', rfl, ht⟩
      rw [HXE.out] at ht
      have HAC := hid ht.a.vw; have HOC := hid ht.a.ok
      have HBR6 := hid ht.bl
      have HB36 := hid (HB3R.out.trans (ht.bl.mono HB3R.out.size))
      have HB6 := hid (HBW.out.trans (ht.bl.mono HBW.out.size))
      clear ht HND HIW HXE
      have HEQ := hid (fun I => ren_pats HREN.out I x [])
      have HED := hid (ren_derB HREN.out x)
      have HEH := hid (show x.all (hasB (X.map (renN bq))) = x.all (hasB X) by congr 1; funext t; exact ren_hasM bq X t)
      generalize X.map (renN bq) = Y at *
      have HPA := hid (pattern_any w6 sa X A1 n1 c1 x (HAA.out.ext HB36.out) HOK.out (uses_small HOK.out) (HX.out.ext HB6.out) (by omega) (HTU.out _ HB6.out) (fun z hz => by have := HSZ.out z hz; omega) (fun h p hp => by have := (HPX.out (derB X x) h).1 p hp; omega))
      have HPC := hid (fun (U : World) (hb : Below w6.heap.size w6 U) => pattern_any U sc Y A1 n1 c1 x (HAC.out.ext hb) HOC.out (uses_small HOC.out) (HX.out.ext (HB6.out.trans (hb.mono HB6.out.size))) (by omega) (HTU.out _ (HB6.out.trans (hb.mono HB6.out.size))) (fun z hz => by have := HSZ2.out z hz; omega) (fun h p hp => by
        rw [← HED.out, ← HEQ.out] at hp
        have := (HPX.out (derB X x) (by rw [← HEH.out]; exact h)).1 p hp
        omega))
      go_wp2_with fail
      refine HPA.out.mono ?_
      rintro e w7 (⟨hall, rfl, b7⟩ | ⟨hall, AP, cP, rfl, rP, b7⟩)
      · have HF := hid hall; have B7 := hid b7
        clear hall b7
        go_wp2_with fail
        refine (HPC.out w7 B7.out).mono ?_
        rintro e w8 (⟨-, rfl, b8⟩ | ⟨hall, -⟩)
        · have B8 := hid (HB6.out.trans ((B7.out.trans (b8.mono B7.out.size)).mono HB6.out.size))
          clear b8
          have h11 : ((1 : Int) == 1) = true := rfl
          go_wp2_with fail
          refine (same_texts none 0 0 [] none 0 0 [] _ (SlA.nil _ _) (SlA.nil _ _) (by decide)).mono ?_
          rintro e w9 ⟨rfl, q, rfl⟩
          go_wp2_with fail
          go_ret
          exact ⟨rfl, below_drewN B8.out q⟩
        · rw [HEH.out, HF.out] at hall; cases hall
      · have HF := hid hall; have B7 := hid b7; have RP := hid (SlA.of_own rP).2
        clear hall b7 rP
        go_wp2_with fail
        refine (HPC.out w7 B7.out).mono ?_
        rintro e w8 (⟨hall, -⟩ | ⟨hall, AQ, cQ, rfl, rQ, b8⟩)
        · rw [HEH.out, HF.out] at hall; cases hall
        · rw [← HED.out, ← HEQ.out] at rQ
          have B8 := hid (HB6.out.trans ((B7.out.trans (b8.mono B7.out.size)).mono HB6.out.size))
          have RQ := hid (show SlA w8 1 AQ n1 cQ _ from hxn ▸ (SlA.of_own rQ).2)
          have RP8 := hid (show SlA w8 1 AP n1 cP _ from hxn ▸ RP.out.ext b8)
          clear b8 rQ hall RP
          generalize (patsF X (derB X x) [] x).1 = P at *
          go_wp2_with fail
          refine (same_texts AP n1 cP P AQ n1 cQ P _ RP8.out RQ.out (by omega)).mono ?_
          rintro e w9 ⟨rfl, q, rfl⟩
          rw [show decide (P = P) = true from decide_eq_true rfl]
          go_wp2_with fail
          go_ret
          exact ⟨rfl, below_drewN B8.out q⟩
end Go.Proofs.YtadbgmfdbahcbaaDoor

