import Derived.Test.YtadbgmfdbahcbaaDoorZF6
import Derived.Test.YtadbgmfdbahcbaaDoorZa
import Derived.Test.YtadbgmfdbahcbaaDoorZe
/- the document's layer 5: all, unblinded. -/
namespace Go.Proofs.YtadbgmfdbahcbaaDoor
open Go.RowKit Go.KK Go.Shelf Go.Maps
set_option linter.unusedVariables false
set_option linter.unusedSimpArgs false

/-- A row of Booleans, one a term. -/
def BlR (w : World) (mb N : Nat) (I : List Bool) : Prop := w.ownsRow 0 4 1 (.slice (some ⟨mb, 0, none⟩) N N) N (I.map .bool) ∧ I.length = N
theorem BlR.ext {w w' : World} {mb N : Nat} {I : List Bool} (h : BlR w mb N I) (hb : Below w.heap.size w w') : BlR w' mb N I := ⟨own_ext h.1 hb, h.2⟩
theorem BlR.at {w : World} {mb N : Nat} {I : List Bool} (h : BlR w mb N I) {t : Nat} (ht : t < N) : w.cell? ⟨mb, t, none⟩ = some (.bool (inB I (t : Int))) := (bool_cell h.1 h.2 ht).1
/-- A list is answered. -/
def NxP (w : World) (L : List Int) (e : Ending) (w' : World) : Prop := ∃ A c, e = .returned (.slice A L.length c) ∧ SlA w' 1 A L.length c (L.map (.int .i64)) ∧ Below w.heap.size w w'
set_option maxHeartbeats 1000000 in
theorem rall_any (mb N : Nat) (I : List Bool) (A : Option Addr) (n c : Nat) (l : List Int) (w : World) (hI : BlR w mb N I) (h : SlA w 1 A n c (l.map (.int .i64))) (hr : ∀ x ∈ l, 0 ≤ x ∧ x < (N : Int)) (hn : n ≤ 1000000) :
    Calls Tryd.prog 51 #[.slice (some ⟨mb, 0, none⟩) N N, .slice A n c] w fun e w' => e = .returned (.bool (l.all (inB I))) ∧ w' = w := by
  have HL := hid h.lenI; have HS := hid h; have HI := hid hI; have HR := hid hr
  clear h hI hr
  go_enter Tryd.func51, Tryd.ntmps51
  go_wp2_with fail
  go_loopw [9] (fun v wr => ∃ j : Nat, v = .int .i64 j ∧ j ≤ n ∧ Hid (l.all (inB I) = (l.drop j).all (inB I)) ∧ wr = w) (fun v _ => n - (intOf v).toNat)
  case atStart => exact ⟨0, rfl, Nat.zero_le _, hid rfl, rfl⟩
  case round =>
    obtain ⟨j, hv, hj, HJ, hw⟩ := hrel
    subst hv; subst hw
    by_cases hlt : j < n
    · have hlt' : (j : Int) < (n : Int) := by omega
      obtain ⟨b, o, z, rfl, hz, hc⟩ := HS.out.elemI hlt
      have hzr := HR.out z (List.mem_of_getElem? hz)
      have HD := hid (show l.drop j = z :: l.drop (j + 1) by
        obtain ⟨hk, rfl⟩ := List.getElem?_eq_some_iff.1 hz
        exact List.drop_eq_getElem_cons hk)
      clear hz
      obtain ⟨kz, rfl⟩ := Int.eq_ofNat_of_zero_le hzr.1
      have hcb := HI.out.at (t := kz) (by omega)
      have hkN : (kz : Int) < (N : Int) := hzr.2
      clear hzr
      rcases hin : inB I (kz : Int) with _ | _
      · rw [hin] at hcb
        have HF := hid (show l.all (inB I) = false by rw [HJ.out, HD.out, List.all_cons, hin]; rfl)
        clear hin
        go_wp2_with fail
        go_ret
        exact ⟨by rw [HF.out]; rfl, rfl⟩
      · rw [hin] at hcb
        have HF := hid (show l.all (inB I) = (l.drop (j + 1)).all (inB I) by rw [HJ.out, HD.out, List.all_cons, hin]; rfl)
        clear hin
        go_wp2_with fail
        go_roundw
        case rel => exact ⟨j + 1, by go_num, by omega, HF, by first | rfl | trivial⟩
        case measure => simp [intOf]; omega
    · have HF := hid (show l.all (inB I) = true by rw [HJ.out, List.drop_of_length_le (by have := HL.out; omega)]; rfl)
      have hlt' : ¬ (j : Int) < (n : Int) := by omega
      go_wp2_with fail
      go_ret
      exact ⟨by rw [HF.out]; rfl, rfl⟩
section
variable (sb : Nat) (xs : List ND)
/-- A node's cells, in a world that goes on. -/
theorem rnode_cells {w0 : World} {A : Option Addr} {c : Nat} (h : NdA w0 A xs.length c xs) {t : Nat} (ht : t < xs.length) : ∃ b o A' c', A = some ⟨b, o, none⟩ ∧ ∀ U, Below w0.heap.size w0 U → U.cell? ⟨b, o + t * 4, none⟩ = some (.int .i64 (nodeF xs (t : Int)).o) ∧ U.cell? ⟨b, o + t * 4 + 1, none⟩ = some (.int .i64 (nodeF xs (t : Int)).n) ∧ U.cell? ⟨b, o + t * 4 + 2, none⟩ = some (.string (nodeF xs (t : Int)).s) ∧ U.cell? ⟨b, o + t * 4 + 3, none⟩ = some (.slice A' (nodeF xs (t : Int)).l.length c') ∧ SlA U 1 A' (nodeF xs (t : Int)).l.length c' ((nodeF xs (t : Int)).l.map (.int .i64)) := by
  obtain ⟨b, o, x, A', c', rfl, hx, y0, y1, y2, y3, ys⟩ := h.at ht
  have hxe : nodeF xs (t : Int) = x := by
    have := nodeF_get (xs := xs) (t := (t : Int)) (has_iff.2 ⟨by omega, by omega⟩)
    rw [Int.toNat_natCast, hx] at this
    injection this with this
    exact this.symm
  rw [hxe]
  refine ⟨b, o, A', c', rfl, fun U hb => ?_⟩
  have up : ∀ {p : Addr} {u : Value}, w0.cell? p = some u → U.cell? p = some u := fun h => (hb.cell (p := _) (block_lt_of_cell h)).trans h
  exact ⟨up y0, up y1, up y2, up y3, ys.ext hb⟩
set_option maxHeartbeats 8000000 in
set_option maxRecDepth 100000 in
theorem runbl_any (w : World) (hA : ArV w 59 sb xs) (hok : Okay xs) (mb : Nat) (I : List Bool) (hI : BlR w mb xs.length I) (t : Nat) (ht : t < xs.length) (L : List Int) (hL : L = if (nodeF xs (t : Int)).o = 10 ∧ unB xs (inB I) (nodeF xs (t : Int)) = true then [(t : Int)] else []) :
    Calls Tryd.prog 71 #[.pointer (some ⟨sb, 0, none⟩), .slice (some ⟨mb, 0, none⟩) xs.length xs.length, .int .i64 t] w (NxP w L) := by
  obtain ⟨Al, cl, ml, h0, -, hnd⟩ := hA.parts
  have HOK := hid hok; have HI := hid hI; have HND := hid hnd
  have hxn : xs.length ≤ 100000 := hok.len
  have hth : hasB xs (t : Int) = true := has_iff.2 ⟨by omega, by omega⟩
  have htx : (t : Int) < (xs.length : Int) := by omega
  obtain ⟨bn, on, An, cn, rfl, hcell⟩ := rnode_cells xs hnd ht
  obtain ⟨y0, y1, y2, y3, ys⟩ := hcell w (Below.refl _ _)
  have HCN := hid (fun (U : World) (hb : Below w.heap.size w U) => (hcell U hb).2.2.2.2)
  have HC0 := hid (fun (U : World) (hb : Below w.heap.size w U) => (show U.cell? ⟨sb, 0, none⟩ = some (.slice (some ⟨bn, on, none⟩) xs.length cl) from (hb.cell (p := _) (block_lt_of_cell h0)).trans h0))
  have HLN := hid (fun (ho : (nodeF xs (t : Int)).o = 10) => len_of hok hth ho (show arN 10 = some 2 from rfl))
  generalize hnx : nodeF xs (t : Int) = nx at *
  have HNX := hid hnx
  have HLL := hid hL
  clear hA hok hI hnd hcell hnx hth ys hL
  have HB0 := hid (show Below w.heap.size w (w.alloc (.cells #[.int .i64 nx.o, .int .i64 nx.n, .string nx.s, .slice An nx.l.length cn] 32)) from (Below.refl _ _).alloc (Nat.le_refl _) _)
  go_enter Tryd.func71, Tryd.ntmps71
  go_upto_region 2 with fail
  refine forget (R := fun V => Below w.heap.size w V ∧ V.ownsRow w.heap.size 32 4 (.slice (some ⟨w.heap.size, 0, none⟩) 1 1) 1 [.int .i64 nx.o, .int .i64 nx.n, .string nx.s, .slice An nx.l.length cn]) ?_ ⟨HB0.out, boxN⟩
  clear h0 y0 y1 y2 y3 HB0
  rintro V ⟨hv, hx4⟩
  have HV := hid hv; have HX4 := hid hx4
  obtain ⟨⟨n0, n1, n2, n3⟩, -⟩ := box4 hx4
  have hnV := (hx4.lt w.heap.size rfl).2
  clear hv hx4
  by_cases ho : nx.o = 10
  · obtain ⟨nP, nQ, hnl⟩ := two_of_len (HLN.out ho)
    have HUN := hid (show L = if unB xs (inB I) nx = true then [(t : Int)] else [] by
      rw [HLL.out]
      by_cases h : unB xs (inB I) nx = true
      · rw [if_pos ⟨ho, h⟩, if_pos h]
      · rw [if_neg fun e => h e.2, if_neg h])
    rw [hnl] at n3
    have n3' : V.cell? ⟨w.heap.size, 3, none⟩ = some (.slice An 2 cn) := n3
    have HN3 := hid n3'
    have HNC := hid (fun (U : World) (hb : Below w.heap.size w U) => (show ∃ b o, An = some ⟨b, o, none⟩ ∧ U.cell? ⟨b, o, none⟩ = some (.int .i64 nP) ∧ U.cell? ⟨b, o + 1, none⟩ = some (.int .i64 nQ) by
      have hs := HCN.out U hb
      rw [hnl] at hs
      obtain ⟨b, o, z, e, hz, hc⟩ := hs.elemI (k := 0) (by simp)
      obtain ⟨b', o', z', e', hz', hc'⟩ := hs.elemI (k := 1) (by simp)
      injection hz with hz; injection hz' with hz'
      subst hz; subst hz'; subst e
      injection e' with e'
      injection e' with e1 e2
      subst e1; subst e2
      exact ⟨b, o, rfl, hc, hc'⟩))
    have HNL := hid hnl
    have HO10 := hid ho
    have c0 := HC0.out V HV.out
    rw [ho] at n0
    clear ho n1 n2 n3 hnl
    go_wp2_with fail
    go_loopw [26] (fun v wr => ∃ j : Nat, v = .int .i64 j ∧ j ≤ xs.length ∧ Hid ((∀ i : Nat, i < j → unO xs (inB I) nx (i : Int) = false) ∧ Below V.heap.size V wr)) (fun v _ => xs.length - (intOf v).toNat)
    case atStart => exact ⟨0, rfl, Nat.zero_le _, hid ⟨fun i hi => by omega, Below.refl _ _⟩⟩
    case round =>
      clear n3' c0 n0
      obtain ⟨j, hv, hj, HR⟩ := hrel
      subst hv
      have HBW := hid (HV.out.trans (HR.out.2.mono HV.out.size))
      by_cases hlt : j < xs.length
      · have hlt' : (j : Int) < (xs.length : Int) := by omega
        have hjh : hasB xs (j : Int) = true := has_iff.2 ⟨by omega, hlt'⟩
        obtain ⟨bz, oz, Az, cz, e, hcz⟩ := rnode_cells xs HND.out hlt
        injection e with e
        injection e with e e'
        subst e; subst e'
        obtain ⟨y0, y1, y2, y3, ys⟩ := hcz wr HBW.out
        have HCZ := hid (fun (U : World) (hb : Below w.heap.size w U) => (hcz U hb).2.2.2.2)
        have HZL := hid (fun (ho : (nodeF xs (j : Int)).o = 10) => len_of HOK.out hjh ho (show arN 10 = some 2 from rfl))
        have HZH := hid (fun x (hx : x ∈ (nodeF xs (j : Int)).l) => has_part HOK.out hjh hx)
        have HUO := hid (unO_iff (xs := xs) (f := inB I) (n := nx) (s := (j : Int)))
        have HSTEP := hid (fun (h : unO xs (inB I) nx (j : Int) = false) (U : World) (hb : Below V.heap.size V U) => (show (∀ i : Nat, i < j + 1 → unO xs (inB I) nx (i : Int) = false) ∧ Below V.heap.size V U from
          ⟨fun i hi => by
            rcases Nat.lt_or_ge i j with h1 | h1
            · exact HR.out.1 i h1
            · obtain rfl : i = j := by omega
              exact h, hb⟩))
        generalize hzz : nodeF xs (j : Int) = z at *
        have hcb := HI.out.ext HBW.out
        have HCB := hid (hcb.at (t := j) hlt)
        clear hcz ys hcb hjh hzz
        have HBX := hid (show Below V.heap.size V (wr.alloc (.cells #[.int .i64 z.o, .int .i64 z.n, .string z.s, .slice Az z.l.length cz] 32)) from HR.out.2.alloc HR.out.2.size _)
        go_upto_region 7 with fail
        refine forget (R := fun W => Below V.heap.size V W ∧ W.ownsRow wr.heap.size 32 4 (.slice (some ⟨wr.heap.size, 0, none⟩) 1 1) 1 [.int .i64 z.o, .int .i64 z.n, .string z.s, .slice Az z.l.length cz]) ?_ ⟨HBX.out, boxN⟩
        clear y0 y1 y2 y3 HBX
        rintro W ⟨hw, hx5⟩
        have HW := hid hw; have HX5 := hid hx5
        have HWW := hid (HV.out.trans (hw.mono HV.out.size))
        obtain ⟨⟨k0, k1, k2, k3⟩, -⟩ := box4 hx5
        have hcj := (HI.out.ext HWW.out).at (t := j) hlt
        have n3w := (hw.cell (p := ⟨w.heap.size, 3, none⟩) hnV).trans HN3.out
        have DZ := hid (Below.refl W.heap.size W)
        clear hw hx5
        by_cases hz10 : z.o = 10
        · obtain ⟨zp, zq, hzl⟩ := two_of_len (HZL.out hz10)
          rw [hz10] at k0
          rw [hzl] at k3
          have k3' : W.cell? ⟨wr.heap.size, 3, none⟩ = some (.slice Az 2 cz) := k3
          have hsz := HCZ.out W HWW.out
          rw [hzl] at hsz
          obtain ⟨ba, oa, z0, rfl, hz0, e0⟩ := hsz.elemI (k := 0) (by simp)
          obtain ⟨ba', oa', z1, e, hz1, e1⟩ := hsz.elemI (k := 1) (by simp)
          injection hz0 with hz0; injection hz1 with hz1
          subst hz0; subst hz1
          injection e with e
          injection e with e e'
          subst e; subst e'
          obtain ⟨bc, oc, rfl, m0, m1⟩ := HNC.out W HWW.out
          have e0' : W.cell? ⟨ba, oa, none⟩ = some (.int .i64 zp) := e0
          rcases hin : inB I (j : Int) with _ | _
          · rw [hin] at hcj
            have HNO := hid (HSTEP.out (Bool.eq_false_iff.2 fun e => by have := (HUO.out.1 e).2.1; rw [hin] at this; cases this))
            clear hin k3 hsz e0 hz10 hzl
            go_quiet (fail)
            go_wp2_with fail
            go_roundw
            case rel => exact ⟨j + 1, by go_num, by omega, hid (HNO.out _ (by first | exact below_drewN HW.out _ | exact below_drew HW.out))⟩
            case measure => simp [intOf]; omega
          · rw [hin] at hcj
            by_cases hpp : zp = nP
            · have hpp' : (zp != nP) = false := by rw [hpp]; simp
              have hqh := HZH.out zq (by rw [hzl]; simp)
              have hq2 := has_iff.1 hqh
              obtain ⟨kq, rfl⟩ := Int.eq_ofNat_of_zero_le hq2.1
              have hkq : kq < xs.length := by omega
              have hkqi : (kq : Int) < (xs.length : Int) := hq2.2
              obtain ⟨by', oy, Ay, cy, e, hcy⟩ := rnode_cells xs HND.out hkq
              injection e with e
              injection e with e e'
              subst e; subst e'
              have HUO2 := hid (show unO xs (inB I) nx (j : Int) = true ↔ (nodeF xs (kq : Int)).o = 12 ∧ (nodeF xs (kq : Int)).l.getD 0 0 = nQ ∧ inB I ((nodeF xs (kq : Int)).l.getD 1 0) = true by
                have h := HUO.out
                rw [hzl, HNL.out] at h
                refine h.trans ⟨fun e => e.2.2.2, fun e => ⟨hz10, hin, hpp, e⟩⟩)
              have HYL := hid (fun (ho : (nodeF xs (kq : Int)).o = 12) => len_of HOK.out hqh ho (show arN 12 = some 2 from rfl))
              have HYH := hid (fun x (hx : x ∈ (nodeF xs (kq : Int)).l) => has_part HOK.out hqh hx)
              have HCY := hid hcy
              generalize nodeF xs (kq : Int) = y at *
              have e1' : W.cell? ⟨ba, oa + 1, none⟩ = some (.int .i64 (kq : Int)) := e1
              have c0w := HC0.out W HWW.out
              obtain ⟨y0, y1, y2, y3, -⟩ := hcy W HWW.out
              have HPK := hid (fun (U : World) (hb : Below W.heap.size W U) =>
                have up : ∀ {p : Addr} {u : Value}, W.cell? p = some u → U.cell? p = some u := fun h => (hb.cell (p := _) (block_lt_of_cell h)).trans h
                (show U.cell? ⟨sb, 0, none⟩ = some (.slice (some ⟨bn, on, none⟩) xs.length cl) ∧ U.cell? ⟨wr.heap.size, 3, none⟩ = some (.slice (some ⟨ba, oa, none⟩) 2 cz) ∧ U.cell? ⟨ba, oa + 1, none⟩ = some (.int .i64 kq) ∧ U.cell? ⟨bn, on + kq * 4, none⟩ = some (.int .i64 y.o) ∧ U.cell? ⟨bn, on + kq * 4 + 1, none⟩ = some (.int .i64 y.n) ∧ U.cell? ⟨bn, on + kq * 4 + 2, none⟩ = some (.string y.s) ∧ U.cell? ⟨bn, on + kq * 4 + 3, none⟩ = some (.slice Ay y.l.length cy) from
                  ⟨up c0w, up k3', up e1', up y0, up y1, up y2, up y3⟩))
              have DA := hid (DZ.out.alloc (Nat.le_refl _) (.cells #[.int .i64 0, .int .i64 0, .string ⟨#[]⟩, .slice none 0 0] 32))
              clear hin hcy hqh hq2 k3 hsz e0 e1 hz10 hzl HUO
              go_quiet (fail)
              go_upto_region 8 with fail
              refine forget (R := fun U => Below W.heap.size W U) ?_ (by first | exact below_drewN DZ.out _ | exact below_drew DZ.out | exact DZ.out)
              clear e0' e1' c0w y0 y1 y2 y3 k0 k1 k2 k3' hcj n3w m0 m1 DA
              rintro W2 hw2
              have HW2 := hid hw2
              obtain ⟨g0, g1, g2, g3, g4, g5, g6⟩ := HPK.out W2 hw2
              have HPK2 := hid (fun (U : World) (hb : Below W2.heap.size W2 U) => HPK.out U (HW2.out.trans (hb.mono HW2.out.size)))
              have DZ2 := hid (Below.refl W2.heap.size W2)
              have DA2 := hid (DZ2.out.alloc (Nat.le_refl _) (.cells #[.int .i64 0, .int .i64 0, .string ⟨#[]⟩, .slice none 0 0] 32))
              clear hw2
              go_cut [10] (fun v U => v = .pointer (some ⟨W2.heap.size, 0, none⟩) ∧ Below W2.heap.size W2 U ∧ U.ownsRow W2.heap.size 32 4 (.slice (some ⟨W2.heap.size, 0, none⟩) 1 1) 1 [.int .i64 y.o, .int .i64 y.n, .string y.s, .slice Ay y.l.length cy])
              case first =>
                go_region_held3 (fun U => U.cell? ⟨sb, 0, none⟩ = some (.slice (some ⟨bn, on, none⟩) xs.length cl) ∧ U.cell? ⟨wr.heap.size, 3, none⟩ = some (.slice (some ⟨ba, oa, none⟩) 2 cz) ∧ U.cell? ⟨ba, oa + 1, none⟩ = some (.int .i64 kq) ∧ U.cell? ⟨bn, on + kq * 4, none⟩ = some (.int .i64 y.o) ∧ U.cell? ⟨bn, on + kq * 4 + 1, none⟩ = some (.int .i64 y.n) ∧ U.cell? ⟨bn, on + kq * 4 + 2, none⟩ = some (.string y.s) ∧ U.cell? ⟨bn, on + kq * 4 + 3, none⟩ = some (.slice Ay y.l.length cy)) (first | exact HPK2.out _ DZ2.out | exact HPK2.out _ (below_drew DZ2.out) | exact HPK2.out _ DA2.out | exact HPK2.out _ (below_drew DA2.out) | exact HPK2.out _ (below_drew (DZ2.out.alloc (Nat.le_refl _) _)) | go_keep) (first | fail)
                all_goals
                  go_wp2_with fail
                  go_meet
                  first
                    | exact ⟨rfl, below_drew ((Below.refl _ _).alloc (Nat.le_refl _) _), own_block boxN fun _ _ => rfl⟩
                    | exact ⟨rfl, below_drewN ((Below.refl _ _).alloc (Nat.le_refl _) _) _, own_block boxN fun _ _ => rfl⟩
                    | exact ⟨rfl, (Below.refl _ _).alloc (Nat.le_refl _) _, boxN⟩
              case rest =>
                obtain ⟨rfl, hb3, hp4⟩ := hcut
                obtain ⟨w3, rfl⟩ : ∃ w3, w3 = wc := ⟨_, rfl⟩
                have HW3 := hid (HW2.out.trans (hb3.mono HW2.out.size))
                have HV3 := hid (HW.out.trans (HW3.out.mono HW.out.size))
                have HB3 := hid (HV.out.trans (HV3.out.mono HV.out.size))
                obtain ⟨⟨p0, p1, p2, p3⟩, -⟩ := box4 hp4
                have n3u := (HV3.out.cell (p := ⟨w.heap.size, 3, none⟩) hnV).trans HN3.out
                obtain ⟨bc', oc', e, m0, m1⟩ := HNC.out w3 HB3.out
                injection e with e
                injection e with e e'
                subst e; subst e'
                have DZ := hid (Below.refl w3.heap.size w3)
                clear hb3 hp4 g0 g1 g2 g3 g4 g5 g6 HPK HPK2 DZ2 DA2
                by_cases hy12 : y.o = 12
                · obtain ⟨yp, yq, hyl⟩ := two_of_len (HYL.out hy12)
                  have hsy := (HCY.out w3 HB3.out).2.2.2.2
                  rw [hyl] at hsy p3
                  rw [hy12] at p0
                  have p3' : w3.cell? ⟨W2.heap.size, 3, none⟩ = some (.slice Ay 2 cy) := p3
                  obtain ⟨bd, od, z0, rfl, hz0, e0⟩ := hsy.elemI (k := 0) (by simp)
                  obtain ⟨bd', od', z1, e, hz1, e1⟩ := hsy.elemI (k := 1) (by simp)
                  injection hz0 with hz0; injection hz1 with hz1
                  subst hz0; subst hz1
                  injection e with e
                  injection e with e e'
                  subst e; subst e'
                  have e0' : w3.cell? ⟨bd, od, none⟩ = some (.int .i64 yp) := e0
                  by_cases hyp : yp = nQ
                  · have hyp' : (yp == nQ) = true := beq_iff_eq.2 hyp
                    have hyq := has_iff.1 (HYH.out yq (by rw [hyl]; simp))
                    obtain ⟨ks, rfl⟩ := Int.eq_ofNat_of_zero_le hyq.1
                    have hks : (ks : Int) < (xs.length : Int) := hyq.2
                    have hcs := (HI.out.ext HB3.out).at (t := ks) (by omega)
                    have HUO3 := hid (show unO xs (inB I) nx (j : Int) = true ↔ inB I (ks : Int) = true by
                      have h := HUO2.out
                      rw [hyl] at h
                      exact h.trans ⟨fun e => e.2.2, fun e => ⟨hy12, hyp, e⟩⟩)
                    clear hyq hyp hyl hy12 hsy p3 e0 HUO2
                    rcases hin : inB I (ks : Int) with _ | _
                    · rw [hin] at hcs
                      have HNO := hid (HSTEP.out (Bool.eq_false_iff.2 fun e => by have := HUO3.out.1 e; rw [hin] at this; cases this))
                      clear hin HUO3
                      go_upto_region 9 with fail
                      go_quiet (fail)
                      go_wp2_with fail
                      go_roundw
                      case rel => exact ⟨j + 1, by go_num, by omega, hid (HNO.out _ (by first | exact below_drewN HV3.out _ | exact below_drew HV3.out))⟩
                      case measure => simp [intOf]; omega
                    · rw [hin] at hcs
                      have HYES := hid (show L = [(t : Int)] by
                        rw [HUN.out, if_pos]
                        exact unB_iff.2 ⟨(j : Int), has_iff.2 ⟨by omega, hlt'⟩, HUO3.out.2 hin⟩)
                      clear hin HUO3
                      go_upto_region 9 with fail
                      go_quiet (fail)
                      go_wp2_with fail
                      go_ret
                      refine (show NxP _ _ _ _ from HYES.out ▸ ⟨_, _, rfl, SlA.lit1 _, ?_⟩)
                      first | exact HB3.out.alloc HB3.out.size _ | exact (below_drewN HB3.out _).alloc HB3.out.size _ | exact (below_drew HB3.out).alloc HB3.out.size _
                  · have hyp' : (yp == nQ) = false := beq_eq_false_iff_ne.2 hyp
                    have HNO := hid (HSTEP.out (Bool.eq_false_iff.2 fun e => by
                      have := (HUO2.out.1 e).2.1
                      rw [hyl] at this
                      exact hyp this))
                    clear hyp hyl hy12 hsy p3 e0
                    go_upto_region 9 with fail
                    go_quiet (fail)
                    go_wp2_with fail
                    go_roundw
                    case rel => exact ⟨j + 1, by go_num, by omega, hid (HNO.out _ (by first | exact below_drewN HV3.out _ | exact below_drew HV3.out))⟩
                    case measure => simp [intOf]; omega
                · have hy12' : (y.o == 12) = false := beq_eq_false_iff_ne.2 hy12
                  have HNO := hid (HSTEP.out (Bool.eq_false_iff.2 fun e => hy12 (HUO2.out.1 e).1))
                  clear hy12
                  go_upto_region 9 with fail
                  go_quiet (fail)
                  go_wp2_with fail
                  go_roundw
                  case rel => exact ⟨j + 1, by go_num, by omega, hid (HNO.out _ (by first | exact below_drewN HV3.out _ | exact below_drew HV3.out))⟩
                  case measure => simp [intOf]; omega
            · have hpp' : (zp != nP) = true := bne_iff_ne.2 hpp
              have HNO := hid (HSTEP.out (Bool.eq_false_iff.2 fun e => by
                have := (HUO.out.1 e).2.2.1
                rw [hzl, HNL.out] at this
                exact hpp this))
              clear hin hpp k3 hsz e0 hz10 hzl
              go_quiet (fail)
              go_wp2_with fail
              go_roundw
              case rel => exact ⟨j + 1, by go_num, by omega, hid (HNO.out _ (by first | exact below_drewN HW.out _ | exact below_drew HW.out))⟩
              case measure => simp [intOf]; omega
        · have hz10' : (z.o != 10) = true := bne_iff_ne.2 hz10
          have HNO := hid (HSTEP.out (Bool.eq_false_iff.2 fun e => hz10 (HUO.out.1 e).1))
          clear hz10
          go_quiet (fail)
          go_wp2_with fail
          go_roundw
          case rel => exact ⟨j + 1, by go_num, by omega, hid (HNO.out _ (by first | exact below_drewN HW.out _ | exact below_drew HW.out))⟩
          case measure => simp [intOf]; omega
      · have hjn : j = xs.length := by omega
        subst hjn
        have hlt' : ¬ (xs.length : Int) < (xs.length : Int) := by omega
        have HF := hid (show L = ([] : List Int) by
          rw [HUN.out, if_neg]
          intro e
          obtain ⟨s, hs, hu⟩ := unB_iff.1 e
          have h2 := has_iff.1 hs
          have := HR.out.1 s.toNat (by omega)
          rw [show ((s.toNat : Nat) : Int) = s by omega, hu] at this
          cases this)
        clear hlt
        go_wp2_with fail
        go_ret
        exact (show NxP _ _ _ _ from HF.out ▸ ⟨none, 0, rfl, SlA.nil _ _, HBW.out⟩)
  · have HF := hid (show L = ([] : List Int) by rw [HLL.out, if_neg fun e => ho e.1])
    have ho' : (nx.o != 10) = true := bne_iff_ne.2 ho
    clear ho
    go_wp2_with fail
    go_ret
    exact (show NxP _ _ _ _ from HF.out ▸ ⟨none, 0, rfl, SlA.nil _ _, HV.out⟩)
end
end Go.Proofs.YtadbgmfdbahcbaaDoor

