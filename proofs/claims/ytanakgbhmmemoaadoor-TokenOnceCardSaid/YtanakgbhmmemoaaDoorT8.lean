/- token: Spend. -/
import Derived.Test.YtanakgbhmmemoaaDoorT5
import Derived.Test.YtanakgbhmmemoaaDoorK2
namespace Go.Proofs.YtanakgbhmmemoaaDoor
open Go.RowKit Go.KK Go.Shelf Go.Maps
set_option linter.unusedVariables false
set_option linter.unusedSimpArgs false

/-- What Spend leaves. -/
def SpnS (w : World) (Z : Nat → Prop) (r : MT × Int) (e : Ending) (w' : World) : Prop := ∃ g p, e = .returned (.tuple #[mtV r.1 g p, .int .i64 r.2]) ∧ Below w.heap.size w w' ∧ MtR w' Z r.1 g p ∧ NewV w g p
theorem spn_stay {w w' : World} {Z : Nat → Prop} {e : Int} (hb : Below w.heap.size w w') : SpnS w Z (mt0, e) (.returned (.tuple #[.agg #[.int .i64 0, .int .i64 0, .slice none 0 0, .slice none 0 0], .int .i64 e])) w' :=
  ⟨_, _, rfl, hb, MtR.mt _ _ 0 0, newV_nil _ _ _ _ _⟩
theorem bs_any (A : Option Addr) (n c : Nat) (l : List Int) (x : Int) (w : World) (h : SlA w 1 A n c (l.map (.int .i64))) (hs : l.Pairwise (· < ·)) (hn : n ≤ 1000000) :
    Calls Tryd.prog 49 #[.slice A n c, .int .i64 x] w fun e w' => e = .returned (.tuple #[.int .i64 (lbI l x), .bool (l.contains x)]) ∧ ∃ q, w' = w.drewN q := by
  have hln := h.lenI
  rcases l with _ | ⟨y, l⟩
  · simp at hln
    subst hln
    exact (Tryd.slices_BinarySearch_int_empty A c x w).mono fun e w' ⟨h1, h2⟩ => ⟨h1, 0, h2⟩
  · obtain ⟨b, o, rfl, _⟩ := h.cells 0 _ rfl
    have := Tryd.slices_BinarySearch_int b o n c (y :: l) x w (by omega) (by omega) (sla_getD h) (by
      rw [List.take_of_length_le (by omega)]
      exact hs.imp fun h => by omega)
    rw [List.take_of_length_le (by omega)] at this
    exact this
/-- What the copies leave, ahead of the token's mark. -/
def MidS (w : World) (m : MT) (np : List Int) (W : World) : Prop :=
  ∃ vg vp, W.ownsRow w.heap.size 31 4 (.slice (some ⟨w.heap.size, 0, none⟩) 1 1) 1 [.int .i64 m.k, .int .i64 m.q, vg, vp] ∧
    W.ownsRow (w.heap.size + 1) 31 4 (.slice (some ⟨w.heap.size + 1, 0, none⟩) 1 1) 1 [.int .i64 0, .int .i64 0, .slice none 0 0, .slice none 0 0] ∧
    W.ownsRow (w.heap.size + 2) 65 2 vg m.g.length (cts m.g) ∧ W.ownsRow (w.heap.size + 2) 3 1 vp np.length (np.map (.int .i64)) ∧ Below w.heap.size w W
theorem midS_of {w W5 wl W : World} {m : MT} {np : List Int} {vg vp vg0 vp0 : Value} (h5 : w.heap.size + 1 < W5.heap.size) (hd : Below W5.heap.size W5 wl) (hb : Below w.heap.size w W5)
    (x : W5.ownsRow w.heap.size 31 4 (.slice (some ⟨w.heap.size, 0, none⟩) 1 1) 1 [.int .i64 m.k, .int .i64 m.q, vg0, vp0])
    (y : W5.ownsRow (w.heap.size + 1) 31 4 (.slice (some ⟨w.heap.size + 1, 0, none⟩) 1 1) 1 [.int .i64 0, .int .i64 0, .slice none 0 0, .slice none 0 0])
    (og : wl.ownsRow W5.heap.size 65 2 vg m.g.length (cts m.g)) (op : wl.ownsRow W5.heap.size 3 1 vp np.length (np.map (.int .i64)))
    (hW : W = (wl.setCell ⟨w.heap.size, 2, none⟩ vg).setCell ⟨w.heap.size, 3, none⟩ vp) : MidS w m np W := by
  subst hW
  have far : ∀ b, b ≠ w.heap.size → ((wl.setCell ⟨w.heap.size, 2, none⟩ vg).setCell ⟨w.heap.size, 3, none⟩ vp).heap[b]? = wl.heap[b]? := fun b hb => by
    rw [Below.heap_setCell _ _ _ b hb, Below.heap_setCell _ _ _ b hb]
  have g2 := own_mono og (base' := w.heap.size + 2) (by omega)
  have p2 := own_mono op (base' := w.heap.size + 2) (by omega)
  refine ⟨vg, vp, ?_, ?_, own_block g2 fun b h => far b (by have := (g2.lt b h).1; omega), own_block p2 fun b h => far b (by have := (p2.lt b h).1; omega), ?_⟩
  · exact (((own_ext x hd).stored 2 vg).1.stored 3 vp).1
  · exact own_block (own_ext y hd) fun b h => by
      injection h with h
      subst h
      exact far (w.heap.size + 1) (Nat.succ_ne_self _)
  · exact ((hb.trans (hd.mono (by omega))).setCell (p := ⟨w.heap.size, 2, none⟩) (Nat.le_refl _) _).setCell (p := ⟨w.heap.size, 3, none⟩) (Nat.le_refl _) _
theorem spn_end {w W : World} {Z : Nat → Prop} {m : MT} {ip : List Int} {Ag Ap : Option Addr} {cg cp : Nat}
    (x : W.ownsRow w.heap.size 31 4 (.slice (some ⟨w.heap.size, 0, none⟩) 1 1) 1 [.int .i64 m.k, .int .i64 m.q, .slice Ag m.g.length cg, .slice Ap ip.length cp])
    (y : W.ownsRow (w.heap.size + 1) 31 4 (.slice (some ⟨w.heap.size + 1, 0, none⟩) 1 1) 1 [.int .i64 0, .int .i64 0, .slice none 0 0, .slice none 0 0])
    (g : W.ownsRow (w.heap.size + 2) 65 2 (.slice Ag m.g.length cg) m.g.length (cts m.g)) (p : W.ownsRow (w.heap.size + 2) 3 1 (.slice Ap ip.length cp) ip.length (ip.map (.int .i64))) (b : Below w.heap.size w W) (hz : ∀ b, Z b → b < w.heap.size) :
    SpnS w Z (⟨m.k, m.q, m.g, ip⟩, 0) (.returned (.tuple #[.agg #[.int .i64 m.k, .int .i64 m.q, .slice Ag m.g.length cg, .slice Ap ip.length cp], .int .i64 0])) ((((W.setCell ⟨w.heap.size + 1, 0, none⟩ (.int .i64 m.k)).setCell ⟨w.heap.size + 1, 1, none⟩ (.int .i64 m.q)).setCell ⟨w.heap.size + 1, 2, none⟩ (.slice Ag m.g.length cg)).setCell ⟨w.heap.size + 1, 3, none⟩ (.slice Ap ip.length cp)) := by
  refine ⟨_, _, rfl, st4 b (by omega) _ _ _ _, ?_, fun k hk => hk.elim (fun hk => by have := (g.lt k hk).1; omega) (fun hk => by have := (p.lt k hk).1; omega)⟩
  have g2 := own_block g (w' := ((((W.setCell ⟨w.heap.size + 1, 0, none⟩ (.int .i64 m.k)).setCell ⟨w.heap.size + 1, 1, none⟩ (.int .i64 m.q)).setCell ⟨w.heap.size + 1, 2, none⟩ (.slice Ag m.g.length cg)).setCell ⟨w.heap.size + 1, 3, none⟩ (.slice Ap ip.length cp))) fun k hk => far4 _ _ _ _ _ _ k (by have := (g.lt k hk).1; omega)
  have p2 := own_block p (w' := ((((W.setCell ⟨w.heap.size + 1, 0, none⟩ (.int .i64 m.k)).setCell ⟨w.heap.size + 1, 1, none⟩ (.int .i64 m.q)).setCell ⟨w.heap.size + 1, 2, none⟩ (.slice Ag m.g.length cg)).setCell ⟨w.heap.size + 1, 3, none⟩ (.slice Ap ip.length cp))) fun k hk => far4 _ _ _ _ _ _ k (by have := (p.lt k hk).1; omega)
  obtain ⟨A1, c1, e1, s1⟩ := SlZ.of_own (Z := Z) g2 (fun b hb => by have := hz b hb; omega)
  obtain ⟨A2, c2, e2, s2⟩ := SlZ.of_own (Z := Z) p2 (fun b hb => by have := hz b hb; omega)
  exact ⟨A1, c1, A2, c2, e1, e2, s1, s2⟩
section
variable (Z : Nat → Prop) (st : Nat) (xs : List ND) (B : Nat) (w : World) (m : MT)
set_option maxHeartbeats 8000000 in
set_option maxRecDepth 20000 in
theorem spend_any (g p : Value) (nonce sig : Int) (h : AR w Z st xs) (hm : MtR w Z m g p) (ho : MtO m) :
    Calls Tryd.prog 22 #[.pointer (some ⟨st, 0, none⟩), mtV m g p, .int .i64 nonce, .int .i64 sig] w (SpnS w Z (spF xs m nonce sig)) := by
  obtain ⟨Ag, cg, Ap, cp, rfl, rfl, hgr, hpr⟩ := hm
  have HG := hid hgr; have HP := hid hpr
  have H := hid h; have HO := hid ho
  clear hgr hpr
  have hok := h.ok
  have hf : spF xs m nonce sig = if kno xs [nonce, sig] then (if (nodeF xs sig).o == 10 && (nodeF xs sig).l.getD 0 0 == m.k && (nodeF xs sig).l.getD 1 0 == nonce then (if m.p.contains nonce then (mt0, 81) else (⟨m.k, m.q, m.g, m.p.take (lbI m.p nonce) ++ nonce :: m.p.drop (lbI m.p nonce)⟩, 0)) else (mt0, 40)) else (mt0, 1) := rfl
  have HF := hid hf
  have B0 := hid (show Below w.heap.size w ((w.alloc (.cells #[.int .i64 m.k, .int .i64 m.q, .slice Ag m.g.length cg, .slice Ap m.p.length cp] 31)).alloc (.cells #[.int .i64 0, .int .i64 0, .slice none 0 0, .slice none 0 0] 31)) from ((Below.refl _ _).alloc (Nat.le_refl _) _).alloc (by simp) _)
  have X0 := hid (World.ownsRow.alloc (show (w.alloc (.cells #[.int .i64 m.k, .int .i64 m.q, .slice Ag m.g.length cg, .slice Ap m.p.length cp] 31)).ownsRow w.heap.size 31 4 (.slice (some ⟨w.heap.size, 0, none⟩) 1 1) 1 [.int .i64 m.k, .int .i64 m.q, .slice Ag m.g.length cg, .slice Ap m.p.length cp] from
    ⟨by simp, .inr ⟨w.heap.size, 1, _, rfl, Nat.le_refl _, heap_alloc_new w _, Nat.le_refl _, by decide, rfl, by simp⟩⟩) (.cells #[.int .i64 0, .int .i64 0, .slice none 0 0, .slice none 0 0] 31))
  have Y0 := hid (show ((w.alloc (.cells #[.int .i64 m.k, .int .i64 m.q, .slice Ag m.g.length cg, .slice Ap m.p.length cp] 31)).alloc (.cells #[.int .i64 0, .int .i64 0, .slice none 0 0, .slice none 0 0] 31)).ownsRow (w.heap.size + 1) 31 4 (.slice (some ⟨w.heap.size + 1, 0, none⟩) 1 1) 1 [.int .i64 0, .int .i64 0, .slice none 0 0, .slice none 0 0] from by
      have h1 := heap_alloc_new (w.alloc (.cells #[.int .i64 m.k, .int .i64 m.q, .slice Ag m.g.length cg, .slice Ap m.p.length cp] 31)) (.cells #[.int .i64 0, .int .i64 0, .slice none 0 0, .slice none 0 0] 31)
      rw [show (w.alloc (.cells #[.int .i64 m.k, .int .i64 m.q, .slice Ag m.g.length cg, .slice Ap m.p.length cp] 31)).heap.size = w.heap.size + 1 by simp] at h1
      exact ⟨by simp, .inr ⟨w.heap.size + 1, 1, _, rfl, Nat.le_refl _, h1, Nat.le_refl _, by decide, rfl, by simp⟩⟩)
  clear h ho hf
  unfold mtV
  go_enter Tryd.func22, Tryd.ntmps22
  go_upto_region 1 with fail
  generalize (w.alloc (.cells #[.int .i64 m.k, .int .i64 m.q, .slice Ag m.g.length cg, .slice Ap m.p.length cp] 31)).alloc (.cells #[.int .i64 0, .int .i64 0, .slice none 0 0, .slice none 0 0] 31) = W0 at *
  have B1 := hid (B0.out.alloc B0.out.size (.cells #[.int .i64 nonce, .int .i64 sig] 3))
  have HKN := hid (known_any st xs (W0.alloc (.cells #[.int .i64 nonce, .int .i64 sig] 3)) (some ⟨W0.heap.size, 0, none⟩) 2 2 [nonce, sig] (H.out.vw.ext B1.out) (sla_row #[.int .i64 nonce, .int .i64 sig] (by unfold maxLen; simp)) (by decide))
  have X1 := hid (X0.out.alloc (.cells #[.int .i64 nonce, .int .i64 sig] 3))
  have Y1 := hid (Y0.out.alloc (.cells #[.int .i64 nonce, .int .i64 sig] 3))
  go_wp2_with fail
  refine HKN.out.mono ?_
  rintro e2 w2 ⟨rfl, b2⟩
  have B2 := hid (B1.out.trans (b2.mono B1.out.size))
  have X2 := hid (own_ext X1.out b2)
  have Y2 := hid (own_ext Y1.out b2)
  clear b2 HKN X1 Y1 X0 Y0 B0 B1
  rcases hk : kno xs [nonce, sig] with _ | _
  · have HR := hid (show spF xs m nonce sig = (mt0, 1) by rw [HF.out, hk]; rfl)
    obtain ⟨⟨y0, y1, y2, y3⟩, fy0, fy1, fy2, fy3⟩ := box4 Y2.out
    go_wp2_with fail
    refine bodyPost_ret (v := .tuple #[.agg #[.int .i64 0, .int .i64 0, .slice none 0 0, .slice none 0 0], .int .i64 1]) ?_ rfl ?_
    · rw [results_cell_tmp rfl]
      go_simp
    · rw [HR.out]
      exact spn_stay (st4 B2.out (by omega) _ _ _ _)
  have hks : hasB xs sig = true := by
    unfold kno at hk
    simp only [List.all_cons, Bool.and_eq_true] at hk
    exact hk.2.1
  have HF2 := hid (show spF xs m nonce sig = if (nodeF xs sig).o == 10 && (nodeF xs sig).l.getD 0 0 == m.k && (nodeF xs sig).l.getD 1 0 == nonce then (if m.p.contains nonce then (mt0, 81) else (⟨m.k, m.q, m.g, m.p.take (lbI m.p nonce) ++ nonce :: m.p.drop (lbI m.p nonce)⟩, 0)) else (mt0, 40) by rw [HF.out, hk]; rfl)
  have HK := hid hk; have HKS := hid hks
  clear hk hks HF
  go_wp2_with fail
  refine (node_any st xs sig _ (H.out.vw.ext B2.out)).mono ?_
  rintro e3 w3 ⟨A3, c3, rfl, o3, b3⟩
  have B3 := hid (B2.out.trans (b3.mono B2.out.size))
  have X3 := hid (own_ext X2.out b3)
  have Y3 := hid (own_ext Y2.out b3)
  have O3 := hid o3
  clear o3 b3 X2 Y2 B2
  have B4 := hid (B3.out.alloc B3.out.size (.cells #[.int .i64 (nodeF xs sig).o, .int .i64 (nodeF xs sig).n, .string (nodeF xs sig).s, .slice A3 (nodeF xs sig).l.length c3] 59))
  have X4 := hid (X3.out.alloc (.cells #[.int .i64 (nodeF xs sig).o, .int .i64 (nodeF xs sig).n, .string (nodeF xs sig).s, .slice A3 (nodeF xs sig).l.length c3] 59))
  have Y4 := hid (Y3.out.alloc (.cells #[.int .i64 (nodeF xs sig).o, .int .i64 (nodeF xs sig).n, .string (nodeF xs sig).s, .slice A3 (nodeF xs sig).l.length c3] 59))
  have O4 := hid ((SlA.of_own O3.out).2.alloc (.cells #[.int .i64 (nodeF xs sig).o, .int .i64 (nodeF xs sig).n, .string (nodeF xs sig).s, .slice A3 (nodeF xs sig).l.length c3] 59))
  have N4 := hid (show (w3.alloc (.cells #[.int .i64 (nodeF xs sig).o, .int .i64 (nodeF xs sig).n, .string (nodeF xs sig).s, .slice A3 (nodeF xs sig).l.length c3] 59)).ownsRow w3.heap.size 59 4 (.slice (some ⟨w3.heap.size, 0, none⟩) 1 1) 1 [.int .i64 (nodeF xs sig).o, .int .i64 (nodeF xs sig).n, .string (nodeF xs sig).s, .slice A3 (nodeF xs sig).l.length c3] from
    ⟨by simp, .inr ⟨w3.heap.size, 1, _, rfl, Nat.le_refl _, heap_alloc_new w3 _, Nat.le_refl _, by decide, rfl, by simp⟩⟩)
  clear X3 Y3 B3
  go_upto_region 4 with fail
  generalize w3.alloc (.cells #[.int .i64 (nodeF xs sig).o, .int .i64 (nodeF xs sig).n, .string (nodeF xs sig).s, .slice A3 (nodeF xs sig).l.length c3] 59) = W4 at *
  obtain ⟨⟨n0, n1, n2, n3⟩, -⟩ := box4 N4.out
  obtain ⟨⟨x0, x1, x2, x3⟩, -⟩ := box4 X4.out
  obtain ⟨⟨y0, y1, y2, y3⟩, fy0, fy1, fy2, fy3⟩ := box4 Y4.out
  by_cases h10 : (nodeF xs sig).o = 10
  · have hi : ndIs xs sig 10 = true := by
      unfold ndIs nodeE
      rw [HKS.out, h10]; rfl
    obtain ⟨s0, s1, hsl, hs0, hs1⟩ := is_two hok hi rfl
    have HF3 := hid (show spF xs m nonce sig = if s0 == m.k && s1 == nonce then (if m.p.contains nonce then (mt0, 81) else (⟨m.k, m.q, m.g, m.p.take (lbI m.p nonce) ++ nonce :: m.p.drop (lbI m.p nonce)⟩, 0)) else (mt0, 40) by rw [HF2.out, h10, hsl]; rfl)
    generalize hx1 : nodeF xs sig = x1 at *
    obtain ⟨x1o, x1n, x1s, x1l⟩ := x1
    simp only at hsl h10
    subst hsl
    subst h10
    obtain ⟨b5, o5, z0, rfl, hz0, hc0⟩ := O4.out.elemI (k := 0) (by simp)
    obtain ⟨b6, o6, z1, hA, hz1, hc1⟩ := O4.out.elemI (k := 1) (by simp)
    injection hA with hA
    injection hA with e1 e2
    subst e1; subst e2
    have hz0 : s0 = z0 := by simpa using hz0
    have hz1 : s1 = z1 := by simpa using hz1
    subst hz0; subst hz1
    rw [Nat.add_zero] at hc0
    clear hx1 hi HF2
    by_cases hbad : s0 = m.k ∧ s1 = nonce
    · have hq1 : (s0 != m.k) = false := by rw [bne_eq_false_iff_eq]; exact hbad.1
      have hq2 : (s1 != nonce) = false := by rw [bne_eq_false_iff_eq]; exact hbad.2
      have HF4 := hid (show spF xs m nonce sig = (if m.p.contains nonce then (mt0, 81) else (⟨m.k, m.q, m.g, insL m.p (lbI m.p nonce) nonce⟩, 0)) by
        rw [HF3.out, hbad.1, hbad.2, if_pos (by simp)]; rfl)
      clear hbad HF3
      have hpn : m.p.length ≤ 1000000 := by have := HO.out.pn; omega
      go_quiet (fail)
      go_wp2_with fail
      have hB5 := below_drewN B4.out nq
      refine (bs_any Ap _ cp m.p nonce _ (HP.out.1.ext hB5) HO.out.p hpn).mono ?_
      rintro e5 w5 ⟨rfl, q5, hw5⟩
      have HBS := hid (show lbI m.p nonce ≤ m.p.length from List.countP_le_length)
      have hw5' : w5 = W4.drewN (nq + q5) := by rw [hw5, World.drewN_drewN]
      have X5 := hid (show w5.ownsRow w.heap.size 31 4 (.slice (some ⟨w.heap.size, 0, none⟩) 1 1) 1 [.int .i64 m.k, .int .i64 m.q, .slice Ag m.g.length cg, .slice Ap m.p.length cp] by rw [hw5']; exact own_block X4.out fun _ _ => rfl)
      have Y5 := hid (show w5.ownsRow (w.heap.size + 1) 31 4 (.slice (some ⟨w.heap.size + 1, 0, none⟩) 1 1) 1 [.int .i64 0, .int .i64 0, .slice none 0 0, .slice none 0 0] by rw [hw5']; exact own_block Y4.out fun _ _ => rfl)
      have B5 := hid (show Below w.heap.size w w5 by rw [hw5']; exact below_drewN B4.out _)
      clear hw5 hw5' hB5 n0 n1 n2 n3 x0 x1 x2 x3 y0 y1 y2 y3 fy0 fy1 fy2 fy3 X4 Y4 B4 N4 O4 O3 hc0 hc1
      rcases hcon : m.p.contains nonce with _ | _
      · have HR := hid (show spF xs m nonce sig = (⟨m.k, m.q, m.g, insL m.p (lbI m.p nonce) nonce⟩, 0) by rw [HF4.out, hcon]; rfl)
        generalize lbI m.p nonce = lb at *
        obtain ⟨⟨x0, x1, x2, x3⟩, fx0, fx1, fx2, fx3⟩ := box4 X5.out
        have hs5 : w.heap.size + 1 < w5.heap.size := (Y5.out.lt (w.heap.size + 1) rfl).2
        have hgn : m.g.length ≤ 1000000 := by have := HO.out.n; omega
        have HC := hid (fun (W : World) (hb : Below w5.heap.size w5 W) => cloneC_any Ag cg m.g W (SlA.ext HG.out.1 (B5.out.trans (hb.mono B5.out.size))) hgn)
        have HI := hid (fun (W : World) (hb : Below w5.heap.size w5 W) => clone_own Ap m.p.length cp m.p W (SlA.ext HP.out.1 (B5.out.trans (hb.mono B5.out.size))) (by omega))
        have HFZ := hid (fun (W : World) (hb : Below w5.heap.size w5 W) => (show (W.cell? ⟨w.heap.size, 2, none⟩ = some (.slice Ag m.g.length cg) ∧ W.cell? ⟨w.heap.size, 3, none⟩ = some (.slice Ap m.p.length cp) ∧ W.frozen? ⟨w.heap.size, 2, none⟩ = false ∧ W.frozen? ⟨w.heap.size, 3, none⟩ = false) ∧ w.heap.size < W.heap.size from have h := box4 (own_ext X5.out hb); ⟨⟨h.1.2.2.1, h.1.2.2.2, h.2.2.2.1, h.2.2.2.2⟩, by have := hb.size; omega⟩))
        have HS := hid (fun (W : World) (vb : Nat) (q : Value) (h : W.ownsRow w5.heap.size 3 1 q m.p.length (m.p.map (.int .i64))) (hv : W.heap[vb]? = some (.cells #[.int .i64 nonce] 3 (0, 0))) (hne : q.ownBlock ≠ some vb) (hs : w5.heap.size ≤ W.heap.size) => Tryd.insert_own w5.heap.size q m.p lb nonce vb 3 W h HBS.out (by omega) hv hne hs)
        have D0 := hid (below_drew (Below.refl w5.heap.size w5))
        clear hgn hpn
        go_upto_region 9 with fail
        go_cut [] (fun W => MidS w m (insL m.p lb nonce) W)
        case first =>
          have c1 : w.heap.size < w5.heap.size := by omega
          clear HG HP H HO HF4 HR HK HKS hok
          go_region_with (first
            | (go_at_call 43; refine (HC.out _ (by first | with_reducible exact D10.out | with_reducible exact D8.out | with_reducible exact D9.out | with_reducible exact D0.out | with_reducible exact D8.out.alloc D8.out.size _ | with_reducible exact D9.out.alloc D9.out.size _ | with_reducible exact below_drew ((Below.refl _ _).alloc (Nat.le_refl _) _) : Below w5.heap.size w5 _)).mono ?_; rintro e8 w8 ⟨vg, rfl, og, bg⟩; have D8 := hid ((by first | with_reducible exact D10.out | with_reducible exact D8.out | with_reducible exact D9.out | with_reducible exact D0.out | with_reducible exact D8.out.alloc D8.out.size _ | with_reducible exact D9.out.alloc D9.out.size _ | with_reducible exact below_drew ((Below.refl _ _).alloc (Nat.le_refl _) _) : Below w5.heap.size w5 _).trans (bg.mono (by first | with_reducible exact D10.out | with_reducible exact D8.out | with_reducible exact D9.out | with_reducible exact D0.out | with_reducible exact D8.out.alloc D8.out.size _ | with_reducible exact D9.out.alloc D9.out.size _ | with_reducible exact below_drew ((Below.refl _ _).alloc (Nat.le_refl _) _) : Below w5.heap.size w5 _).size)); have OG := hid (own_mono og (by first | with_reducible exact D10.out | with_reducible exact D8.out | with_reducible exact D9.out | with_reducible exact D0.out | with_reducible exact D8.out.alloc D8.out.size _ | with_reducible exact D9.out.alloc D9.out.size _ | with_reducible exact below_drew ((Below.refl _ _).alloc (Nat.le_refl _) _) : Below w5.heap.size w5 _).size); obtain ⟨Ag8, cg8, rfl, -⟩ := SlA.owned og; have BG := hid bg; obtain ⟨⟨r2, r3, r4, r5⟩, r6⟩ := HFZ.out _ D8.out; clear og bg)
            | (go_at_call 44; refine (HI.out _ (by first | with_reducible exact D10.out | with_reducible exact D8.out | with_reducible exact D9.out | with_reducible exact D0.out | with_reducible exact D8.out.alloc D8.out.size _ | with_reducible exact D9.out.alloc D9.out.size _ | with_reducible exact below_drew ((Below.refl _ _).alloc (Nat.le_refl _) _) : Below w5.heap.size w5 _)).mono ?_; rintro e9 w9 ⟨vp, rfl, op, bp⟩; have D9 := hid ((by first | with_reducible exact D10.out | with_reducible exact D8.out | with_reducible exact D9.out | with_reducible exact D0.out | with_reducible exact D8.out.alloc D8.out.size _ | with_reducible exact D9.out.alloc D9.out.size _ | with_reducible exact below_drew ((Below.refl _ _).alloc (Nat.le_refl _) _) : Below w5.heap.size w5 _).trans (bp.mono (by first | with_reducible exact D10.out | with_reducible exact D8.out | with_reducible exact D9.out | with_reducible exact D0.out | with_reducible exact D8.out.alloc D8.out.size _ | with_reducible exact D9.out.alloc D9.out.size _ | with_reducible exact below_drew ((Below.refl _ _).alloc (Nat.le_refl _) _) : Below w5.heap.size w5 _).size)); have OPL := hid (fun b hb => op.lt b hb); have OP := hid (own_mono op (by first | with_reducible exact D10.out | with_reducible exact D8.out | with_reducible exact D9.out | with_reducible exact D0.out | with_reducible exact D8.out.alloc D8.out.size _ | with_reducible exact D9.out.alloc D9.out.size _ | with_reducible exact below_drew ((Below.refl _ _).alloc (Nat.le_refl _) _) : Below w5.heap.size w5 _).size); obtain ⟨Ap9, cp9, rfl, -⟩ := SlA.owned op; have BP := hid bp; obtain ⟨⟨q2, q3, q4, q5⟩, q6⟩ := HFZ.out _ D9.out; clear op bp)
            | (go_at_call 50; refine (HS.out _ _ _ (by first | with_reducible exact OP.out | with_reducible exact OP.out.alloc _ | with_reducible exact own_ext OP.out BG.out | with_reducible exact own_ext (OP.out.alloc _) BG.out | with_reducible exact (own_ext OP.out BG.out).alloc _) (by first | with_reducible exact heap_alloc_new _ _ | with_reducible exact (BG.out.block _ (by simp)).trans (heap_alloc_new _ _) | with_reducible exact (BP.out.block _ (by simp)).trans (heap_alloc_new _ _) | with_reducible exact (BP.out.block _ (Nat.lt_of_lt_of_le (by simp) BG.out.size)).trans ((BG.out.block _ (by simp)).trans (heap_alloc_new _ _)) | with_reducible exact (BG.out.block _ (Nat.lt_of_lt_of_le (by simp) BP.out.size)).trans ((BP.out.block _ (by simp)).trans (heap_alloc_new _ _))) (by intro e; have h1 := OPL.out _ e; have h2 := BP.out.size; (try have h3 := BG.out.size); (try simp at h1); (try simp at h2); (try simp at h3); all_goals omega) (by first | with_reducible exact D10.out | with_reducible exact D8.out | with_reducible exact D9.out | with_reducible exact D0.out | with_reducible exact D8.out.alloc D8.out.size _ | with_reducible exact D9.out.alloc D9.out.size _ | with_reducible exact below_drew ((Below.refl _ _).alloc (Nat.le_refl _) _) : Below w5.heap.size w5 _).size).mono ?_; rintro e10 w10 ⟨vi, rfl, oi, gi, -⟩; have D10 := hid (Below.grown (by first | with_reducible exact D10.out | with_reducible exact D8.out | with_reducible exact D9.out | with_reducible exact D0.out | with_reducible exact D8.out.alloc D8.out.size _ | with_reducible exact D9.out.alloc D9.out.size _ | with_reducible exact below_drew ((Below.refl _ _).alloc (Nat.le_refl _) _) : Below w5.heap.size w5 _) gi (by first | with_reducible exact D10.out | with_reducible exact D8.out | with_reducible exact D9.out | with_reducible exact D0.out | with_reducible exact D8.out.alloc D8.out.size _ | with_reducible exact D9.out.alloc D9.out.size _ | with_reducible exact below_drew ((Below.refl _ _).alloc (Nat.le_refl _) _) : Below w5.heap.size w5 _).size (fun k hk => (OP.out.lt k hk).1)); have OI := hid oi; have GI := hid gi; obtain ⟨Ai, ci, rfl, -⟩ := SlA.owned oi; obtain ⟨⟨u2, u3, u4, u5⟩, u6⟩ := HFZ.out _ D10.out; clear oi gi))
          all_goals
            go_wp2_with fail
            go_meet
            have hin : (insL m.p lb nonce).length = m.p.length + 1 := insL_len _ _ _ HBS.out
            first
              | exact midS_of hs5 D10.out B5.out X5.out Y5.out (own_grown (by first | with_reducible exact OG.out | with_reducible exact OG.out.alloc _ | with_reducible exact own_ext OG.out BP.out | with_reducible exact own_ext (OG.out.alloc _) BP.out | with_reducible exact (own_ext OG.out BP.out).alloc _) GI.out (by first | with_reducible exact OP.out | with_reducible exact OP.out.alloc _ | with_reducible exact own_ext OP.out BG.out | with_reducible exact own_ext (OP.out.alloc _) BG.out | with_reducible exact (own_ext OP.out BG.out).alloc _) (by decide)) (by rw [hin]; exact OI.out) rfl
              | exact midS_of hs5 D8.out B5.out X5.out Y5.out OG.out (by rw [hin]; exact own_ext OI.out BG.out) rfl
        case rest =>
          obtain ⟨vg, vp, x7, y7, g7, p7, b7⟩ := hcut
          obtain ⟨Ag7, cg7, rfl, -⟩ := SlA.owned g7
          have hin : (insL m.p lb nonce).length = m.p.length + 1 := insL_len _ _ _ HBS.out
          have HIN := hid hin
          clear hin
          generalize insL m.p lb nonce = ip at *
          obtain ⟨Ap7, cp7, rfl, -⟩ := SlA.owned p7
          have X7 := hid x7; have Y7 := hid y7; have G7 := hid g7; have P7 := hid p7; have B7 := hid b7
          clear x7 y7 g7 p7 b7 HC HI HFZ HS D0 X5 Y5 B5 x0 x1 x2 x3 fx0 fx1 fx2 fx3
          obtain ⟨⟨x0, x1, x2, x3⟩, -⟩ := box4 X7.out
          obtain ⟨⟨y0, y1, y2, y3⟩, fy0, fy1, fy2, fy3⟩ := box4 Y7.out
          have hne1 : ¬ w.heap.size = w.heap.size + 1 := by omega
          go_wp2_with fail
          refine bodyPost_ret (v := .tuple #[.agg #[.int .i64 m.k, .int .i64 m.q, .slice Ag7 m.g.length cg7, .slice Ap7 ip.length cp7], .int .i64 0]) ?_ rfl ?_
          · rw [results_cell_tmp rfl]
            go_simp
          · rw [HR.out]
            exact spn_end X7.out Y7.out G7.out P7.out B7.out H.out.zlt
      · have HR := hid (show spF xs m nonce sig = (mt0, 81) by rw [HF4.out, hcon]; rfl)
        generalize lbI m.p nonce = lb at *
        obtain ⟨⟨y0, y1, y2, y3⟩, fy0, fy1, fy2, fy3⟩ := box4 Y5.out
        clear hcon
        go_wp2_with fail
        refine bodyPost_ret (v := .tuple #[.agg #[.int .i64 0, .int .i64 0, .slice none 0 0, .slice none 0 0], .int .i64 81]) ?_ rfl ?_
        · rw [results_cell_tmp rfl]
          go_simp
        · rw [HR.out]
          exact spn_stay (st4 B5.out (by omega) _ _ _ _)
    · have HR := hid (show spF xs m nonce sig = (mt0, 40) by
        rw [HF3.out, if_neg]
        simpa using hbad)
      have hq : (s0 != m.k) = true ∨ ((s0 != m.k) = false ∧ (s1 != nonce) = true) := by
        by_cases h1 : s0 = m.k
        · exact .inr ⟨by rw [bne_eq_false_iff_eq]; exact h1, bne_iff_ne.2 fun h2 => hbad ⟨h1, h2⟩⟩
        · exact .inl (bne_iff_ne.2 h1)
      clear hbad
      rcases hq with hq | ⟨hq, hq2⟩
      all_goals
        go_quiet (fail)
        go_wp2_with fail
        refine bodyPost_ret (v := .tuple #[.agg #[.int .i64 0, .int .i64 0, .slice none 0 0, .slice none 0 0], .int .i64 40]) ?_ rfl ?_
        · rw [results_cell_tmp rfl]
          go_simp
        · rw [HR.out]
          exact spn_stay (st4 (below_drewN B4.out _) (by omega) _ _ _ _)
  · have h10' : ((nodeF xs sig).o != 10) = true := bne_iff_ne.2 h10
    have HR := hid (show spF xs m nonce sig = (mt0, 40) by rw [HF2.out, beq_eq_false_iff_ne.2 h10]; rfl)
    clear h10
    generalize nodeF xs sig = x1 at *
    go_quiet (fail)
    go_wp2_with fail
    refine bodyPost_ret (v := .tuple #[.agg #[.int .i64 0, .int .i64 0, .slice none 0 0, .slice none 0 0], .int .i64 40]) ?_ rfl ?_
    · rw [results_cell_tmp rfl]
      go_simp
    · rw [HR.out]
      exact spn_stay (st4 (below_drewN B4.out _) (by omega) _ _ _ _)
end
end Go.Proofs.YtanakgbhmmemoaaDoor
