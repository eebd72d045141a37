import Derived.Test.YtfmkniakfgpgjaaDoorY07
import Derived.Test.YtfmkniakfgpgjaaDoorY04
import Derived.Test.YtfmkniakfgpgjaaDoorY05
/- token: Spend. -/
namespace Go.Proofs.YtfmkniakfgpgjaaDoor
open Go.RowKit Go.KK Go.Shelf Go.Maps
set_option linter.unusedVariables false
set_option linter.unusedSimpArgs false

/-- What Spend leaves. -/
def SpnS (w : World) (Z : Nat → Prop) (r : MT × Int) (e : Ending) (w' : World) : Prop := ∃ g p, e = .returned (.tuple #[mtV r.1 g p, .int .i64 r.2]) ∧ Below w.heap.size w w' ∧ MtR w' Z r.1 g p ∧ NewV w g p
theorem spn_stay {w w' : World} {Z : Nat → Prop} {e : Int} (hb : Below w.heap.size w w') : SpnS w Z (mt0, e) (.returned (.tuple #[.agg #[.int .i64 0, .int .i64 0, .slice none 0 0, .slice none 0 0], .int .i64 e])) w' :=
  ⟨_, _, rfl, hb, MtR.mt _ _ 0 0, newV_nil _ _ _ _ _⟩
theorem bs_any (A : Option Addr) (n c : Nat) (l : List Int) (x : Int) (w : World) (h : SlA w 1 A n c (l.map (.int .i64))) (hs : l.Pairwise (· < ·)) (hn : n ≤ 1000000) :
    Calls Tryd.prog 42 #[.slice A n c, .int .i64 x] w fun e w' => e = .returned (.tuple #[.int .i64 (lbI l x), .bool (l.contains x)]) ∧ ∃ q, w' = w.drewN q := by
  have hln := h.lenI
  rcases l with _ | ⟨y, l⟩
  · simp at hln
    subst hln
    exact (Tryd.slices_BinarySearch_int_empty A c x w).mono fun e w' ⟨h1, h2⟩ => ⟨h1, 0, h2⟩
  · obtain ⟨b, o, rfl, _⟩ := h.cells 0 _ rfl
    have := Tryd.slices_BinarySearch_int b o n c (y :: l) x w (by omega) (by omega) (sla_getD h) (by
      rw [List.take_of_length_le (by omega)]
      exact hs.imp fun h => by omega)
    rw [List.take_of_length_le (by omega)] at this
    exact this
/-- What the copies leave, ahead of the token's mark. -/
def MidS (w : World) (m : MT) (np : List Int) (W : World) : Prop :=
  ∃ vg vp, W.ownsRow w.heap.size 31 4 (.slice (some ⟨w.heap.size, 0, none⟩) 1 1) 1 [.int .i64 m.k, .int .i64 m.q, vg, vp] ∧
    W.ownsRow (w.heap.size + 1) 31 4 (.slice (some ⟨w.heap.size + 1, 0, none⟩) 1 1) 1 [.int .i64 0, .int .i64 0, .slice none 0 0, .slice none 0 0] ∧
    W.ownsRow (w.heap.size + 2) 66 2 vg m.g.length (cts m.g) ∧ W.ownsRow (w.heap.size + 2) 3 1 vp np.length (np.map (.int .i64)) ∧ Below w.heap.size w W
theorem midS_of {w W5 wl W : World} {m : MT} {np : List Int} {vg vp vg0 vp0 : Value} (h5 : w.heap.size + 1 < W5.heap.size) (hd : Below W5.heap.size W5 wl) (hb : Below w.heap.size w W5)
    (x : W5.ownsRow w.heap.size 31 4 (.slice (some ⟨w.heap.size, 0, none⟩) 1 1) 1 [.int .i64 m.k, .int .i64 m.q, vg0, vp0])
    (y : W5.ownsRow (w.heap.size + 1) 31 4 (.slice (some ⟨w.heap.size + 1, 0, none⟩) 1 1) 1 [.int .i64 0, .int .i64 0, .slice none 0 0, .slice none 0 0])
    (og : wl.ownsRow W5.heap.size 66 2 vg m.g.length (cts m.g)) (op : wl.ownsRow W5.heap.size 3 1 vp np.length (np.map (.int .i64)))
    (hW : W = (wl.setCell ⟨w.heap.size, 2, none⟩ vg).setCell ⟨w.heap.size, 3, none⟩ vp) : MidS w m np W := by
  subst hW
  have far : ∀ b, b ≠ w.heap.size → ((wl.setCell ⟨w.heap.size, 2, none⟩ vg).setCell ⟨w.heap.size, 3, none⟩ vp).heap[b]? = wl.heap[b]? := fun b hb => by
    rw [Below.heap_setCell _ _ _ b hb, Below.heap_setCell _ _ _ b hb]
  have g2 := own_mono og (base' := w.heap.size + 2) (by omega)
  have p2 := own_mono op (base' := w.heap.size + 2) (by omega)
  refine ⟨vg, vp, ?_, ?_, own_block g2 fun b h => far b (by have := (g2.lt b h).1; omega), own_block p2 fun b h => far b (by have := (p2.lt b h).1; omega), ?_⟩
  · exact (((own_ext x hd).stored 2 vg).1.stored 3 vp).1
  · exact own_block (own_ext y hd) fun b h => by
      injection h with h
      subst h
      exact far (w.heap.size + 1) (Nat.succ_ne_self _)
  · exact ((hb.trans (hd.mono (by omega))).setCell (p := ⟨w.heap.size, 2, none⟩) (Nat.le_refl _) _).setCell (p := ⟨w.heap.size, 3, none⟩) (Nat.le_refl _) _
theorem spn_end {w W : World} {Z : Nat → Prop} {m : MT} {ip : List Int} {Ag Ap : Option Addr} {cg cp : Nat}
    (x : W.ownsRow w.heap.size 31 4 (.slice (some ⟨w.heap.size, 0, none⟩) 1 1) 1 [.int .i64 m.k, .int .i64 m.q, .slice Ag m.g.length cg, .slice Ap ip.length cp])
    (y : W.ownsRow (w.heap.size + 1) 31 4 (.slice (some ⟨w.heap.size + 1, 0, none⟩) 1 1) 1 [.int .i64 0, .int .i64 0, .slice none 0 0, .slice none 0 0])
    (g : W.ownsRow (w.heap.size + 2) 66 2 (.slice Ag m.g.length cg) m.g.length (cts m.g)) (p : W.ownsRow (w.heap.size + 2) 3 1 (.slice Ap ip.length cp) ip.length (ip.map (.int .i64))) (b : Below w.heap.size w W) (hz : ∀ b, Z b → b < w.heap.size) :
    SpnS w Z (⟨m.k, m.q, m.g, ip⟩, 0) (.returned (.tuple #[.agg #[.int .i64 m.k, .int .i64 m.q, .slice Ag m.g.length cg, .slice Ap ip.length cp], .int .i64 0])) ((((W.setCell ⟨w.heap.size + 1, 0, none⟩ (.int .i64 m.k)).setCell ⟨w.heap.size + 1, 1, none⟩ (.int .i64 m.q)).setCell ⟨w.heap.size + 1, 2, none⟩ (.slice Ag m.g.length cg)).setCell ⟨w.heap.size + 1, 3, none⟩ (.slice Ap ip.length cp)) := by
  refine ⟨_, _, rfl, st4 b (by omega) _ _ _ _, ?_, fun k hk => hk.elim (fun hk => by have := (g.lt k hk).1; omega) (fun hk => by have := (p.lt k hk).1; omega)⟩
  have g2 := own_block g (w' := ((((W.setCell ⟨w.heap.size + 1, 0, none⟩ (.int .i64 m.k)).setCell ⟨w.heap.size + 1, 1, none⟩ (.int .i64 m.q)).setCell ⟨w.heap.size + 1, 2, none⟩ (.slice Ag m.g.length cg)).setCell ⟨w.heap.size + 1, 3, none⟩ (.slice Ap ip.length cp))) fun k hk => far4 _ _ _ _ _ _ k (by have := (g.lt k hk).1; omega)
  have p2 := own_block p (w' := ((((W.setCell ⟨w.heap.size + 1, 0, none⟩ (.int .i64 m.k)).setCell ⟨w.heap.size + 1, 1, none⟩ (.int .i64 m.q)).setCell ⟨w.heap.size + 1, 2, none⟩ (.slice Ag m.g.length cg)).setCell ⟨w.heap.size + 1, 3, none⟩ (.slice Ap ip.length cp))) fun k hk => far4 _ _ _ _ _ _ k (by have := (p.lt k hk).1; omega)
  obtain ⟨A1, c1, e1, s1⟩ := SlZ.of_own (Z := Z) g2 (fun b hb => by have := hz b hb; omega)
  obtain ⟨A2, c2, e2, s2⟩ := SlZ.of_own (Z := Z) p2 (fun b hb => by have := hz b hb; omega)
  exact ⟨A1, c1, A2, c2, e1, e2, s1, s2⟩
section
variable (Z : Nat → Prop) (st : Nat) (xs : List ND) (B : Nat) (w : World) (m : MT)
set_option maxHeartbeats 8000000 in
set_option maxRecDepth 20000 in
theorem spend_any (g p : Value) (nonce sig : Int) (h : AR w Z st xs) (hm : MtR w Z m g p) (ho : MtO m) :
    Calls Tryd.prog 18 #[.pointer (some ⟨st, 0, none⟩), mtV m g p, .int .i64 nonce, .int .i64 sig] w (SpnS w Z (spF xs m nonce sig)) := by
  obtain ⟨Ag, cg, Ap, cp, rfl, rfl, hgr, hpr⟩ := hm
  have HG := hid hgr; have HP := hid hpr
  have H := hid h; have HO := hid ho
  clear hgr hpr
  have hok := h.ok
  have hf : spF xs m nonce sig = if kno xs [nonce, sig] then (if (nodeF xs sig).o == 10 && (nodeF xs sig).l.getD 0 0 == m.k && (nodeF xs sig).l.getD 1 0 == nonce then (if m.p.contains nonce then (mt0, 81) else (⟨m.k, m.q, m.g, m.p.take (lbI m.p nonce) ++ nonce :: m.p.drop (lbI m.p nonce)⟩, 0)) else (mt0, 40)) else (mt0, 1) := rfl
  have HF := hid hf
  have B0 := hid (show Below w.heap.size w ((w.alloc (.cells #[.int .i64 m.k, .int .i64 m.q, .slice Ag m.g.length cg, .slice Ap m.p.length cp] 31)).alloc (.cells #[.int .i64 0, .int .i64 0, .slice none 0 0, .slice none 0 0] 31)) from ((Below.refl _ _).alloc (Nat.le_refl _) _).alloc (by simp) _)
  have X0 := hid (World.ownsRow.alloc (show (w.alloc (.cells #[.int .i64 m.k, .int .i64 m.q, .slice Ag m.g.length cg, .slice Ap m.p.length cp] 31)).ownsRow w.heap.size 31 4 (.slice (some ⟨w.heap.size, 0, none⟩) 1 1) 1 [.int .i64 m.k, .int .i64 m.q, .slice Ag m.g.length cg, .slice Ap m.p.length cp] from
    ⟨by simp, .inr ⟨w.heap.size, 1, _, rfl, Nat.le_refl _, heap_alloc_new w _, Nat.le_refl _, by decide, rfl, by simp⟩⟩) (.cells #[.int .i64 0, .int .i64 0, .slice none 0 0, .slice none 0 0] 31))
  have Y0 := hid (show ((w.alloc (.cells #[.int .i64 m.k, .int .i64 m.q, .slice Ag m.g.length cg, .slice Ap m.p.length cp] 31)).alloc (.cells #[.int .i64 0, .int .i64 0, .slice none 0 0, .slice none 0 0] 31)).ownsRow (w.heap.size + 1) 31 4 (.slice (some ⟨w.heap.size + 1, 0, none⟩) 1 1) 1 [.int .i64 0, .int .i64 0, .slice none 0 0, .slice none 0 0] from by
      have h1 := heap_alloc_new (w.alloc (.cells #[.int .i64 m.k, .int .i64 m.q, .slice Ag m.g.length cg, .slice Ap m.p.length cp] 31)) (.cells #[.int .i64 0, .int .i64 0, .slice none 0 0, .slice none 0 0] 31)
      rw [show (w.alloc (.cells #[.int .i64 m.k, .int .i64 m.q, .slice Ag m.g.length cg, .slice Ap m.p.length cp] 31)).heap.size = w.heap.size + 1 by simp] at h1
      exact ⟨by simp, .inr ⟨w.heap.size + 1, 1, _, rfl, Nat.le_refl _, h1, Nat.le_refl _, by decide, rfl, by simp⟩⟩)
  clear h ho hf
  unfold mtV
  go_enter Tryd.func18, Tryd.ntmps18
  go_upto_region 1 with fail
  generalize (w.alloc (.cells #[.int .i64 m.k, .int .i64 m.q, .slice Ag m.g.length cg, .slice Ap m.p.length cp] 31)).alloc (.cells #[.int .i64 0, .int .i64 0, .slice none 0 0, .slice none 0 0] 31) = W0 at *
  have B1 := hid (B0.out.alloc B0.out.size (.cells #[.int .i64 nonce, .int .i64 sig] 3))
  have HKN := hid (known_any st xs (W0.alloc (.cells #[.int .i64 nonce, .int .i64 sig] 3)) (some ⟨W0.heap.size, 0, none⟩) 2 2 [nonce, sig] (H.out.vw.ext B1.out) (sla_row #[.int .i64 nonce, .int .i64 sig] (by unfold maxLen; simp)) (by decide))
  have X1 := hid (X0.out.alloc (.cells #[.int .i64 nonce, .int .i64 sig] 3))
  have Y1 := hid (Y0.out.alloc (.cells #[.int .i64 nonce, .int .i64 sig] 3))
  go_wp2_with fail
  refine HKN.out.mono ?_
  rintro e2 w2 ⟨rfl, b2⟩
  have B2 := hid (B1.out.trans (b2.mono B1.out.size))
  have X2 := hid (own_ext X1.out b2)
  have Y2 := hid (own_ext Y1.out b2)
  clear b2 HKN X1 Y1 X0 Y0 B0 B1
  rcases hk : kno xs [nonce, sig] with _ | _
  · have HR := hid (show spF xs m nonce sig = (mt0, 1) by rw [HF.out, hk]; rfl)
    obtain ⟨⟨y0, y1, y2, y3⟩, fy0, fy1, fy2, fy3⟩ := box4 Y2.out
    go_wp2_with fail
    refine bodyPost_ret (v := .tuple #[.agg #[.int .i64 0, .int .i64 0, .slice none 0 0, .slice none 0 0], .int .i64 1]) ?_ rfl ?_
    · rw [results_cell_tmp rfl]
      go_simp
    · rw [HR.out]
      exact spn_stay (st4 B2.out (by omega) _ _ _ _)
  have hks : hasB xs sig = true := by
    unfold kno at hk
    simp only [List.all_cons, Bool.and_eq_true] at hk
    exact hk.2.1
  have HF2 := hid (show spF xs m nonce sig = if (nodeF xs sig).o == 10 && (nodeF xs sig).l.getD 0 0 == m.k && (nodeF xs sig).l.getD 1 0 == nonce then (if m.p.contains nonce then (mt0, 81) else (⟨m.k, m.q, m.g, m.p.take (lbI m.p nonce) ++ nonce :: m.p.drop (lbI m.p nonce)⟩, 0)) else (mt0, 40) by rw [HF.out, hk]; rfl)
  have HK := hid hk; have HKS := hid hks
  clear hk hks HF
  go_wp2_with fail
  refine (node_any st xs sig _ (H.out.vw.ext B2.out)).mono ?_
  rintro e3 w3 ⟨A3, c3, rfl, o3, b3⟩
  have B3 := hid (B2.out.trans (b3.mono B2.out.size))
  have X3 := hid (own_ext X2.out b3)
  have Y3 := hid (own_ext Y2.out b3)
  have O3 := hid o3
  clear o3 b3 X2 Y2 B2
  have B4 := hid (B3.out.alloc B3.out.size (.cells #[.int .i64 (nodeF xs sig).o, .int .i64 (nodeF xs sig).n, .string (nodeF xs sig).s, .slice A3 (nodeF xs sig).l.length c3] 60))
  have X4 := hid (X3.out.alloc (.cells #[.int .i64 (nodeF xs sig).o, .int .i64 (nodeF xs sig).n, .string (nodeF xs sig).s, .slice A3 (nodeF xs sig).l.length c3] 60))
  have Y4 := hid (Y3.out.alloc (.cells #[.int .i64 (nodeF xs sig).o, .int .i64 (nodeF xs sig).n, .string (nodeF xs sig).s, .slice A3 (nodeF xs sig).l.length c3] 60))
  have O4 := hid ((SlA.of_own O3.out).2.alloc (.cells #[.int .i64 (nodeF xs sig).o, .int .i64 (nodeF xs sig).n, .string (nodeF xs sig).s, .slice A3 (nodeF xs sig).l.length c3] 60))
  have N4 := hid (show (w3.alloc (.cells #[.int .i64 (nodeF xs sig).o, .int .i64 (nodeF xs sig).n, .string (nodeF xs sig).s, .slice A3 (nodeF xs sig).l.length c3] 60)).ownsRow w3.heap.size 60 4 (.slice (some ⟨w3.heap.size, 0, none⟩) 1 1) 1 [.int .i64 (nodeF xs sig).o, .int .i64 (nodeF xs sig).n, .string (nodeF xs sig).s, .slice A3 (nodeF xs sig).l.length c3] from
    ⟨by simp, .inr ⟨w3.heap.size, 1, _, rfl, Nat.le_refl _, heap_alloc_new w3 _, Nat.le_refl _, by decide, rfl, by simp⟩⟩)
  clear X3 Y3 B3
  go_upto_region 4 with fail
  generalize w3.alloc (.cells #[.int .i64 (nodeF xs sig).o, .int .i64 (nodeF xs sig).n, .string (nodeF xs sig).s, .slice A3 (nodeF xs sig).l.length c3] 60) = W4 at *
  obtain ⟨⟨n0, n1, n2, n3⟩, -⟩ := box4 N4.out
  obtain ⟨⟨x0, x1, x2, x3⟩, -⟩ := box4 X4.out
  obtain ⟨⟨y0, y1, y2, y3⟩, fy0, fy1, fy2, fy3⟩ := box4 Y4.out
  by_cases h10 : (nodeF xs sig).o = 10
  · have hi : ndIs xs sig 10 = true := by
      unfold ndIs nodeE
      rw [HKS.out, h10]; rfl
    obtain ⟨s0, s1, hsl, hs0, hs1⟩ := is_two hok hi rfl
    have HF3 := hid (show spF xs m nonce sig = if s0 == m.k && s1 == nonce then (if m.p.contains nonce then (mt0, 81) else (⟨m.k, m.q, m.g, m.p.take (lbI m.p nonce) ++ nonce :: m.p.drop (lbI m.p nonce)⟩, 0)) else (mt0, 40) by rw [HF2.out, h10, hsl]; rfl)
    generalize hx1 : nodeF xs sig = x1 at *
    obtain ⟨x1o, x1n, x1s, x1l⟩ := x1
    simp only at hsl h10
    subst hsl
    subst h10
    obtain ⟨b5, o5, z0, rfl, hz0, hc0⟩ := O4.out.elemI (k := 0) (by simp)
    obtain ⟨b6, o6, z1, hA, hz1, hc1⟩ := O4.out.elemI (k := 1) (by simp)
    injection hA with hA
    injection hA with e1 e2
    subst e1; subst e2
    have hz0 : s0 = z0 := by simpa using hz0
    have hz1 : s1 = z1 := by simpa using hz1
    subst hz0; subst hz1
    rw [Nat.add_zero] at hc0
    clear hx1 hi HF2
    by_cases hbad : s0 = m.k ∧ s1 = nonce
    · have hq1 : (s0 != m.k) = false := by rw [bne_eq_false_iff_eq]; exact hbad.1
      have hq2 : (s1 != nonce) = false := by rw [bne_eq_false_iff_eq]; exact hbad.2
      have HF4 := hid (show spF xs m nonce sig = (if m.p.contains nonce then (mt0, 81) else (⟨m.k, m.q, m.g, insL m.p (lbI m.p nonce) nonce⟩, 0)) by
        rw [HF3.out, hbad.1, hbad.2, if_pos (by simp)]; rfl)
      clear hbad HF3
      have hpn : m.p.length ≤ 1000000 := by have := HO.out.pn; omega
      go_quiet (fail)
      go_wp2_with fail
      have hB5 := below_drewN B4.out nq
      refine (bs_any Ap _ cp m.p nonce _ (HP.out.1.ext hB5) HO.out.p hpn).mono ?_
      rintro e5 w5 ⟨rfl, q5, hw5⟩
      have HBS := hid (show lbI m.p nonce ≤ m.p.length from List.countP_le_length)
      have hw5' : w5 = W4.drewN (nq + q5) := by rw [hw5, World.drewN_drewN]
      have X5 := hid (show w5.ownsRow w.heap.size 31 4 (.slice (some ⟨w.heap.size, 0, none⟩) 1 1) 1 [.int .i64 m.k, .int .i64 m.q, .slice Ag m.g.length cg, .slice Ap m.p.length cp] by rw [hw5']; exact own_block X4.out fun _ _ => rfl)
      have Y5 := hid (show w5.ownsRow (w.heap.size + 1) 31 4 (.slice (some ⟨w.heap.size + 1, 0, none⟩) 1 1) 1 [.int .i64 0, .int .i64 0, .slice none 0 0, .slice none 0 0] by rw [hw5']; exact own_block Y4.out fun _ _ => rfl)
      have B5 := hid (show Below w.heap.size w w5 by rw [hw5']; exact below_drewN B4.out _)
      clear hw5 hw5' hB5 n0 n1 n2 n3 x0 x1 x2 x3 y0 y1 y2 y3 fy0 fy1 fy2 fy3 X4 Y4 B4 N4 O4 O3 hc0 hc1
      rcases hcon : m.p.contains nonce with _ | _
      · have HR := hid (show spF xs m nonce sig = (⟨m.k, m.q, m.g, insL m.p (lbI m.p nonce) nonce⟩, 0) by rw [HF4.out, hcon]; rfl)
        generalize lbI m.p nonce = lb at *
        obtain ⟨⟨x0, x1, x2, x3⟩, fx0, fx1, fx2, fx3⟩ := box4 X5.out
        have hs5 : w.heap.size + 1 < w5.heap.size := (Y5.out.lt (w.heap.size + 1) rfl).2
        have hgn : m.g.length ≤ 1000000 := by have := HO.out.n; omega
        have HC := hid (fun (W : World) (hb : Below w5.heap.size w5 W) => cloneC_any Ag cg m.g W (SlA.ext HG.out.1 (B5.out.trans (hb.mono B5.out.size))) hgn)
        have HI := hid (fun (W : World) (hb : Below w5.heap.size w5 W) => clone_own Ap m.p.length cp m.p W (SlA.ext HP.out.1 (B5.out.trans (hb.mono B5.out.size))) (by omega))
        have HFZ := hid (fun (W : World) (hb : Below w5.heap.size w5 W) => (show (W.cell? ⟨w.heap.size, 2, none⟩ = some (.slice Ag m.g.length cg) ∧ W.cell? ⟨w.heap.size, 3, none⟩ = some (.slice Ap m.p.length cp) ∧ W.frozen? ⟨w.heap.size, 2, none⟩ = false ∧ W.frozen? ⟨w.heap.size, 3, none⟩ = false) ∧ w.heap.size < W.heap.size from have h := box4 (own_ext X5.out hb); ⟨⟨h.1.2.2.1, h.1.2.2.2, h.2.2.2.1, h.2.2.2.2⟩, by have := hb.size; omega⟩))
        have HS := hid (fun (W : World) (vb : Nat) (q : Value) (h : W.ownsRow w5.heap.size 3 1 q m.p.length (m.p.map (.int .i64))) (hv : W.heap[vb]? = some (.cells #[.int .i64 nonce] 3 (0, 0))) (hne : q.ownBlock ≠ some vb) (hs : w5.heap.size ≤ W.heap.size) => Tryd.insert_own w5.heap.size q m.p lb nonce vb 3 W h HBS.out (by omega) hv hne hs)
        have D0 := hid (below_drew (Below.refl w5.heap.size w5))
        clear hgn hpn
        go_upto_region 9 with fail
        go_cut [] (fun W => MidS w m (insL m.p lb nonce) W)
        case first =>
          have c1 : w.heap.size < w5.heap.size := by omega
          clear HG HP H HO HF4 HR HK HKS hok
          go_region_with (first
            | (go_at_call 36; refine (HC.out _ (by first | with_reducible exact D10.out | with_reducible exact D8.out | with_reducible exact D9.out | with_reducible exact D0.out | with_reducible exact D8.out.alloc D8.out.size _ | with_reducible exact D9.out.alloc D9.out.size _ | with_reducible exact below_drew ((Below.refl _ _).alloc (Nat.le_refl _) _) : Below w5.heap.size w5 _)).mono ?_; rintro e8 w8 ⟨vg, rfl, og, bg⟩; have D8 := hid ((by first | with_reducible exact D10.out | with_reducible exact D8.out | with_reducible exact D9.out | with_reducible exact D0.out | with_reducible exact D8.out.alloc D8.out.size _ | with_reducible exact D9.out.alloc D9.out.size _ | with_reducible exact below_drew ((Below.refl _ _).alloc (Nat.le_refl _) _) : Below w5.heap.size w5 _).trans (bg.mono (by first | with_reducible exact D10.out | with_reducible exact D8.out | with_reducible exact D9.out | with_reducible exact D0.out | with_reducible exact D8.out.alloc D8.out.size _ | with_reducible exact D9.out.alloc D9.out.size _ | with_reducible exact below_drew ((Below.refl _ _).alloc (Nat.le_refl _) _) : Below w5.heap.size w5 _).size)); have OG := hid (own_mono og (by first | with_reducible exact D10.out | with_reducible exact D8.out | with_reducible exact D9.out | with_reducible exact D0.out | with_reducible exact D8.out.alloc D8.out.size _ | with_reducible exact D9.out.alloc D9.out.size _ | with_reducible exact below_drew ((Below.refl _ _).alloc (Nat.le_refl _) _) : Below w5.heap.size w5 _).size); obtain ⟨Ag8, cg8, rfl, -⟩ := SlA.owned og; have BG := hid bg; obtain ⟨⟨r2, r3, r4, r5⟩, r6⟩ := HFZ.out _ D8.out; clear og bg)
            | (go_at_call 37; refine (HI.out _ (by first | with_reducible exact D10.out | with_reducible exact D8.out | with_reducible exact D9.out | with_reducible exact D0.out | with_reducible exact D8.out.alloc D8.out.size _ | with_reducible exact D9.out.alloc D9.out.size _ | with_reducible exact below_drew ((Below.refl _ _).alloc (Nat.le_refl _) _) : Below w5.heap.size w5 _)).mono ?_; rintro e9 w9 ⟨vp, rfl, op, bp⟩; have D9 := hid ((by first | with_reducible exact D10.out | with_reducible exact D8.out | with_reducible exact D9.out | with_reducible exact D0.out | with_reducible exact D8.out.alloc D8.out.size _ | with_reducible exact D9.out.alloc D9.out.size _ | with_reducible exact below_drew ((Below.refl _ _).alloc (Nat.le_refl _) _) : Below w5.heap.size w5 _).trans (bp.mono (by first | with_reducible exact D10.out | with_reducible exact D8.out | with_reducible exact D9.out | with_reducible exact D0.out | with_reducible exact D8.out.alloc D8.out.size _ | with_reducible exact D9.out.alloc D9.out.size _ | with_reducible exact below_drew ((Below.refl _ _).alloc (Nat.le_refl _) _) : Below w5.heap.size w5 _).size)); have OPL := hid (fun b hb => op.lt b hb); have OP := hid (own_mono op (by first | with_reducible exact D10.out | with_reducible exact D8.out | with_reducible exact D9.out | with_reducible exact D0.out | with_reducible exact D8.out.alloc D8.out.size _ | with_reducible exact D9.out.alloc D9.out.size _ | with_reducible exact below_drew ((Below.refl _ _).alloc (Nat.le_refl _) _) : Below w5.heap.size w5 _).size); obtain ⟨Ap9, cp9, rfl, -⟩ := SlA.owned op; have BP := hid bp; obtain ⟨⟨q2, q3, q4, q5⟩, q6⟩ := HFZ.out _ D9.out; clear op bp)
            | (go_at_call 43; refine (HS.out _ _ _ (by first | with_reducible exact OP.out | with_reducible exact OP.out.alloc _ | with_reducible exact own_ext OP.out BG.out | with_reducible exact own_ext (OP.out.alloc _) BG.out | with_reducible exact (own_ext OP.out BG.out).alloc _) (by first | with_reducible exact heap_alloc_new _ _ | with_reducible exact (BG.out.block _ (by simp)).trans (heap_alloc_new _ _) | with_reducible exact (BP.out.block _ (by simp)).trans (heap_alloc_new _ _) | with_reducible exact (BP.out.block _ (Nat.lt_of_lt_of_le (by simp) BG.out.size)).trans ((BG.out.block _ (by simp)).trans (heap_alloc_new _ _)) | with_reducible exact (BG.out.block _ (Nat.lt_of_lt_of_le (by simp) BP.out.size)).trans ((BP.out.block _ (by simp)).trans (heap_alloc_new _ _))) (by intro e; have h1 := OPL.out _ e; have h2 := BP.out.size; (try have h3 := BG.out.size); (try simp at h1); (try simp at h2); (try simp at h3); all_goals omega) (by first | with_reducible exact D10.out | with_reducible exact D8.out | with_reducible exact D9.out | with_reducible exact D0.out | with_reducible exact D8.out.alloc D8.out.size _ | with_reducible exact D9.out.alloc D9.out.size _ | with_reducible exact below_drew ((Below.refl _ _).alloc (Nat.le_refl _) _) : Below w5.heap.size w5 _).size).mono ?_; rintro e10 w10 ⟨vi, rfl, oi, gi, -⟩; have D10 := hid (Below.grown (by first | with_reducible exact D10.out | with_reducible exact D8.out | with_reducible exact D9.out | with_reducible exact D0.out | with_reducible exact D8.out.alloc D8.out.size _ | with_reducible exact D9.out.alloc D9.out.size _ | with_reducible exact below_drew ((Below.refl _ _).alloc (Nat.le_refl _) _) : Below w5.heap.size w5 _) gi (by first | with_reducible exact D10.out | with_reducible exact D8.out | with_reducible exact D9.out | with_reducible exact D0.out | with_reducible exact D8.out.alloc D8.out.size _ | with_reducible exact D9.out.alloc D9.out.size _ | with_reducible exact below_drew ((Below.refl _ _).alloc (Nat.le_refl _) _) : Below w5.heap.size w5 _).size (fun k hk => (OP.out.lt k hk).1)); have OI := hid oi; have GI := hid gi; obtain ⟨Ai, ci, rfl, -⟩ := SlA.owned oi; obtain ⟨⟨u2, u3, u4, u5⟩, u6⟩ := HFZ.out _ D10.out; clear oi gi))
          all_goals
            go_wp2_with fail
            go_meet
            have hin : (insL m.p lb nonce).length = m.p.length + 1 := insL_len _ _ _ HBS.out
            first
              | exact midS_of hs5 D10.out B5.out X5.out Y5.out (own_grown (by first | with_reducible exact OG.out | with_reducible exact OG.out.alloc _ | with_reducible exact own_ext OG.out BP.out | with_reducible exact own_ext (OG.out.alloc _) BP.out | with_reducible exact (own_ext OG.out BP.out).alloc _) GI.out (by first | with_reducible exact OP.out | with_reducible exact OP.out.alloc _ | with_reducible exact own_ext OP.out BG.out | with_reducible exact own_ext (OP.out.alloc _) BG.out | with_reducible exact (own_ext OP.out BG.out).alloc _) (by decide)) (by rw [hin]; exact OI.out) rfl
              | exact midS_of hs5 D8.out B5.out X5.out Y5.out OG.out (by rw [hin]; exact own_ext OI.out BG.out) rfl
        case rest =>
          obtain ⟨vg, vp, x7, y7, g7, p7, b7⟩ := hcut
          obtain ⟨Ag7, cg7, rfl, -⟩ := SlA.owned g7
          have hin : (insL m.p lb nonce).length = m.p.length + 1 := insL_len _ _ _ HBS.out
          have HIN := hid hin
          clear hin
          generalize insL m.p lb nonce = ip at *
          obtain ⟨Ap7, cp7, rfl, -⟩ := SlA.owned p7
          have X7 := hid x7; have Y7 := hid y7; have G7 := hid g7; have P7 := hid p7; have B7 := hid b7
          clear x7 y7 g7 p7 b7 HC HI HFZ HS D0 X5 Y5 B5 x0 x1 x2 x3 fx0 fx1 fx2 fx3
          obtain ⟨⟨x0, x1, x2, x3⟩, -⟩ := box4 X7.out
          obtain ⟨⟨y0, y1, y2, y3⟩, fy0, fy1, fy2, fy3⟩ := box4 Y7.out
          have hne1 : ¬ w.heap.size = w.heap.size + 1 := by omega
          go_wp2_with fail
          refine bodyPost_ret (v := .tuple #[.agg #[.int .i64 m.k, .int .i64 m.q, .slice Ag7 m.g.length cg7, .slice Ap7 ip.length cp7], .int .i64 0]) ?_ rfl ?_
          · rw [results_cell_tmp rfl]
            go_simp
          · rw [HR.out]
            exact spn_end X7.out Y7.out G7.out P7.out B7.out H.out.zlt
      · have HR := hid (show spF xs m nonce sig = (mt0, 81) by rw [HF4.out, hcon]; rfl)
        generalize lbI m.p nonce = lb at *
        obtain ⟨⟨y0, y1, y2, y3⟩, fy0, fy1, fy2, fy3⟩ := box4 Y5.out
        clear hcon
        go_wp2_with fail
        refine bodyPost_ret (v := .tuple #[.agg #[.int .i64 0, .int .i64 0, .slice none 0 0, .slice none 0 0], .int .i64 81]) ?_ rfl ?_
        · rw [results_cell_tmp rfl]
          go_simp
        · rw [HR.out]
          exact spn_stay (st4 B5.out (by omega) _ _ _ _)
    · have HR := hid (show spF xs m nonce sig = (mt0, 40) by
        rw [HF3.out, if_neg]
        simpa using hbad)
      have hq : (s0 != m.k) = true ∨ ((s0 != m.k) = false ∧ (s1 != nonce) = true) := by
        by_cases h1 : s0 = m.k
        · exact .inr ⟨by rw [bne_eq_false_iff_eq]; exact h1, bne_iff_ne.2 fun h2 => hbad ⟨h1, h2⟩⟩
        · exact .inl (bne_iff_ne.2 h1)
      clear hbad
      rcases hq with hq | ⟨hq, hq2⟩
      all_goals
        go_quiet (fail)
        go_wp2_with fail
        refine bodyPost_ret (v := .tuple #[.agg #[.int .i64 0, .int .i64 0, .slice none 0 0, .slice none 0 0], .int .i64 40]) ?_ rfl ?_
        · rw [results_cell_tmp rfl]
          go_simp
        · rw [HR.out]
          exact spn_stay (st4 (below_drewN B4.out _) (by omega) _ _ _ _)
  · have h10' : ((nodeF xs sig).o != 10) = true := bne_iff_ne.2 h10
    have HR := hid (show spF xs m nonce sig = (mt0, 40) by rw [HF2.out, beq_eq_false_iff_ne.2 h10]; rfl)
    clear h10
    generalize nodeF xs sig = x1 at *
    go_quiet (fail)
    go_wp2_with fail
    refine bodyPost_ret (v := .tuple #[.agg #[.int .i64 0, .int .i64 0, .slice none 0 0, .slice none 0 0], .int .i64 40]) ?_ rfl ?_
    · rw [results_cell_tmp rfl]
      go_simp
    · rw [HR.out]
      exact spn_stay (st4 (below_drewN B4.out _) (by omega) _ _ _ _)
end
end Go.Proofs.YtfmkniakfgpgjaaDoor

/- token's law: two. -/
namespace Go.Proofs.YtfmkniakfgpgjaaDoor
open Go.RowKit Go.KK Go.Shelf Go.Maps
set_option linter.unusedVariables false
set_option linter.unusedSimpArgs false

set_option maxHeartbeats 2000000 in
theorem two_any (w : World) (hT : Tb w.heap.size w) : Calls Tryd.prog 5 #[] w (TwoS 12 w) := by
  have HT := hid hT
  clear hT
  go_enter Tryd.func5, Tryd.ntmps5
  go_wp2_with fail
  refine (new_any _).mono ?_
  rintro e1 w1 ⟨Z1, sa, rfl, a1, z1, b1⟩
  have A1 := hid a1; have Z1' := hid z1; have B1 := hid b1
  clear a1 z1 b1
  go_wp2_with fail
  refine (rnew_any _).mono ?_
  rintro e2 w2 ⟨Z2, sb, rfl, a2, z2, b2⟩
  have HI := hid (show TwoI w sa sb 0 w2 from ⟨Z1, Z2, A1.out.ext b2, a2, fun b h1 h2 => by have := A1.out.zlt b h1; have := z2 b h2; omega, Z1'.out, fun b h => Nat.le_trans B1.out.size (z2 b h), B1.out.trans (b2.mono B1.out.size)⟩)
  clear a2 z2 b2 A1 Z1' B1
  go_wp2_with fail
  go_loopw [7] (fun i wr => ∃ j : Nat, i = .int .i64 j ∧ j ≤ 12 ∧ TwoI w sa sb j wr) (fun i _ => 12 - (intOf i).toNat)
  case atStart => exact ⟨0, rfl, by omega, HI.out⟩
  case round =>
    obtain ⟨j, hi, hj, hI⟩ := hrel
    subst hi
    have HJ := hid hI
    clear hI
    by_cases hlt : j < 12
    · obtain ⟨Z, Z', ha, hq, hd, hz, hz', hb⟩ := HJ.out
      have HA := hid ha; have HQ := hid hq; have HD := hid hd; have HZ := hid hz; have HZ' := hid hz'; have HB := hid hb
      clear ha hq hd hz hz' hb
      have i64 : I64 (j : Int) := ⟨by omega, by omega⟩
      have I := hid i64
      clear i64
      have hlt' : (j : Int) < 12 := by omega
      go_wp2_with fail
      refine (mke_any Z sa _ w.heap.size _ (atN (j : Int)) none 0 HA.out (SlA.nil _ _) (HT.out.on HB.out) HB.out.size (ndI_at I.out)).mono ?_
      rintro e3 w3 ⟨rfl, s3⟩
      obtain ⟨Z3, a3, q3, d3, z3, b3⟩ := twoI_a (by omega) HQ.out HD.out HZ.out HZ'.out HB.out s3
      have A3 := hid a3; have Q3 := hid q3; have D3 := hid d3; have ZZ3 := hid z3; have B3 := hid b3
      clear a3 q3 d3 z3 b3 s3
      go_wp2_with fail
      refine (ratom_any Z' sb _ _ (j : Int) Q3.out I.out).mono ?_
      rintro e4 w4 ⟨rfl, s4⟩
      have H4 := hid (twoI_b (by omega) A3.out D3.out ZZ3.out HZ'.out B3.out s4)
      clear s4
      go_wp2_with fail
      go_roundw
      case rel => exact ⟨j + 1, by go_num, by omega, H4.out⟩
      case measure => simp [intOf]; omega
    · have : j = 12 := by omega
      subst this
      go_wp2_with fail
      go_ret2
      exact ⟨sa, sb, rfl, HJ.out⟩
end Go.Proofs.YtfmkniakfgpgjaaDoor

/- token's law: what is carried from call to call. -/
namespace Go.Proofs.YtfmkniakfgpgjaaDoor
open Go.RowKit Go.KK Go.Shelf Go.Maps
set_option linter.unusedVariables false
set_option linter.unusedSimpArgs false

/-- The law's arena, and what the call has left alone. -/
structure LA (w0 W : World) (Z : Nat → Prop) (sa : Nat) (xs : List ND) : Prop where
  ar : AR W Z sa xs
  z : ∀ b, Z b → w0.heap.size ≤ b
  bl : Below w0.heap.size w0 W
/-- From one world to the next. -/
structure Mv (Z : Nat → Prop) (W : World) (Z' : Nat → Prop) (W' : World) : Prop where
  t : Turn Z W W'
  n : ∀ b, Z' b → Z b ∨ W.heap.size ≤ b
theorem Mv.below {Z : Nat → Prop} {W W' : World} (hb : Below W.heap.size W W') : Mv Z W Z W' := ⟨.of_below hb, fun _ h => .inl h⟩
section
variable {w0 W W' : World} {Z Z' : Nat → Prop} {sa : Nat} {xs xs' : List ND}
theorem LA.mv (h : LA w0 W Z sa xs) (m : Mv Z W Z' W') (ha : AR W' Z' sa xs') : LA w0 W' Z' sa xs' :=
  ⟨ha, fun b hb => (m.n b hb).elim (h.z b) fun h' => Nat.le_trans h.bl.size h', h.bl.trans (m.t.below h.z h.bl.size)⟩
theorem LA.ext (h : LA w0 W Z sa xs) (hb : Below W.heap.size W W') : LA w0 W' Z sa xs := h.mv (.below hb) (h.ar.ext hb)
theorem LA.alloc (h : LA w0 W Z sa xs) (o : Obj) : LA w0 (W.alloc o) Z sa xs := h.ext ((Below.refl _ _).alloc (Nat.le_refl _) o)
theorem LA.cx (h : LA w0 W Z sa xs) (hT : Tb w0.heap.size w0) : Cx w0.heap.size W Z := ⟨hT.on h.bl, h.bl.size, h.z⟩
theorem LA.sz (h : LA w0 W Z sa xs) : w0.heap.size ≤ W.heap.size := h.bl.size
theorem LA.of_two {n : Nat} {sb : Nat} (h : TwoI w0 sa sb n W) : ∃ Z, LA w0 W Z sa (atoms n) := by
  obtain ⟨Z, Z', h1, h2, h3, h4, h5, h6⟩ := h
  exact ⟨Z, h1, h4, h6⟩
end
/-- A mint in a variable. -/
structure MB (W : World) (Z : Nat → Prop) (b0 bm : Nat) (m : MT) (g p : Value) : Prop where
  row : W.ownsRow b0 31 4 (.slice (some ⟨bm, 0, none⟩) 1 1) 1 [.int .i64 m.k, .int .i64 m.q, g, p]
  mt : MtR W Z m g p
  nz : ¬ Z bm
section
variable {W W' : World} {Z Z' : Nat → Prop} {b0 bm : Nat} {m : MT} {g p : Value}
theorem MB.mv (h : MB W Z b0 bm m g p) (v : Mv Z W Z' W') : MB W' Z' b0 bm m g p :=
  ⟨own_block h.row fun b hb => v.t.block b (h.row.lt b hb).2 (fun hz => h.nz (by injection hb with hb; simp only at hb; rw [hb]; exact hz)), h.mt.turn v.t v.n, fun hz => (v.n bm hz).elim h.nz fun h' => by have := (h.row.lt bm rfl).2; omega⟩
theorem MB.ext (h : MB W Z b0 bm m g p) (hb : Below W.heap.size W W') : MB W' Z b0 bm m g p := h.mv (.below hb)
theorem MB.alloc (h : MB W Z b0 bm m g p) (o : Obj) : MB (W.alloc o) Z b0 bm m g p := h.ext ((Below.refl _ _).alloc (Nat.le_refl _) o)
theorem MB.new (h : MtR W Z m g p) (hz : ∀ b, Z b → b < W.heap.size) (hb : b0 ≤ W.heap.size) : MB (W.alloc (.cells #[.int .i64 m.k, .int .i64 m.q, g, p] 31)) Z b0 W.heap.size m g p :=
  ⟨⟨by simp, .inr ⟨W.heap.size, 1, _, rfl, hb, heap_alloc_new W _, Nat.le_refl _, by decide, rfl, by simp⟩⟩, h.ext ((Below.refl _ _).alloc (Nat.le_refl _) _), fun h => by have := hz _ h; omega⟩
theorem MB.cells (h : MB W Z b0 bm m g p) : W.cell? ⟨bm, 0, none⟩ = some (.int .i64 m.k) ∧ W.cell? ⟨bm, 1, none⟩ = some (.int .i64 m.q) ∧ W.cell? ⟨bm, 2, none⟩ = some g ∧ W.cell? ⟨bm, 3, none⟩ = some p := (box4 h.row).1
end
/-- Another mint is laid into the variable. -/
def put4 (W : World) (bm : Nat) (m : MT) (g p : Value) : World := (((W.setCell ⟨bm, 0, none⟩ (.int .i64 m.k)).setCell ⟨bm, 1, none⟩ (.int .i64 m.q)).setCell ⟨bm, 2, none⟩ g).setCell ⟨bm, 3, none⟩ p
section
variable {w0 W : World} {Z : Nat → Prop} {b0 bm sa : Nat} {xs : List ND} {m m' : MT} {g p g' p' : Value}
theorem put4_turn : Turn (fun b => b = bm) W (put4 W bm m g p) := ⟨rfl, rfl, rfl, by simp [put4], fun b _ hn => far4 W bm _ _ _ _ b hn⟩
theorem SlZ.put {size : Nat} {A : Option Addr} {n c : Nat} {cs : List Value} (h : SlZ W Z size A n c cs) (hn : ∀ b o, A = some ⟨b, o, none⟩ → b ≠ bm) : SlZ (put4 W bm m g p) Z size A n c cs := by
  refine ⟨⟨h.1.nc, h.1.cm, h.1.len, fun j u hj => ?_⟩, h.2⟩
  obtain ⟨b, off, rfl, hc⟩ := h.1.cells j u hj
  refine ⟨b, off, rfl, ?_⟩
  rw [World.cell?_of_block (a := ⟨b, off + j, none⟩) (show (put4 W bm m g p).heap[b]? = W.heap[b]? from far4 W bm _ _ _ _ b (hn b off rfl))]
  exact hc
theorem LA.put (h : LA w0 W Z sa xs) (hz : ¬ Z bm) (hb : w0.heap.size ≤ bm) : LA w0 (put4 W bm m g p) Z sa xs :=
  ⟨h.ar.turn put4_turn fun b h1 e => hz (e ▸ h1), h.z, h.bl.trans (put4_turn.below (fun b e => e ▸ hb) h.bl.size)⟩
theorem MB.put (h : MB W Z b0 bm m g p) (hm : MtR W Z m' g' p') (hn : ∀ b, g'.ownBlock = some b ∨ p'.ownBlock = some b → b ≠ bm) : MB (put4 W bm m' g' p') Z b0 bm m' g' p' := by
  refine ⟨?_, ?_, h.nz⟩
  · exact ((((h.row.stored 0 (.int .i64 m'.k)).1.stored 1 (.int .i64 m'.q)).1.stored 2 g').1.stored 3 p').1
  · obtain ⟨Ag, cg, Ap, cp, rfl, rfl, h1, h2⟩ := hm
    exact ⟨Ag, cg, Ap, cp, rfl, rfl, h1.put fun b o e => hn b (.inl (by subst e; rfl)), h2.put fun b o e => hn b (.inr (by subst e; rfl))⟩
theorem map_put {P : Program} {K : TypeId} {R : Value → Option (MD × List MemPlace)} {mb n : Nat} {D : MD} (h : W.ownsMap P K R mb n D) (hne : mb ≠ bm) : (put4 W bm m g p).ownsMap P K R mb n D := map_block h (far4 W bm _ _ _ _ mb hne)
end
/-- What the calls of the law leave. -/
def AfS (w0 W : World) (Z : Nat → Prop) (sa : Nat) (xs : List ND) (i er : Int) (e : Ending) (w' : World) : Prop := ∃ Z', e = .returned (.tuple #[.int .i64 i, .int .i64 er]) ∧ LA w0 w' Z' sa xs ∧ Mv Z W Z' w'
def AfI (w0 W : World) (Z : Nat → Prop) (sa : Nat) (xs : List ND) (i : Int) (m : MT) (er : Int) (e : Ending) (w' : World) : Prop := ∃ Z' g p, e = .returned (.tuple #[.int .i64 i, .agg #[.int .i64 m.k, .int .i64 m.q, g, p], .int .i64 er]) ∧ LA w0 w' Z' sa xs ∧ Mv Z W Z' w' ∧ MtR w' Z' m g p ∧ NewV W g p
def AfM (w0 W : World) (Z : Nat → Prop) (sa : Nat) (xs : List ND) (m : MT) (er : Int) (e : Ending) (w' : World) : Prop := ∃ g p, e = .returned (.tuple #[.agg #[.int .i64 m.k, .int .i64 m.q, g, p], .int .i64 er]) ∧ LA w0 w' Z sa xs ∧ Mv Z W Z w' ∧ MtR w' Z m g p ∧ NewV W g p
section
variable {w0 W : World} {Z : Nat → Prop} {sa : Nat} {xs : List ND}
theorem l_new (h : LA w0 W Z sa xs) {sk quota : Int} {m : MT} {er : Int} (hr : newF xs sk quota = (m, er)) (hg : m.g = []) (hp : m.p = []) :
    Calls Tryd.prog 6 #[.pointer (some ⟨sa, 0, none⟩), .int .i64 sk, .int .i64 quota] W (AfM w0 W Z sa xs m er) := by
  refine (tnew_any sa xs W sk quota h.ar.vw).mono ?_
  rintro e w' ⟨rfl, hb⟩
  rw [hr]
  obtain ⟨k, q, g, p⟩ := m
  subst hg; subst hp
  exact ⟨_, _, rfl, h.ext hb, .below hb, MtR.mt _ _ _ _, newV_nil _ _ _ _ _⟩
theorem l_ask (h : LA w0 W Z sa xs) (hT : Tb w0.heap.size w0) {nonce draw : Int} (hd : I64 draw) {xs' : List ND} {i er : Int} (hr : askF xs nonce draw = (xs', i, er)) :
    Calls Tryd.prog 11 #[.pointer (some ⟨sa, 0, none⟩), .int .i64 nonce, .int .i64 draw] W (AfS w0 W Z sa xs' i er) := by
  refine (ask_any Z sa xs w0.heap.size W nonce draw h.ar (h.cx hT) hd).mono ?_
  rintro e w' ⟨rfl, Z', h1, h2, h3⟩
  rw [hr] at h1 ⊢
  exact ⟨Z', rfl, h.mv ⟨h2, h3⟩ h1, ⟨h2, h3⟩⟩
theorem l_fin (h : LA w0 W Z sa xs) (hT : Tb w0.heap.size w0) {sig draw : Int} (hd : I64 draw) {xs' : List ND} {i er : Int} (hr : finF xs sig draw = (xs', i, er)) :
    Calls Tryd.prog 16 #[.pointer (some ⟨sa, 0, none⟩), .int .i64 sig, .int .i64 draw] W (AfS w0 W Z sa xs' i er) := by
  refine (fin_any Z sa xs w0.heap.size W sig draw h.ar (h.cx hT) hd).mono ?_
  rintro e w' ⟨rfl, Z', h1, h2, h3⟩
  rw [hr] at h1 ⊢
  exact ⟨Z', rfl, h.mv ⟨h2, h3⟩ h1, ⟨h2, h3⟩⟩
theorem l_iss (h : LA w0 W Z sa xs) (hT : Tb w0.heap.size w0) {m : MT} {g p : Value} {who asked : Int} (hm : MtR W Z m g p) (ho : MtO m) (ha : I64 asked) (hw : I64 who) {xs' : List ND} {i er : Int} {m' : MT} (hr : issF xs m who asked = (xs', i, m', er)) :
    Calls Tryd.prog 13 #[.pointer (some ⟨sa, 0, none⟩), .agg #[.int .i64 m.k, .int .i64 m.q, g, p], .int .i64 who, .int .i64 asked] W (AfI w0 W Z sa xs' i m' er) := by
  refine (issue_any Z sa xs w0.heap.size W m g p who asked h.ar (h.cx hT) hm ho ha hw).mono ?_
  rintro e w' ⟨Z', g', p', rfl, h1, h2, h3, h4, hnw⟩
  rw [hr] at h1 h4 ⊢
  exact ⟨Z', g', p', rfl, h.mv ⟨h2, h3⟩ h1, ⟨h2, h3⟩, h4, hnw⟩
theorem l_spend (h : LA w0 W Z sa xs) {m : MT} {g p : Value} {nonce sig : Int} (hm : MtR W Z m g p) (ho : MtO m) {er : Int} {m' : MT} (hr : spF xs m nonce sig = (m', er)) :
    Calls Tryd.prog 18 #[.pointer (some ⟨sa, 0, none⟩), .agg #[.int .i64 m.k, .int .i64 m.q, g, p], .int .i64 nonce, .int .i64 sig] W (AfM w0 W Z sa xs m' er) := by
  refine (spend_any Z sa xs W m g p nonce sig h.ar hm ho).mono ?_
  rintro e w' ⟨g', p', rfl, hb, h4, hnw⟩
  rw [hr] at h4 ⊢
  exact ⟨g', p', rfl, h.ext hb, .below hb, h4, hnw⟩
theorem l_had {m : MT} {g p : Value} (hm : MtR W Z m g p) (ho : MtO m) {A' : Option Addr} {n' c' : Nat} {l : List Int} (hl : SlA W 1 A' n' c' (l.map (.int .i64))) (hln : n' ≤ 1000) {r : Int} (hr : hadF m.g l = r) :
    Calls Tryd.prog 22 #[.agg #[.int .i64 m.k, .int .i64 m.q, g, p], .slice A' n' c'] W fun e w' => e = .returned (.int .i64 r) ∧ Below W.heap.size W w' := by
  obtain ⟨Ag, cg, Ap, cp, rfl, rfl, h1, h2⟩ := hm
  rw [← hr]
  exact had_any m Ag cg (.slice Ap m.p.length cp) A' n' c' l W h1.1 ho.s ho.b (by have := ho.n; omega) hl hln
end
theorem MtR.sh {w : World} {Z : Nat → Prop} {m : MT} {g p : Value} (h : MtR w Z m g p) (a b : Nat) (ha : m.g.length = a) (hb : m.p.length = b) : ∃ A c B d, g = .slice A a c ∧ p = .slice B b d := by
  obtain ⟨A, c, B, d, h1, h2, -⟩ := h
  exact ⟨A, c, B, d, by rw [h1, ha], by rw [h2, hb]⟩
theorem mtO_mt {k q : Int} (hk : I64 k) (hq : I64 q) : MtO ⟨k, q, [], []⟩ := ⟨hk, hq, .nil, fun c h => by simp at h, by simp, .nil, by simp, fun i h => by simp at h⟩
theorem mtO_one {k q a b : Int} {p : List Int} (hk : I64 k) (hq : I64 q) (hb : 0 ≤ b ∧ b ≤ 1000000) (hp : p.Pairwise (· < ·)) (hpn : p.length ≤ 1000) (hpi : ∀ i ∈ p, I64 i) : MtO ⟨k, q, [(a, b)], p⟩ :=
  ⟨hk, hq, .cons (fun c h => by simp at h) .nil, fun c h => by simp only [List.mem_singleton] at h; subst h; exact hb, by simp, hp, hpn, hpi⟩
end Go.Proofs.YtfmkniakfgpgjaaDoor

/- token's law: live. -/
namespace Go.Proofs.YtfmkniakfgpgjaaDoor
open Go.RowKit Go.KK Go.Shelf Go.Maps
set_option linter.unusedVariables false
set_option linter.unusedSimpArgs false

def lvA : List ND := atoms 12 ++ [atN 50, ndN 12 [1, 12]]
def lvB : List ND := lvA ++ [ndN 10 [0, 13]]
def lvC : List ND := lvB ++ [ndN 10 [0, 1]]
theorem lv_new : newF (atoms 12) 0 1 = (⟨0, 1, [], []⟩, 0) := by decide +kernel
theorem lv_ask : askF (atoms 12) 1 50 = (lvA, 13, 0) := by decide +kernel
theorem lv_iss : issF lvA ⟨0, 1, [], []⟩ 2 13 = (lvB, 14, ⟨0, 1, [(2, 1)], []⟩, 0) := by decide +kernel
theorem lv_iss2 : issF lvB ⟨0, 1, [(2, 1)], []⟩ 2 13 = (lvB, 0, ⟨0, 0, [], []⟩, 82) := by decide +kernel
theorem lv_fin : finF lvB 14 50 = (lvC, 15, 0) := by decide +kernel
theorem lv_sp : spF lvC ⟨0, 1, [(2, 1)], []⟩ 1 15 = (⟨0, 1, [(2, 1)], [1]⟩, 0) := by decide +kernel
theorem lv_sp2 : spF lvC ⟨0, 1, [(2, 1)], [1]⟩ 1 15 = (⟨0, 0, [], []⟩, 81) := by decide +kernel
theorem lv_had : hadF [(2, 1)] [2, 2] = 2 := by decide +kernel
theorem lm1 : MtO ⟨0, 1, [(2, 1)], []⟩ := mtO_one (i64_lit (by decide) (by decide)) (i64_lit (by decide) (by decide)) (by decide) .nil (by decide) (fun i h => by simp at h)
theorem lm2 : MtO ⟨0, 1, [(2, 1)], [1]⟩ := mtO_one (i64_lit (by decide) (by decide)) (i64_lit (by decide) (by decide)) (by decide) (.cons (fun c h => by simp at h) .nil) (by decide) (fun i h => by simp only [List.mem_singleton] at h; subst h; exact i64_lit (by decide) (by decide))
set_option maxHeartbeats 4000000 in
set_option maxRecDepth 100000 in
theorem live_any (w : World) (hT : Tb w.heap.size w) : Calls Tryd.prog 4 #[] w fun e w' => e = .returned (.bool true) ∧ Below w.heap.size w w' := by
  have HT := hid hT
  clear hT
  go_enter Tryd.func4, Tryd.ntmps4
  go_wp2_with fail
  refine (two_any w HT.out).mono ?_
  rintro e w1 ⟨sa, sb, rfl, ht⟩
  obtain ⟨Z0, hl⟩ := LA.of_two ht
  have LC := hid hl
  clear hl ht
  go_wp2_with fail
  refine (l_new LC.out (m := ⟨0, 1, [], []⟩) lv_new rfl rfl).mono ?_
  rintro e u1 ⟨g1, p1, rfl, hl, hv, hm, -⟩
  obtain ⟨a1, c1, b1, d1, rfl, rfl⟩ := hm.sh 0 0 rfl rfl
  have LX := hid hl; have MR := hid hm; have MV := hid hv; clear LC hl hm hv; have LC := LX; clear LX
  clear MV
  go_upto_region 5 with fail
  have L2 := hid (LC.out.alloc (.cells #[.int .i64 0, .int .i64 1, .slice a1 0 c1, .slice b1 0 d1] 31))
  have M0 := hid (MB.new (m := ⟨0, 1, [], []⟩) MR.out LC.out.ar.zlt LC.out.sz)
  clear LC MR; have LC := L2; clear L2
  change Hid (MB (u1.alloc (.cells #[.int .i64 0, .int .i64 1, .slice a1 0 c1, .slice b1 0 d1] 31)) _ _ u1.heap.size _ _ _) at M0
  generalize hb2 : u1.heap.size = b0 at *
  generalize u1.alloc (.cells #[.int .i64 0, .int .i64 1, .slice a1 0 c1, .slice b1 0 d1] 31) = V2 at *
  clear hb2
  go_wp2_with fail
  refine (l_ask LC.out HT.out (i64_lit (by decide) (by decide)) lv_ask).mono ?_
  rintro e u3 ⟨Z3, rfl, hl, hv⟩
  have LX := hid hl; have MV := hid hv; clear LC hl hv; have LC := LX; clear LX
  have M0x := hid (M0.out.mv MV.out); clear M0; have M0 := M0x; clear M0x
  clear MV
  obtain ⟨k0, k1, k2, k3⟩ := M0.out.cells
  go_wp2_with fail
  refine (l_iss LC.out HT.out M0.out.mt (mtO_mt (i64_lit (by decide) (by decide)) (i64_lit (by decide) (by decide))) (i64_lit (by decide) (by decide)) (i64_lit (by decide) (by decide)) (m' := ⟨0, 1, [(2, 1)], []⟩) lv_iss).mono ?_
  clear k0 k1 k2 k3
  rintro e u4 ⟨Z4, g4, p4, rfl, hl, hv, hm, -⟩
  obtain ⟨a4, c4, b4, d4, rfl, rfl⟩ := hm.sh 1 0 rfl rfl
  have LX := hid hl; have MR := hid hm; have MV := hid hv; clear LC hl hm hv; have LC := LX; clear LX
  have M0x := hid (M0.out.mv MV.out); clear M0; have M0 := M0x; clear M0x
  clear MV
  go_upto_region 7 with fail
  have L5 := hid (LC.out.alloc (.cells #[.int .i64 0, .int .i64 1, .slice a4 1 c4, .slice b4 0 d4] 31))
  have M1 := hid (MB.new (m := ⟨0, 1, [(2, 1)], []⟩) MR.out LC.out.ar.zlt LC.out.sz)
  have M0x := hid (M0.out.alloc (.cells #[.int .i64 0, .int .i64 1, .slice a4 1 c4, .slice b4 0 d4] 31)); clear M0; have M0 := M0x; clear M0x
  clear LC MR; have LC := L5; clear L5
  change Hid (MB (u4.alloc (.cells #[.int .i64 0, .int .i64 1, .slice a4 1 c4, .slice b4 0 d4] 31)) _ _ u4.heap.size _ _ _) at M1
  generalize hb5 : u4.heap.size = b1 at *
  generalize u4.alloc (.cells #[.int .i64 0, .int .i64 1, .slice a4 1 c4, .slice b4 0 d4] 31) = V5 at *
  clear hb5
  obtain ⟨k0, k1, k2, k3⟩ := M1.out.cells
  go_wp2_with fail
  refine (l_iss LC.out HT.out M1.out.mt lm1 (i64_lit (by decide) (by decide)) (i64_lit (by decide) (by decide)) (m' := ⟨0, 0, [], []⟩) lv_iss2).mono ?_
  clear k0 k1 k2 k3
  rintro e u6 ⟨Z6, g6, p6, rfl, hl, hv, hm, -⟩
  obtain ⟨a6, c6, b6, d6, rfl, rfl⟩ := hm.sh 0 0 rfl rfl
  have LX := hid hl; have MR := hid hm; have MV := hid hv; clear LC hl hm hv; have LC := LX; clear LX
  have M0x := hid (M0.out.mv MV.out); clear M0; have M0 := M0x; clear M0x
  have M1x := hid (M1.out.mv MV.out); clear M1; have M1 := M1x; clear M1x
  clear MV
  go_upto_region 8 with fail
  have L7 := hid (LC.out.alloc (.cells #[.int .i64 0, .int .i64 0, .slice a6 0 c6, .slice b6 0 d6] 31))
  have M2 := hid (MB.new (m := ⟨0, 0, [], []⟩) MR.out LC.out.ar.zlt LC.out.sz)
  have M0x := hid (M0.out.alloc (.cells #[.int .i64 0, .int .i64 0, .slice a6 0 c6, .slice b6 0 d6] 31)); clear M0; have M0 := M0x; clear M0x
  have M1x := hid (M1.out.alloc (.cells #[.int .i64 0, .int .i64 0, .slice a6 0 c6, .slice b6 0 d6] 31)); clear M1; have M1 := M1x; clear M1x
  clear LC MR; have LC := L7; clear L7
  change Hid (MB (u6.alloc (.cells #[.int .i64 0, .int .i64 0, .slice a6 0 c6, .slice b6 0 d6] 31)) _ _ u6.heap.size _ _ _) at M2
  generalize hb7 : u6.heap.size = b2 at *
  generalize u6.alloc (.cells #[.int .i64 0, .int .i64 0, .slice a6 0 c6, .slice b6 0 d6] 31) = V7 at *
  clear hb7
  go_wp2_with fail
  refine (l_fin LC.out HT.out (i64_lit (by decide) (by decide)) lv_fin).mono ?_
  rintro e u8 ⟨Z8, rfl, hl, hv⟩
  have LX := hid hl; have MV := hid hv; clear LC hl hv; have LC := LX; clear LX
  have M0x := hid (M0.out.mv MV.out); clear M0; have M0 := M0x; clear M0x
  have M1x := hid (M1.out.mv MV.out); clear M1; have M1 := M1x; clear M1x
  have M2x := hid (M2.out.mv MV.out); clear M2; have M2 := M2x; clear M2x
  clear MV
  obtain ⟨k0, k1, k2, k3⟩ := M1.out.cells
  go_wp2_with fail
  refine (l_spend LC.out M1.out.mt lm1 (m' := ⟨0, 1, [(2, 1)], [1]⟩) lv_sp).mono ?_
  clear k0 k1 k2 k3
  rintro e u9 ⟨g9, p9, rfl, hl, hv, hm, -⟩
  obtain ⟨a9, c9, b9, d9, rfl, rfl⟩ := hm.sh 1 1 rfl rfl
  have LX := hid hl; have MR := hid hm; have MV := hid hv; clear LC hl hm hv; have LC := LX; clear LX
  have M0x := hid (M0.out.mv MV.out); clear M0; have M0 := M0x; clear M0x
  have M1x := hid (M1.out.mv MV.out); clear M1; have M1 := M1x; clear M1x
  have M2x := hid (M2.out.mv MV.out); clear M2; have M2 := M2x; clear M2x
  clear MV
  go_upto_region 10 with fail
  have L10 := hid (LC.out.alloc (.cells #[.int .i64 0, .int .i64 1, .slice a9 1 c9, .slice b9 1 d9] 31))
  have M3 := hid (MB.new (m := ⟨0, 1, [(2, 1)], [1]⟩) MR.out LC.out.ar.zlt LC.out.sz)
  have M0x := hid (M0.out.alloc (.cells #[.int .i64 0, .int .i64 1, .slice a9 1 c9, .slice b9 1 d9] 31)); clear M0; have M0 := M0x; clear M0x
  have M1x := hid (M1.out.alloc (.cells #[.int .i64 0, .int .i64 1, .slice a9 1 c9, .slice b9 1 d9] 31)); clear M1; have M1 := M1x; clear M1x
  have M2x := hid (M2.out.alloc (.cells #[.int .i64 0, .int .i64 1, .slice a9 1 c9, .slice b9 1 d9] 31)); clear M2; have M2 := M2x; clear M2x
  clear LC MR; have LC := L10; clear L10
  change Hid (MB (u9.alloc (.cells #[.int .i64 0, .int .i64 1, .slice a9 1 c9, .slice b9 1 d9] 31)) _ _ u9.heap.size _ _ _) at M3
  generalize hb10 : u9.heap.size = b3 at *
  generalize u9.alloc (.cells #[.int .i64 0, .int .i64 1, .slice a9 1 c9, .slice b9 1 d9] 31) = V10 at *
  clear hb10
  obtain ⟨k0, k1, k2, k3⟩ := M3.out.cells
  go_wp2_with fail
  refine (l_spend LC.out M3.out.mt lm2 (m' := ⟨0, 0, [], []⟩) lv_sp2).mono ?_
  clear k0 k1 k2 k3
  rintro e u11 ⟨g11, p11, rfl, hl, hv, hm, -⟩
  obtain ⟨a11, c11, b11, d11, rfl, rfl⟩ := hm.sh 0 0 rfl rfl
  have LX := hid hl; have MR := hid hm; have MV := hid hv; clear LC hl hm hv; have LC := LX; clear LX
  have M0x := hid (M0.out.mv MV.out); clear M0; have M0 := M0x; clear M0x
  have M1x := hid (M1.out.mv MV.out); clear M1; have M1 := M1x; clear M1x
  have M2x := hid (M2.out.mv MV.out); clear M2; have M2 := M2x; clear M2x
  have M3x := hid (M3.out.mv MV.out); clear M3; have M3 := M3x; clear M3x
  clear MV
  go_upto_region 11 with fail
  have L12 := hid (LC.out.alloc (.cells #[.int .i64 0, .int .i64 0, .slice a11 0 c11, .slice b11 0 d11] 31))
  have M4 := hid (MB.new (m := ⟨0, 0, [], []⟩) MR.out LC.out.ar.zlt LC.out.sz)
  have M0x := hid (M0.out.alloc (.cells #[.int .i64 0, .int .i64 0, .slice a11 0 c11, .slice b11 0 d11] 31)); clear M0; have M0 := M0x; clear M0x
  have M1x := hid (M1.out.alloc (.cells #[.int .i64 0, .int .i64 0, .slice a11 0 c11, .slice b11 0 d11] 31)); clear M1; have M1 := M1x; clear M1x
  have M2x := hid (M2.out.alloc (.cells #[.int .i64 0, .int .i64 0, .slice a11 0 c11, .slice b11 0 d11] 31)); clear M2; have M2 := M2x; clear M2x
  have M3x := hid (M3.out.alloc (.cells #[.int .i64 0, .int .i64 0, .slice a11 0 c11, .slice b11 0 d11] 31)); clear M3; have M3 := M3x; clear M3x
  clear LC MR; have LC := L12; clear L12
  change Hid (MB (u11.alloc (.cells #[.int .i64 0, .int .i64 0, .slice a11 0 c11, .slice b11 0 d11] 31)) _ _ u11.heap.size _ _ _) at M4
  generalize hb12 : u11.heap.size = b4 at *
  generalize u11.alloc (.cells #[.int .i64 0, .int .i64 0, .slice a11 0 c11, .slice b11 0 d11] 31) = V12 at *
  clear hb12
  obtain ⟨k0, k1, k2, k3⟩ := M3.out.cells
  go_wp2_with fail
  refine (l_had (m := ⟨0, 1, [(2, 1)], [1]⟩) (M3.out.alloc (.cells #[.int .i64 2, .int .i64 2] 3)).mt lm2 (l := [2, 2]) (sla_row #[.int .i64 2, .int .i64 2] (by unfold maxLen; simp)) (by decide) lv_had).mono ?_
  rintro e uf ⟨rfl, hb⟩
  have HB := hid (LC.out.bl.trans ((((Below.refl _ _).alloc (Nat.le_refl _) (.cells #[.int .i64 2, .int .i64 2] 3)).trans (hb.mono (by simp))).mono LC.out.sz))
  clear hb k0 k1 k2 k3
  go_wp2_with fail
  go_ret
  exact ⟨rfl, HB.out⟩
end Go.Proofs.YtfmkniakfgpgjaaDoor

/- plain: TokenCounts: what each had. -/
namespace Go.Proofs.YtfmkniakfgpgjaaDoor
open Go.RowKit Go.KK Go.Shelf Go.Maps
set_option linter.unusedVariables false
set_option linter.unusedSimpArgs false

/-- 'incF' round by round. -/
def incR : List (Int × Int) → Int → List (Int × Int)
  | [], w => [(w, 1)]
  | c :: g, w => if c.1 < w then c :: incR g w else if c.1 = w then (w, c.2 + 1) :: g else (w, 1) :: c :: g
theorem lb_zero {g : List (Int × Int)} {w : Int} (h : ∀ c ∈ g, w ≤ c.1) : lbF g w = 0 := by
  unfold lbF
  rw [List.countP_eq_zero]
  intro c hc
  have := h c hc
  simp; omega
theorem is_gt {g : List (Int × Int)} {w : Int} (h : ∀ c ∈ g, w < c.1) : isF g w = false := by
  unfold isF
  rw [List.any_eq_false]
  intro c hc
  have := h c hc
  simp; omega
theorem inc_eq : ∀ {g : List (Int × Int)} (w : Int), CtS g → incF g w = incR g w
  | [], w, _ => rfl
  | c :: g, w, h => by
    obtain ⟨h1, h2⟩ := List.pairwise_cons.1 h
    have ih := inc_eq w h2
    unfold incR
    by_cases hc : c.1 < w
    · rw [if_pos hc, ← ih]
      have e1 : lbF (c :: g) w = lbF g w + 1 := by unfold lbF; rw [List.countP_cons, if_pos (by simpa using hc)]
      have e2 : isF (c :: g) w = isF g w := by unfold isF; rw [List.any_cons, beq_eq_false_iff_ne.2 (by omega), Bool.false_or]
      have e3 : cntF (c :: g) w = cntF g w := by unfold cntF; rw [List.find?_cons, beq_eq_false_iff_ne.2 (by omega)]
      unfold incF
      rw [e1, e2, e3, List.take_succ_cons, List.cons_append]
      congr 3
      cases isF g w <;> rfl
    · rw [if_neg hc]
      have hg : ∀ d ∈ g, w < d.1 := fun d hd => by have := h1 d hd; omega
      have e1 : lbF (c :: g) w = 0 := lb_zero fun d hd => by
        rcases List.mem_cons.1 hd with rfl | hd
        · omega
        · have := hg d hd; omega
      by_cases he : c.1 = w
      · rw [if_pos he]
        have e2 : isF (c :: g) w = true := by unfold isF; rw [List.any_cons, he]; simp
        have e3 : cntF (c :: g) w = c.2 := by unfold cntF; rw [List.find?_cons, he]; simp
        unfold incF
        rw [e1, e2, e3]; rfl
      · rw [if_neg he]
        have e2 : isF (c :: g) w = false := is_gt fun d hd => by
          rcases List.mem_cons.1 hd with rfl | hd
          · omega
          · exact hg d hd
        have e3 : cntF (c :: g) w = 0 := cnt_no e2
        unfold incF
        rw [e1, e2, e3]; rfl
theorem incR_mem : ∀ {g : List (Int × Int)} {w : Int} {d : Int × Int}, d ∈ incR g w → d.1 = w ∨ ∃ c ∈ g, c.1 = d.1
  | [], w, d, h => by unfold incR at h; rw [List.mem_singleton] at h; subst h; exact .inl rfl
  | c :: g, w, d, h => by
    unfold incR at h
    split at h
    · rcases List.mem_cons.1 h with rfl | h
      · exact .inr ⟨_, List.mem_cons_self .., rfl⟩
      · exact (incR_mem h).imp id fun ⟨x, hx, e⟩ => ⟨x, List.mem_cons_of_mem _ hx, e⟩
    · split at h
      · rcases List.mem_cons.1 h with rfl | h
        · exact .inl rfl
        · exact .inr ⟨d, List.mem_cons_of_mem _ h, rfl⟩
      · rcases List.mem_cons.1 h with rfl | h
        · exact .inl rfl
        · exact .inr ⟨d, h, rfl⟩
theorem incR_s : ∀ {g : List (Int × Int)} (w : Int), CtS g → CtS (incR g w)
  | [], w, _ => .cons (fun c h => by cases h) .nil
  | c :: g, w, h => by
    obtain ⟨h1, h2⟩ := List.pairwise_cons.1 h
    unfold incR
    split
    · rename_i hc
      refine .cons (fun d hd => ?_) (incR_s w h2)
      rcases incR_mem hd with e | ⟨x, hx, e⟩
      · rw [e]; exact hc
      · rw [← e]; exact h1 x hx
    · split
      · rename_i hc he
        exact .cons (fun d hd => by have := h1 d hd; show w < d.1; omega) h2
      · rename_i hc he
        refine .cons (fun d hd => ?_) h
        rcases List.mem_cons.1 hd with rfl | hd
        · show w < d.1; omega
        · have := h1 d hd; show w < d.1; omega
theorem cnt_cons (c : Int × Int) (g : List (Int × Int)) (v : Int) : cntF (c :: g) v = if c.1 = v then c.2 else cntF g v := by
  unfold cntF
  rw [List.find?_cons]
  by_cases h : c.1 = v
  · rw [if_pos h, h]; simp
  · rw [if_neg h, beq_eq_false_iff_ne.2 h]
theorem is_cons (c : Int × Int) (g : List (Int × Int)) (v : Int) : isF (c :: g) v = (c.1 == v || isF g v) := by unfold isF; rw [List.any_cons]
theorem incR_cnt : ∀ {g : List (Int × Int)} (w : Int), CtS g → ∀ v, cntF (incR g w) v = if w = v then cntF g w + 1 else cntF g v
  | [], w, _, v => by unfold incR; rw [cnt_cons]; split <;> simp [cntF]
  | c :: g, w, h, v => by
    obtain ⟨h1, h2⟩ := List.pairwise_cons.1 h
    unfold incR
    split
    · rename_i hc
      rw [cnt_cons, incR_cnt w h2, cnt_cons c g v, cnt_cons c g w, if_neg (show ¬ c.1 = w by omega)]
      by_cases hv : w = v
      · subst hv
        rw [if_neg (by omega), if_pos rfl, if_pos rfl]
      · rw [if_neg hv, if_neg hv]
    · split
      · rename_i hc he
        rw [cnt_cons, cnt_cons c g w, if_pos he, cnt_cons c g v]
        by_cases hv : w = v
        · rw [if_pos hv, if_pos hv]
        · rw [if_neg hv, if_neg hv, if_neg (by omega)]
      · rename_i hc he
        have hz : cntF (c :: g) w = 0 := cnt_no (is_gt fun d hd => by
          rcases List.mem_cons.1 hd with rfl | hd
          · omega
          · have := h1 d hd; omega)
        rw [cnt_cons, hz]
        by_cases hv : w = v
        · rw [if_pos hv, if_pos hv]; rfl
        · rw [if_neg hv, if_neg hv]
theorem incR_is : ∀ {g : List (Int × Int)} (w : Int), ∀ v, isF (incR g w) v = (w == v || isF g v)
  | [], w, v => by unfold incR; rw [is_cons]
  | c :: g, w, v => by
    unfold incR
    split
    · rw [is_cons, incR_is w v, is_cons]
      cases (c.1 == v) <;> cases (w == v) <;> rfl
    · split
      · rename_i hc he
        rw [is_cons, is_cons, he]
        cases (w == v) <;> rfl
      · rw [is_cons]
/-- The counts of whom there was given. -/
structure CG (ws : List Int) (g : List (Int × Int)) : Prop where
  s : CtS g
  c : ∀ v, cntF g v = (ws.count v : Int)
  i : ∀ v, isF g v = ws.contains v
  n : g.length ≤ ws.length
theorem CG.snoc {ws : List Int} {g : List (Int × Int)} (h : CG ws g) (w : Int) : CG (ws ++ [w]) (incF g w) := by
  have hl := inc_len h.s w
  rw [inc_eq w h.s] at hl ⊢
  refine ⟨incR_s w h.s, fun v => ?_, fun v => ?_, ?_⟩
  · rw [incR_cnt w h.s, h.c, h.c, List.count_append, List.count_singleton]
    by_cases hv : w = v
    · subst hv; simp
    · rw [if_neg hv, beq_eq_false_iff_ne.2 hv]; simp
  · rw [incR_is, h.i, List.contains_append]
    have : ([w] : List Int).contains v = (w == v) := by
      rw [List.contains_cons]
      by_cases hv : w = v
      · subst hv; simp
      · rw [beq_eq_false_iff_ne.2 hv, beq_eq_false_iff_ne.2 (Ne.symm hv)]; rfl
    rw [this, Bool.or_comm]
  · rw [hl, List.length_append]
    have := h.n
    split <;> simp <;> omega
/-- The map of the counts. -/
structure CM (D : MD) (ws : List Int) : Prop where
  t : Tidy D
  a : ∀ v, D.atKey (.int .i64 v) (.lit (.int .i64 0)) = .lit (.int .i64 (ws.count v : Int))
  h : ∀ v, Maps.has D (.int .i64 v) = ws.contains v
theorem CM.put {D : MD} {ws : List Int} (h : CM D ws) (w : Int) {c : Int} (hc : c = (ws.count w : Int) + 1) : CM (D.put (.int .i64 w) (.lit (.int .i64 c))) (ws ++ [w]) := by
  refine ⟨h.t.put (by trivial) _, fun v => ?_, fun v => ?_⟩
  · by_cases hv : v = w
    · subst hv
      rw [Maps.atKey_put_same h.t.isMap (by trivial), hc, List.count_append, List.count_singleton]
      simp
    · rw [Maps.atKey_put_other (fun e => hv (by injection e)), h.a, List.count_append, List.count_singleton, beq_eq_false_iff_ne.2 (Ne.symm hv)]
      simp
  · rw [List.contains_append]
    have : ([w] : List Int).contains v = (v == w) := by rw [List.contains_cons]; simp
    rw [this]
    by_cases hv : v = w
    · subst hv
      rw [Maps.has_put_same h.t.isMap (by trivial)]; simp
    · rw [Maps.has_put_other (fun e => hv (by injection e)), h.h, beq_eq_false_iff_ne.2 hv, Bool.or_false]
/-- As many entries as counts. -/
structure CS (D : MD) (ws : List Int) (g : List (Int × Int)) : Prop extends CM D ws, CG ws g where
  z : Maps.size D = g.length
theorem CS.snoc {D : MD} {ws : List Int} {g : List (Int × Int)} (h : CS D ws g) (w : Int) {c : Int} (hc : c = (ws.count w : Int) + 1) : CS (D.put (.int .i64 w) (.lit (.int .i64 c))) (ws ++ [w]) (incF g w) := by
  refine { toCM := h.toCM.put w hc, toCG := h.toCG.snoc w, z := ?_ }
  rw [size_put h.t, h.h, inc_len h.s, h.i, h.z]
theorem wrap_id {y : Int} (h1 : -9223372036854775808 ≤ y) (h2 : y ≤ 9223372036854775807) : RowKit.wrap64 y = y := by
  unfold RowKit.wrap64; omega
end Go.Proofs.YtfmkniakfgpgjaaDoor

