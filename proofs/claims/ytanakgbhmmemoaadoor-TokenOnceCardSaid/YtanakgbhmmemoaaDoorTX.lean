/- token's law: TokenCounts, walked. -/
import Derived.Test.YtanakgbhmmemoaaDoorTC
import Derived.Test.YtanakgbhmmemoaaDoorPC
import Derived.Maps.OwnOps
import Derived.Deep.DeepCutAuto
namespace Go.Proofs.YtanakgbhmmemoaaDoor
open Go.RowKit Go.KK Go.Shelf Go.Maps
set_option linter.unusedVariables false
set_option linter.unusedSimpArgs false

theorem lawI : Keyed Tryd.prog 3 := int_keyed Tryd.underlying3
/-- Whom the first j were for. -/
def wsL (l : List Int) (j : Nat) : List Int := (l.take j).map whoF
theorem wsL_snoc {l : List Int} {j : Nat} {x : Int} (h : l[j]? = some x) : wsL l (j + 1) = wsL l j ++ [whoF x] := by
  unfold wsL; rw [List.take_add_one, h]; simp
theorem wsL_len (l : List Int) (j : Nat) : (wsL l j).length ≤ j := by unfold wsL; simp; omega
theorem wsL_in (l : List Int) (j : Nat) : ∀ w ∈ wsL l j, 2 ≤ w ∧ w ≤ 7 := by
  intro w h
  obtain ⟨x, _, rfl⟩ := List.mem_map.1 h
  exact whoF_in x
/-- A fact of the arena stays, where nothing of its own has turned. -/
theorem LA.turn {w0 W W' : World} {Z F : Nat → Prop} {sa : Nat} {xs : List ND} (h : LA w0 W Z sa xs) (ht : Turn F W W') (hd : ∀ b, Z b → ¬ F b) (hf : ∀ b, F b → w0.heap.size ≤ b) : LA w0 W' Z sa xs :=
  ⟨h.ar.turn ht hd, h.z, h.bl.trans (ht.below hf h.bl.size)⟩
theorem SlZ.far {W W' : World} {Z F : Nat → Prop} {size : Nat} {A : Option Addr} {n c : Nat} {cs : List Value} (h : SlZ W Z size A n c cs) (ht : Turn F W W') (hn : ∀ b o, A = some ⟨b, o, none⟩ → ¬ F b) : SlZ W' Z size A n c cs := by
  refine ⟨⟨h.1.nc, h.1.cm, h.1.len, fun j u hj => ?_⟩, h.2⟩
  obtain ⟨b, off, rfl, hc⟩ := h.1.cells j u hj
  refine ⟨b, off, rfl, ?_⟩
  rw [World.cell?_of_block (a := ⟨b, off + j, none⟩) (ht.block b (block_lt_of_cell hc) (hn b off rfl))]
  exact hc
theorem MB.turn {W W' : World} {Z F : Nat → Prop} {b0 bm : Nat} {m : MT} {g p : Value} (h : MB W Z b0 bm m g p) (ht : Turn F W W') (h1 : ¬ F bm) (h2 : ∀ b, g.ownBlock = some b ∨ p.ownBlock = some b → ¬ F b) : MB W' Z b0 bm m g p := by
  refine ⟨own_block h.row fun b hb => ht.block b (h.row.lt b hb).2 (by injection hb with hb; simp only at hb; rw [← hb]; exact h1), ?_, h.nz⟩
  obtain ⟨Ag, cg, Ap, cp, rfl, rfl, s1, s2⟩ := h.mt
  exact ⟨Ag, cg, Ap, cp, rfl, rfl, s1.far ht fun b o e => h2 b (.inl (by subst e; rfl)), s2.far ht fun b o e => h2 b (.inr (by subst e; rfl))⟩
theorem map_lt {P : Program} {K : TypeId} {R : Value → Option (MD × List MemPlace)} {w : World} {mb n : Nat} {D : MD} (h : w.ownsMap P K R mb n D) : mb < w.heap.size := by
  obtain ⟨es, clock, h1, h2⟩ := h
  exact (Array.getElem?_eq_some_iff.1 h1).1
theorem MB.lt {W : World} {Z : Nat → Prop} {b0 bm : Nat} {m : MT} {g p : Value} (h : MB W Z b0 bm m g p) : b0 ≤ bm ∧ bm < W.heap.size := h.row.lt bm rfl
/-- The arena, a mint in its variable, a map of numbers. -/
structure C3 (w wr : World) (sa bm mb : Nat) (X : List ND) (Z : Nat → Prop) (m : MT) (gv pv : Value) (k : Nat) (D : MD) : Prop where
  la : LA w wr Z sa X
  m : MB wr Z w.heap.size bm m gv pv
  o : wr.ownsMap Tryd.prog 3 (plainElem Tryd.prog 3) mb k D
  nz : ¬ Z mb
  ne : mb ≠ bm
  nb : ∀ b, gv.ownBlock = some b ∨ pv.ownBlock = some b → b ≠ mb
  mb0 : w.heap.size ≤ mb
section
variable {w wr W : World} {sa bm mb k : Nat} {X X' : List ND} {Z Z' : Nat → Prop} {m m' : MT} {gv pv gv' pv' : Value} {D D' : MD}
theorem C3.ext (h : C3 w wr sa bm mb X Z m gv pv k D) (hb : Below wr.heap.size wr W) : C3 w W sa bm mb X Z m gv pv k D :=
  ⟨h.la.ext hb, h.m.ext hb, map_block h.o (hb.block mb (map_lt h.o)), h.nz, h.ne, h.nb, h.mb0⟩
theorem C3.mv (h : C3 w wr sa bm mb X Z m gv pv k D) (hl : LA w W Z' sa X') (hv : Mv Z wr Z' W) : C3 w W sa bm mb X' Z' m gv pv k D :=
  ⟨hl, h.m.mv hv, map_block h.o (hv.t.block mb (map_lt h.o) h.nz), fun hz => (hv.n mb hz).elim h.nz fun h' => by have := map_lt h.o; omega, h.ne, h.nb, h.mb0⟩
/-- The new mint is laid into the variable. -/
theorem C3.put (h : C3 w wr sa bm mb X Z m gv pv k D) (hm : MtR wr Z m' gv' pv') (hn : ∀ b, gv'.ownBlock = some b ∨ pv'.ownBlock = some b → b ≠ bm ∧ b ≠ mb) : C3 w (put4 wr bm m' gv' pv') sa bm mb X Z m' gv' pv' k D :=
  ⟨h.la.put h.m.nz h.m.lt.1, h.m.put hm fun b hb => (hn b hb).1, map_put h.o h.ne, h.nz, h.ne, fun b hb => (hn b hb).2, h.mb0⟩
/-- The map has turned. -/
theorem C3.upd (h : C3 w wr sa bm mb X Z m gv pv k D) (ho : W.ownsMap Tryd.prog 3 (plainElem Tryd.prog 3) mb (k + 1) D') (hg : wr.grownBy W (some mb)) : C3 w W sa bm mb X Z m gv pv (k + 1) D' := by
  have ht : Turn (fun b => b = mb) wr W := Turn.grown hg fun b hb => .inl (by injection hb with hb; exact hb.symm)
  exact ⟨h.la.turn ht (fun b hz e => h.nz (e ▸ hz)) (fun b e => e ▸ h.mb0), h.m.turn ht (fun e => h.ne e.symm) h.nb, ho, h.nz, h.ne, h.nb, h.mb0⟩
end
/-- A new mint, its lists nil. -/
theorem l_newN {w0 W : World} {Z : Nat → Prop} {sa : Nat} {xs : List ND} (h : LA w0 W Z sa xs) {sk quota : Int} (hr : newF xs sk quota = (⟨sk, quota, [], []⟩, 0)) :
    Calls Tryd.prog 10 #[.pointer (some ⟨sa, 0, none⟩), .int .i64 sk, .int .i64 quota] W fun e w' => e = .returned (.tuple #[.agg #[.int .i64 sk, .int .i64 quota, .slice none 0 0, .slice none 0 0], .int .i64 0]) ∧ LA w0 w' Z sa xs ∧ Mv Z W Z w' := by
  refine (tnew_any sa xs W sk quota h.ar.vw).mono ?_
  rintro e w' ⟨rfl, hb⟩
  rw [hr]
  exact ⟨rfl, h.ext hb, .below hb⟩
theorem MtR.gA {w : World} {Z : Nat → Prop} {m : MT} {A : Option Addr} {n c : Nat} {p : Value} (h : MtR w Z m (.slice A n c) p) : SlA w 2 A m.g.length c (cts m.g) := by
  obtain ⟨Ag, cg, Ap, cp, e, rfl, s1, s2⟩ := h
  injection e with e1 e2 e3
  subst e1; subst e2; subst e3
  exact s1.1
theorem litI_inj {a b : Int} (h : (DataW.lit (.int .i64 a) : MD) = .lit (.int .i64 b)) : a = b := by
  injection h with h
  injection h
theorem wf64 {y : Int} (h1 : -9223372036854775808 ≤ y) (h2 : y ≤ 9223372036854775807) : (Lit.int .i64 y).wf = true := by
  have := wrap64_wf y
  rwa [wrap_id h1 h2] at this
theorem look_eq {w W : World} {mb k : Nat} {D : MD} {x y : Int} (h : w.ownsMap Tryd.prog 3 (plainElem Tryd.prog 3) mb k D) (ha : D.atKey (.int .i64 x) (.lit (.int .i64 0)) = .lit (.int .i64 y)) (hk : keyOf Tryd.prog 3 (.int .i64 x) = some (.int .i64 x)) (hb : W.heap[mb]? = w.heap[mb]?) :
    (Instr.lookup 56 (.map (some mb)) (.int .i64 x) false).run Tryd.prog W = .ok (.int .i64 y) W := by
  obtain ⟨c, hrun, hat, _⟩ := (map_block (w' := W) h hb).lookup_int lawI Tryd.underlying56 Tryd.underlying3 (zeroI W) hk
  have := litI_inj (ha.symm.trans hat)
  subst this
  exact hrun
set_option maxHeartbeats 8000000 in
set_option maxRecDepth 100000 in
theorem counts_go (A : Option Addr) (n c : Nat) (l : List Int) (k : Int) (w : World) (hl : SlA w 1 A n c (l.map (.int .i64))) (hT : Tb w.heap.size w) : Calls Tryd.prog 6 #[.slice A n c, .int .i64 k] w fun e w' => e = .returned (.bool true) ∧ Below w.heap.size w w' := by
  have hln := hl.lenI
  have HT := hid hT; have HL := hid hl
  have HLV := hid (live_any w hT)
  clear hT hl
  by_cases hbig : 30 < n
  · have hb' : (30 : Int) < (n : Int) := by omega
    clear hbig
    go_enter Tryd.func6, Tryd.ntmps6
    go_wp2_with fail
    refine HLV.out.mono ?_
    rintro e w1 ⟨rfl, b1⟩
    have HB := hid b1
    clear b1
    go_wp2_with fail
    go_ret
    exact ⟨rfl, HB.out⟩
  have hb' : ¬ (30 : Int) < (n : Int) := by omega
  have hmm := @run_makeMap Tryd.prog
  go_enter Tryd.func6, Tryd.ntmps6
  go_wp2_with fail
  refine HLV.out.mono ?_
  rintro e w1 ⟨rfl, b1⟩
  have HB := hid b1
  clear b1
  go_wp2_with fail
  refine (two_any _ (Tb.up (HT.out.on HB.out) HB.out.size)).mono ?_
  rintro e w2 ⟨sa, sb, rfl, ht⟩
  obtain ⟨Z0, hl⟩ := LA.of_two ht
  have LX := hid (show LA w w2 Z0 sa (atoms 12) from ⟨hl.ar, fun b hb => Nat.le_trans HB.out.size (hl.z b hb), HB.out.trans (hl.bl.mono HB.out.size)⟩)
  have LC := LX
  clear hl ht LX HB
  go_wp2_with fail
  refine (l_newN LC.out cn_new).mono ?_
  rintro e u1 ⟨rfl, hl, hv⟩
  have LX := hid hl; clear LC hl hv; have LC := LX; clear LX
  go_upto_region 6 with fail
  have L2 := hid (LC.out.alloc (.cells #[.int .i64 0, .int .i64 100, .slice none 0 0, .slice none 0 0] 31))
  have M0 := hid (MB.new (m := ⟨0, 100, [], []⟩) (MtR.mt u1 Z0 0 100) LC.out.ar.zlt LC.out.sz)
  clear LC; have LC := L2; clear L2
  change Hid (MB (u1.alloc (.cells #[.int .i64 0, .int .i64 100, .slice none 0 0, .slice none 0 0] 31)) _ _ u1.heap.size _ _ _) at M0
  generalize hbm : u1.heap.size = bm at *
  generalize u1.alloc (.cells #[.int .i64 0, .int .i64 100, .slice none 0 0, .slice none 0 0] 31) = V2 at *
  clear hbm
  go_wp2_with fail
  refine (l_ask LC.out HT.out (i64_lit (by decide) (by decide)) cn_ask).mono ?_
  rintro e u3 ⟨Z3, rfl, hl, hv⟩
  have LX := hid hl; have MV := hid hv; clear LC hl hv; have LC := LX; clear LX
  have M0x := hid (M0.out.mv MV.out); clear M0; have M0 := M0x; clear M0x
  clear MV
  go_upto_region 10 with fail
  have HC3 := hid (show C3 w (u3.alloc (.map #[] 0)) sa bm u3.heap.size (cnX 0) Z3 ⟨0, 100, [], []⟩ (.slice none 0 0) (.slice none 0 0) 0 (.map []) from
    ⟨LC.out.alloc _, M0.out.alloc _, World.ownsMap_made _ _ _ _, fun h => by have := LC.out.ar.zlt _ h; omega, by have := M0.out.lt; omega, fun b h => by (rcases h with h | h <;> cases h), LC.out.sz⟩)
  generalize u3.heap.size = mb at *
  generalize u3.alloc (.map #[] 0) = V4 at *
  clear LC M0
  go_upto_region 11 with fail
  go_loopw [49] (fun v wr => ∃ (j : Nat) (Z : Nat → Prop) (g : List (Int × Int)) (gv pv : Value) (D : MD), v = .int .i64 j ∧ j ≤ n ∧ C3 w wr sa bm mb (cnX j) Z ⟨0, 100, g, []⟩ gv pv j D ∧ CS D (wsL l j) g) (fun v _ => n - (intOf v).toNat)
  case atStart => exact ⟨0, _, _, _, _, _, rfl, Nat.zero_le _, HC3.out, cs_nil⟩
  case round =>
    obtain ⟨j, Z, g, gv, pv, D, hv, hj, hcw, hcs⟩ := hrel
    subst hv
    have HC := hid hcw
    have HS := hid hcs
    clear hcw hcs
    by_cases hlt : j < n
    · obtain ⟨b, off, x, rfl, hx, hc0⟩ := HL.out.elemI hlt
      have hcx : wr.cell? ⟨b, off + j, none⟩ = some (.int .i64 x) := (HC.out.la.bl.cell (p := ⟨b, off + j, none⟩) (block_lt_of_cell hc0)).trans hc0
      have HX := hid hx
      clear hc0 hx
      have hlt' : (j : Int) < (n : Int) := by omega
      have HWD : Hid (RowKit.wrap64 (2 + (RowKit.wrap64 (x.tmod 6 + 6)).tmod 6) = whoF x) := hid rfl
      go_upto_region 14 with fail
      generalize RowKit.wrap64 (2 + (RowKit.wrap64 (x.tmod 6 + 6)).tmod 6) = who at *
      have HW := hid (show 2 ≤ who ∧ who ≤ 7 from by rw [HWD.out]; exact whoF_in x)
      have HWS := hid (show wsL l (j + 1) = wsL l j ++ [who] from by rw [HWD.out]; exact wsL_snoc HX.out)
      have HCL := hid (show cntF g who < 100 from by
        have h1 := HS.out.toCG.c who
        have h2 := List.count_le_length (a := who) (l := wsL l j)
        have h3 := wsL_len l j
        omega)
      have HOK := hid (HS.out.toCG.mto (q := 100) (by have := wsL_len l j; omega) (i64_lit (by decide) (by decide)))
      have HS1 := hid (HS.out.toCG.snoc who)
      have HOK1 := hid (HS1.out.mto (q := 100) (by have := wsL_len l j; simp; omega) (i64_lit (by decide) (by decide)))
      have HWI := hid (show I64 who from ⟨by have := HW.out; omega, by have := HW.out; omega⟩)
      obtain ⟨k0, k1, k2, k3⟩ := HC.out.m.cells
      go_wp2_with fail
      refine (l_iss HC.out.la HT.out HC.out.m.mt HOK.out (i64_lit (by decide) (by decide)) HWI.out (m' := ⟨0, 100, incF g who, []⟩) (cn_iss j HW.out.1 HW.out.2 HCL.out)).mono ?_
      clear k0 k1 k2 k3
      rintro e u6 ⟨Z6, g6, p6, rfl, hl6, hv6, hm6, hn6⟩
      obtain ⟨a6, c6, b6, d6, rfl, rfl⟩ := hm6.sh _ _ rfl rfl
      have HC6 := hid (HC.out.mv hl6 hv6)
      have MR := hid hm6
      have HN := hid (show ∀ q, (Value.slice a6 (incF g who).length c6).ownBlock = some q ∨ (Value.slice b6 0 d6).ownBlock = some q → q ≠ bm ∧ q ≠ mb from fun q hq => by
        have h1 := hn6 q hq
        have h2 := HC.out.m.lt
        have h3 := map_lt HC.out.o
        omega)
      clear hl6 hv6 hm6 hn6
      go_upto_region 17 with fail
      have HC7 := hid (HC6.out.ext ((Below.refl _ _).alloc (Nat.le_refl _) (.cells #[.int .i64 0, .int .i64 100, .slice a6 (incF g who).length c6, .slice b6 0 d6] 31)))
      have M7 := hid (MB.new (m := ⟨0, 100, incF g who, []⟩) MR.out HC6.out.la.ar.zlt HC6.out.la.sz)
      change Hid (MB (u6.alloc (.cells #[.int .i64 0, .int .i64 100, .slice a6 (incF g who).length c6, .slice b6 0 d6] 31)) _ _ u6.heap.size _ _ _) at M7
      generalize hbo : u6.heap.size = bo at *
      generalize u6.alloc (.cells #[.int .i64 0, .int .i64 100, .slice a6 (incF g who).length c6, .slice b6 0 d6] 31) = V7 at *
      clear hbo HC6 MR
      obtain ⟨k0, k1, k2, k3⟩ := M7.out.cells
      obtain ⟨⟨z0, z1, z2, z3⟩, f0, f1, f2, f3⟩ := box4 HC7.out.m.row
      have HP := hid (HC7.out.put M7.out.mt HN.out)
      go_upto_region 18 with fail
      refine forget (R := fun W => C3 w W sa bm mb (cnX (j + 1)) Z6 ⟨0, 100, incF g who, []⟩ (.slice a6 (incF g who).length c6) (.slice b6 0 d6) j D) ?_ HP.out
      clear HP HC7 M7 k0 k1 k2 k3 f0 f1 f2 f3 z0 z1 z2 z3
      intro W8 h8
      have HC8 := hid h8
      clear h8
      have HKEY := hid (keyOf_int_mk (a := who) Tryd.underlying3 (wf64 (by have := HW.out; omega) (by have := HW.out; omega)))
      have HAT := hid (HS.out.toCM.a who)
      have HCB := hid (show (List.count who (wsL l j) : Int) ≤ 30 from by
        have h2 := List.count_le_length (a := who) (l := wsL l j)
        have h3 := wsL_len l j
        omega)
      go_wp2_with (first
        | (at_lookup; refine wpList_lookup_own_int _ rfl _ _ 56 rfl 3 3 .i64 lawI Tryd.underlying56 Tryd.underlying3 (zeroI _) mb _ D rfl HC8.out.o _ _ rfl HKEY.out ?_; intro cc hat hwc; have HCC := hid (litI_inj (HAT.out.symm.trans hat)); clear hat hwc)
        | (at_mapUpdate; refine wpList_mapUpdate_own _ rfl _ _ _ 56 rfl 3 3 lawI Tryd.underlying56 _ mb j D rfl HC8.out.o (by unfold maxLen; omega) _ _ (.int .i64 who) rfl rfl HKEY.out (.lit (.int .i64 (RowKit.wrap64 (cc + 1)))) [] (plainElem_int Tryd.underlying3 (wrap64_wf _)) ?_; intro w9 ho9 hg9; have HC9 := hid (HC8.out.upd ho9 hg9); clear ho9 hg9)
        | fail)
      have HS9 := hid (show CS (D.put (.int .i64 who) (.lit (.int .i64 (RowKit.wrap64 (cc + 1))))) (wsL l (j + 1)) (incF g who) from by
        rw [HWS.out]
        refine HS.out.snoc who ?_
        have h1 := HCC.out; have h2 := HCB.out
        rw [wrap_id (by omega) (by omega)]; omega)
      generalize D.put (.int .i64 who) (.lit (.int .i64 (RowKit.wrap64 (cc + 1)))) = D9 at *
      clear HC8 HC HS
      go_loopw [19] (fun v wq => ∃ u : Nat, v = .int .i64 u ∧ 2 ≤ u ∧ u ≤ 8 ∧ Below w9.heap.size w9 wq) (fun v _ => 8 - (intOf v).toNat)
      case atStart => exact ⟨2, rfl, by omega, by omega, Below.refl _ _⟩
      case round =>
        obtain ⟨u, hu, hu2, hu8, hbq⟩ := hrel
        subst hu
        have BQ := hid hbq
        clear hbq
        by_cases hlu : u < 8
        · have hlu' : (u : Int) < 8 := by omega
          have HUV := hid (show hadF (incF g who) [(u : Int)] = (List.count (u : Int) (wsL l (j + 1)) : Int) from by
            unfold hadF; simp [HS9.out.toCG.c])
          have HAU := hid (HS9.out.toCM.a (u : Int))
          generalize (List.count (u : Int) (wsL l (j + 1)) : Int) = cu at HUV HAU
          have HKU := hid (keyOf_int_mk (a := (u : Int)) Tryd.underlying3 (wf64 (by omega) (by omega)))
          have HCX := hid (fun (W : World) (hb : Below w9.heap.size w9 W) => HC9.out.ext hb)
          have D0 := hid (below_drew BQ.out)
          have DB := hid (below_drew (BQ.out.alloc BQ.out.size (.cells #[.int .i64 (u : Int)] 3)))
          obtain ⟨k0, k1, k2, k3⟩ := (HCX.out _ BQ.out).m.cells
          obtain ⟨q0, q1, q2, q3⟩ := (HCX.out _ DB.out).m.cells
          have HLK := hid (fun (W : World) (hb : Below w9.heap.size w9 W) => look_eq HC9.out.o HAU.out HKU.out (W := W) (hb.block mb (map_lt HC9.out.o)))
          have hl0 := HLK.out _ D0.out
          have hlB := HLK.out _ DB.out
          go_upto_region 22 with fail
          go_cut [85] (fun v W => v = .bool false ∧ Below w9.heap.size w9 W)
          case first =>
            go_region_with (first
              | (go_at_call 26; refine (l_had (m := ⟨0, 100, incF g who, []⟩) (HCX.out _ DB.out).m.mt HOK1.out (l := [(u : Int)]) (sla_row #[.int .i64 (u : Int)] (by unfold maxLen; simp)).drew (by simp) HUV.out).mono ?_; rintro e5 w5 ⟨rfl, b5⟩; have B5 := hid (DB.out.trans (b5.mono DB.out.size)); have hl5 := HLK.out _ B5.out; clear b5))
            all_goals
              go_wp2_with fail
              go_meet
              exact ⟨rfl, B5.out⟩
          case rest =>
            obtain ⟨rfl, hbc⟩ := hcut
            have BC := hid hbc
            clear hbc
            go_wp2_with fail
            go_roundw
            case rel => exact ⟨u + 1, by go_num, by omega, by omega, BC.out⟩
            case measure => simp [intOf]; omega
        · obtain rfl : u = 8 := by omega
          go_wp2_with fail
          go_roundw
          case rel => exact ⟨j + 1, Z6, incF g who, _, _, D9, by go_num, by omega, HC9.out.ext BQ.out, HS9.out⟩
          case measure => simp [intOf]; omega
    · obtain rfl : j = n := by omega
      obtain ⟨Ag, cg, Ap, cp, rfl, rfl⟩ := HC.out.m.mt.sh _ _ rfl rfl
      obtain ⟨k0, k1, k2, k3⟩ := HC.out.m.cells
      go_upto_region 26 with fail
      go_loopw [90] (fun v wq => ∃ i : Nat, v = .int .i64 i ∧ i ≤ g.length ∧ Below wr.heap.size wr wq) (fun v _ => g.length - (intOf v).toNat)
      case atStart => exact ⟨0, rfl, by omega, Below.refl _ _⟩
      case round =>
        obtain ⟨i, hi, hil, hbq⟩ := hrel
        subst hi
        have BQ := hid hbq
        clear hbq k0 k1 k2 k3
        have HCQ := hid (HC.out.ext BQ.out)
        obtain ⟨k0, k1, k2, k3⟩ := HCQ.out.m.cells
        have hgb : g.length ≤ 30 := by
          have h1 := HS.out.toCG.n
          have h2 := wsL_len l j
          omega
        by_cases hli : i < g.length
        · have hli' : (i : Int) < (g.length : Int) := by omega
          by_cases h0 : i = 0
          · subst h0
            go_upto_region 28 with fail
            go_quiet (fail)
            go_wp2_with fail
            go_roundw
            case rel => exact ⟨1, by go_num, by omega, by first | exact below_drew BQ.out | exact below_drewN BQ.out _⟩
            case measure => simp [intOf]; omega
          · have hgA := HCQ.out.m.mt.gA
            obtain ⟨i1, hi1⟩ : ∃ i1, i1 = i - 1 := ⟨_, rfl⟩
            obtain ⟨gb, o1, y1, e1, hy1, z1, -⟩ := ctA_at (g := g) hgA (j := i1) (by show i1 < g.length; omega)
            obtain ⟨gb', o1', y2, e2, hy2, z2, -⟩ := ctA_at (g := g) hgA (j := i) hli
            rw [e1] at e2
            injection e2 with e2
            injection e2 with e2 e3
            subst e2; subst e3; subst e1
            have hrise := cts_rise HS.out.toCG.s hy1 hy2 (by omega)
            have hge : decide (y2.1 ≤ y1.1) = false := decide_eq_false (by omega)
            have hge' : ¬ y2.1 ≤ y1.1 := by omega
            have hs1 : IntKind.i64.wrap ((i : Int) - 1) = (i1 : Int) := by rw [IntKind.wrap_i64]; omega
            have h0' : (0 : Int) < (i : Int) := by omega
            have h0d : decide ((0 : Int) < (i : Int)) = true := decide_eq_true h0'
            have h0n : 0 < i := by omega
            have h0m : decide (0 < i) = true := decide_eq_true h0n
            have hl1 : (i1 : Int) < (g.length : Int) := by omega
            have HI1 := hid hi1
            clear hrise hgA hi1 hy1 hy2
            go_upto_region 28 with fail
            go_quiet (fail)
            go_wp2_with fail
            go_roundw
            case rel => exact ⟨i + 1, by go_num, by omega, by first | exact below_drew BQ.out | exact below_drewN BQ.out _⟩
            case measure => simp [intOf]; omega
        · obtain rfl : i = g.length := by omega
          have HOK := hid (HS.out.toCG.mto (q := 100) (by have := wsL_len l j; omega) (i64_lit (by decide) (by decide)))
          have HW := hid (show (wsL l j).length = j from by unfold wsL; simp; omega)
          have HH1 := hid (show hadF g [2, 3, 4, 5, 6, 7] = (j : Int) from by rw [HS.out.toCG.had (wsL_in l j), HW.out])
          have HH3 := hid (show hadF g [11] = 0 from by
            have h1 : List.count (11 : Int) (wsL l j) = 0 := List.count_eq_zero.2 fun h => by have := wsL_in l j _ h; omega
            unfold hadF; simp [HS.out.toCG.c, h1])
          have HSZ := hid HS.out.z
          go_wp2_with fail
          refine (l_had (m := ⟨0, 100, g, []⟩) (HCQ.out.m.alloc (.cells #[.int .i64 2, .int .i64 3, .int .i64 4, .int .i64 5, .int .i64 6, .int .i64 7] 3)).mt HOK.out (l := [2, 3, 4, 5, 6, 7]) (sla_row #[.int .i64 2, .int .i64 3, .int .i64 4, .int .i64 5, .int .i64 6, .int .i64 7] (by unfold maxLen; simp)) (by decide) HH1.out).mono ?_
          rintro e5 w5 ⟨rfl, b5⟩
          have HC5 := hid (HCQ.out.ext (((Below.refl _ _).alloc (Nat.le_refl _) (.cells #[.int .i64 2, .int .i64 3, .int .i64 4, .int .i64 5, .int .i64 6, .int .i64 7] 3)).trans (b5.mono (by simp))))
          clear k0 k1 k2 k3 b5
          obtain ⟨k0, k1, k2, k3⟩ := HC5.out.m.cells
          go_wp2_with fail
          refine (l_had (m := ⟨0, 100, g, []⟩) HC5.out.m.mt HOK.out (l := []) (SlA.nil _ _) (by decide) rfl).mono ?_
          rintro e6 w6 ⟨rfl, b6⟩
          have HC6 := hid (HC5.out.ext b6)
          clear k0 k1 k2 k3 b6
          obtain ⟨k0, k1, k2, k3⟩ := HC6.out.m.cells
          go_wp2_with fail
          refine (l_had (m := ⟨0, 100, g, []⟩) (HC6.out.m.alloc (.cells #[.int .i64 11] 3)).mt HOK.out (l := [11]) (sla_row #[.int .i64 11] (by unfold maxLen; simp)) (by decide) HH3.out).mono ?_
          rintro e7 w7 ⟨rfl, b7⟩
          have HC7 := hid (HC6.out.ext (((Below.refl _ _).alloc (Nat.le_refl _) (.cells #[.int .i64 11] 3)).trans (b7.mono (by simp))))
          clear k0 k1 k2 k3 b7
          obtain ⟨k0, k1, k2, k3⟩ := HC7.out.m.cells
          have hle := HC7.out.o.len Tryd.underlying56 3
          rw [HSZ.out] at hle
          go_wp2_with fail
          go_ret
          exact ⟨rfl, HC7.out.la.bl⟩
end Go.Proofs.YtanakgbhmmemoaaDoor
