import Derived.Test.YtadbgmfdbahcbaaDoorZG8
import Derived.Test.YtadbgmfdbahcbaaDoorZa
import Derived.Test.YtadbgmfdbahcbaaDoorZf
import Derived.Test.YtadbgmfdbahcbaaDoorZJ1
import Derived.Test.YtadbgmfdbahcbaaDoorZJ2
/- deduce: Pattern. -/
namespace Go.KK
open Go.RowKit
set_option linter.unusedVariables false
set_option linter.unusedSimpArgs false
theorem pats_snoc (xs : List ND) (I : Int → Bool) (l a : List Int) (t : Int) : patsF xs I a (l ++ [t]) = ((patsF xs I a l).1 ++ [(patT xs I (patsF xs I a l).2 t).1], (patT xs I (patsF xs I a l).2 t).2) := by
  rw [pats_app]
  rfl
theorem pat_ne {xs : List ND} (ok : Okay xs) (I : Int → Bool) {t : Int} (ht : hasB xs t = true) (h1 : 1 ≤ (nodeF xs t).o ∧ (nodeF xs t).o ≤ 12) (a : List Int) : (patT xs I a t).1 ≠ [] := by
  have hn : (nodeF xs t).o ≠ 2 → nameP (nodeF xs t).o ≠ [] := by
    generalize (nodeF xs t).o = o at *
    intro h2
    have : o = 1 ∨ o = 3 ∨ o = 4 ∨ o = 5 ∨ o = 6 ∨ o = 7 ∨ o = 8 ∨ o = 9 ∨ o = 10 ∨ o = 11 ∨ o = 12 := by omega
    rcases this with rfl | rfl | rfl | rfl | rfl | rfl | rfl | rfl | rfl | rfl | rfl <;> decide
  rw [pat_eq ok I ht a]
  split
  · simp
  · rename_i h2
    have := hn h2
    split
    · simp [this]
    · split <;> simp [this]
end Go.KK
namespace Go.Proofs.YtadbgmfdbahcbaaDoor
open Go.RowKit Go.KK Go.Shelf Go.Maps

theorem infoStr : (Tryd.prog.info? 9).map (fun i => (i.zero, i.size, i.bytes)) = some (some (.string ⟨#[]⟩), 1, 16) := by kernel_rfl
/-- What Pattern leaves. -/
def PatP (W : World) (xs : List ND) (l : List Int) (e : Ending) (w' : World) : Prop :=
  (l.all (hasB xs) = false ∧ e = .returned (.tuple #[.slice none 0 0, .int .i64 1]) ∧ Below W.heap.size W w') ∨
  (l.all (hasB xs) = true ∧ ∃ A c, e = .returned (.tuple #[.slice A l.length c, .int .i64 0]) ∧ w'.ownsRow W.heap.size 9 1 (.slice A l.length c) l.length ((patsF xs (derB xs l) [] l).1.map strV) ∧ Below W.heap.size W w')
/-- The patterns so far. -/
structure PtR (W W1 wr : World) (mb : Nat) (xs : List ND) (I : Int → Bool) (l : List Int) (j : Nat) (o : Value) : Prop where
  low : Below W1.heap.size W1 wr
  map : ∃ D, wr.ownsMap Tryd.prog 3 (plainElem Tryd.prog 3) mb (patsF xs I [] (l.take j)).2.length D ∧ NB D (patsF xs I [] (l.take j)).2
  row : wr.ownsRow W1.heap.size 9 1 o j ((patsF xs I [] (l.take j)).1.map strV)
  lo : W1.heap.size ≤ mb ∧ mb < wr.heap.size ∧ W.heap.size ≤ W1.heap.size
set_option maxHeartbeats 4000000 in
set_option maxRecDepth 100000 in
theorem pattern_any (W : World) (st : Nat) (xs : List ND) (A : Option Addr) (n c : Nat) (l : List Int) (hA : ArV W 84 st xs) (hok : Okay xs) (hul : ∀ m, (uses xs m).length ≤ 100000000) (hl : SlA W 1 A n c (l.map (.int .i64))) (hn : n ≤ 1000000) (hT : Tb W.heap.size W) (hs : ∀ x ∈ xs, x.s.size ≤ 1000000)
    (hpl : l.all (hasB xs) = true → ∀ p ∈ (patsF xs (derB xs l) [] l).1, p.length ≤ 10000000) :
    Calls Tryd.prog 12 #[.pointer (some ⟨st, 0, none⟩), .slice A n c] W fun e w' => PatP W xs l e w' := by
  obtain ⟨i0, hi, hz0, hz1, hz2⟩ := info_parts infoStr
  have hmm := @run_makeMap Tryd.prog
  have HCL := hid (closed_any W st xs A n c l hA hok hul hl hn)
  have HOK := hid hok; have HL := hid hl; have HT := hid hT; have HS := hid hs; have HPL := hid hpl
  have hln := hl.lenI
  clear hA hok hul hl hT hs hpl
  go_enter Tryd.func12, Tryd.ntmps12
  go_wp2_with fail
  refine HCL.out.mono ?_
  rintro e w1 (⟨hall, rfl, hb⟩ | ⟨hall, sp, G, R, lv, uv, J, rfl, hi1, hsp, hb, -⟩)
  · have HF := hid hall
    have HB := hid hb
    clear hall hb HCL
    go_wp2_with fail
    first | go_ret2 | go_ret
    exact (show PatP _ _ _ _ _ from .inl ⟨HF.out, rfl, HB.out⟩)
  · have HF := hid hall; have HB := hid hb; have HI := hid hi1; have HSP := hid hsp
    have HH := hid (fun x (hx : x ∈ l) => List.all_eq_true.1 hall x hx)
    have HCG := hid (show patsF xs (derB xs l) [] l = patsF xs (inB J) [] l from pats_congr HOK.out (fun t ht => by
      rw [Bool.eq_iff_iff, derB_iff]
      exact (HI.out.done HOK.out HH.out ht).symm) l [] HH.out)
    have HPN := hid (show ∀ p ∈ (patsF xs (inB J) [] l).1, p.length ≤ 10000000 by rw [← HCG.out]; exact HPL.out hall)
    have HW1 := hid (fun (B b mb : Nat) (t : Int) (ht : hasB xs t = true) => wt_all w1 G R B b sp mb lv uv xs ⟨J, []⟩ (inB J) hsp (Tb.up (HT.out.on hb) hb.size) (fun _ => rfl) HS.out (t.toNat + 1) t (by omega) ht)
    have HM0 := hid (World.ownsMap_made (H := Unit) w1 Tryd.prog 3 (plainElem Tryd.prog 3))
    have HB0 := hid (show Below w1.heap.size w1 (w1.alloc (.map #[] 0)) from (Below.refl _ _).alloc (Nat.le_refl _) _)
    have HR0 := hid (show PtR W w1 (w1.alloc (.map #[] 0)) w1.heap.size xs (inB J) l 0 (.slice none 0 0) from
      ⟨HB0.out, ⟨_, HM0.out, nb_nil⟩, by rw [List.take_zero]; exact World.ownsRow_nil _ _ _ _, Nat.le_refl _, by simp, hb.size⟩)
    clear hall hb hi1 hsp HCL HM0 HB0 HPL
    go_wp2_with fail
    go_loopw [25, 9] (fun v o wr => ∃ j : Nat, v = .int .i64 j ∧ j ≤ n ∧ Hid (PtR W w1 wr w1.heap.size xs (inB J) l j o)) (fun v _ _ => n - (intOf v).toNat)
    case atStart => exact ⟨0, rfl, Nat.zero_le _, HR0⟩
    case round =>
      clear HR0
      obtain ⟨j, hv, hj, HR⟩ := hrel
      subst hv
      by_cases hlt : j < n
      · have hlt' : (j : Int) < (n : Int) := by omega
        have hbl : Below W.heap.size W wr := HB.out.trans (HR.out.low.mono HB.out.size)
        obtain ⟨b1, o1, t, rfl, htj, hct⟩ := (HL.out.ext hbl).elemI hlt
        have hth := HH.out t (List.mem_of_getElem? htj)
        have HTK := hid (show patsF xs (inB J) [] (l.take (j + 1)) = ((patsF xs (inB J) [] (l.take j)).1 ++ [(patT xs (inB J) (patsF xs (inB J) [] (l.take j)).2 t).1], (patT xs (inB J) (patsF xs (inB J) [] (l.take j)).2 t).2) by
          rw [take_one htj, pats_snoc])
        have HNE := hid (pat_ne HOK.out (inB J) hth (op_range (nd_len HOK.out hth)) (patsF xs (inB J) [] (l.take j)).2)
        have HPL := hid (show (patT xs (inB J) (patsF xs (inB J) [] (l.take j)).2 t).1.length ≤ 10000000 by
          refine HPN.out _ ?_
          have e : l = l.take (j + 1) ++ l.drop (j + 1) := (List.take_append_drop _ _).symm
          rw [e, pats_app, HTK.out]
          simp)
        have HWT := hid (HW1.out wr.heap.size wr.heap.size w1.heap.size t hth)
        obtain ⟨Ao, co, rfl, -⟩ := SlA.owned HR.out.row
        generalize hnum : patsF xs (inB J) [] (l.take j) = PJ at *
        obtain ⟨ps, num⟩ := PJ
        have HNUM := hid hnum
        simp only at HTK HNE HPL
        generalize hpt : patT xs (inB J) num t = pt at *
        obtain ⟨pb, pn⟩ := pt
        have HPT := hid hpt
        simp only at HTK HNE HPL
        have HLO := hid HR.out.lo
        have HAL := hid (show Below wr.heap.size wr (wr.alloc (.cells #[.pointer none, .slice none 0 0, .pointer (some ⟨sp, 0, none⟩), .map (some w1.heap.size)] 70)) from (Below.refl _ _).alloc (Nat.le_refl _) _)
        have HPW := hid (show PwS w1 (wr.alloc (.cells #[.pointer none, .slice none 0 0, .pointer (some ⟨sp, 0, none⟩), .map (some w1.heap.size)] 70)) wr.heap.size wr.heap.size sp w1.heap.size [] num by
          obtain ⟨D, h1, h2⟩ := HR.out.map
          rw [hnum] at h1 h2
          exact ⟨HR.out.low.trans (HAL.out.mono HR.out.low.size), wr_new wr _ _, ⟨D, h1.alloc _, h2⟩, HLO.out.1, HLO.out.2.1, by simp⟩)
        have HROW := hid (show wr.ownsRow w1.heap.size 9 1 (.slice Ao j co) j (ps.map strV) by
          have := HR.out.row
          rw [hnum] at this
          exact this)
        have HCALL := hid (HWT.out [] num _ HPW.out (by rw [hpt]; have := HPL.out; simp; omega))
        rw [hpt] at HCALL
        have HBW := hid hbl
        clear hbl htj hnum hpt hth HR HWT HPW
        go_wp2_with fail
        refine HCALL.out.mono ?_
        rintro e w2 ⟨rfl, h2, o2⟩
        have H2 := hid h2; have O2 := hid o2
        have HSTR := hid (wout_any wr.heap.size wr.heap.size _ _ w2 pb (by have := h2.wr; simpa using this) HNE.out)
        clear h2 o2 hct
        go_wp2_with fail
        refine HSTR.out.mono ?_
        rintro e w3 ⟨rfl, b3⟩
        have B3 := hid b3
        have H3L := hid (show Below w1.heap.size w1 w3 from H2.out.low.trans (b3.mono (by have := HLO.out; omega)))
        have HROW3 := hid (show w3.ownsRow w1.heap.size 9 1 (.slice Ao j co) j (ps.map strV) by
          refine own_block HROW.out fun k hk => ?_
          have hkl := (HROW.out.lt k hk).2
          rw [b3.block k hkl]
          rcases HROW.out.2 with ⟨e, _⟩ | ⟨g, cap, cur, e, _, hh, _⟩
          · injection e with e
            subst e
            cases hk
          · injection e with e
            subst e
            injection hk with hk
            subst hk
            have h5 : (wr.alloc (.cells #[.pointer none, .slice none 0 0, .pointer (some ⟨sp, 0, none⟩), .map (some w1.heap.size)] 70)).heap[g]? = some (.cells cur 9 (0, 0)) := (heap_alloc_old _ _ hkl).trans hh
            have hkg : g < wr.heap.size := hkl
            exact (O2.out _ _ _ _ h5 (by decide) (by omega)).trans (h5.trans hh.symm))
        have HMAP3 := hid (show ∃ D, w3.ownsMap Tryd.prog 3 (plainElem Tryd.prog 3) w1.heap.size pn.length D ∧ NB D pn by
          obtain ⟨D, h1, h2⟩ := H2.out.map
          exact ⟨D, map_block h1 (b3.block _ HLO.out.2.1), h2⟩)
        have HSZ := hid (show wr.heap.size ≤ w3.heap.size from Nat.le_trans H2.out.lo.2.2 b3.size)
        clear b3 H2 HROW HCALL
        go_wp2_with (first
          | (at_builtin; refine wpList_append_sl _ rfl _ _ 33 rfl w1.heap.size 9 i0 (.string ⟨#[]⟩) 1 16 Tryd.underlying33 hi hz0 hz1 hz2 rfl (by decide) (.slice Ao j co) j (ps.map strV) rfl (HROW3.out.alloc _) _ 1 1 [strV pb] rfl (SlA.lit1 _) (fun u hu => by rw [List.mem_singleton] at hu; subst hu; rfl) (by unfold maxLen; omega) (by omega) (by have := HLO.out; have := HSZ.out; simp; omega) ?_; intro v5 w5 own5 gr5 loc5; have HO5 := hid own5; have HG5 := hid gr5; clear own5 gr5 loc5)
          | fail)
        go_roundw
        case rel =>
          refine ⟨j + 1, by go_num, by omega, hid ?_⟩
          have hrl := HROW3.out
          have hg := HG5.out
          have hs3 : (w3.alloc (.cells #[.string ⟨pb.toArray⟩] 9)).heap.size = w3.heap.size + 1 := by simp
          have hlo := HLO.out
          have hsz := HSZ.out
          have hnm : some w1.heap.size ≠ (Value.slice Ao j co).ownBlock := fun e => by
            obtain ⟨D, ⟨es, clock, h1, -⟩, -⟩ := HMAP3.out
            rcases hrl.2 with ⟨e2, _⟩ | ⟨g, cap, cur, e2, _, hh, _⟩
            · rw [e2] at e; cases e
            · rw [e2] at e
              injection e with e
              simp only at e
              rw [← e, h1] at hh
              cases hh
          refine ⟨?_, ?_, ?_, hlo.1, ?_, hlo.2.2⟩
          · refine (H3L.out.alloc (by omega) _).grown hg (by rw [hs3]; omega) fun k hk => ?_
            exact (hrl.lt k hk).1
          · rw [HTK.out]
            obtain ⟨D, h1, h2⟩ := HMAP3.out
            refine ⟨D, map_block h1 ?_, h2⟩
            rw [hg.block _ (by rw [hs3]; omega) (fun e => hnm e), Lib.alloc_old w3 _ _ (by omega)]
          · rw [HTK.out, List.map_append]
            exact HO5.out
          · have := hg.size
            rw [hs3] at this
            omega
        case measure => simp [intOf]; omega
      · have hjn : j = n := by omega
        subst hjn
        have hlt' : ¬ ((j : Nat) : Int) < (j : Int) := by omega
        obtain ⟨Ao, co, rfl, -⟩ := SlA.owned HR.out.row
        have HRR := hid (show wr.ownsRow W.heap.size 9 1 (.slice Ao l.length co) l.length ((patsF xs (derB xs l) [] l).1.map strV) by
          have := HR.out.row
          rw [show l.take j = l from List.take_of_length_le (by omega), ← HCG.out] at this
          rw [hln]
          exact own_mono this HB.out.size)
        have HBW := hid (HB.out.trans (HR.out.low.mono HB.out.size))
        have HLN := hid hln
        clear hlt HR hln
        go_wp2_with fail
        first | go_ret2 | go_ret
        exact (show PatP _ _ _ _ _ from .inr ⟨HF.out, Ao, co, by rw [HLN.out] <;> rfl, HRR.out, HBW.out⟩)
end Go.Proofs.YtadbgmfdbahcbaaDoor

/- deduce's law: live. -/
namespace Go.KK
open Go.RowKit
set_option linter.unusedVariables false
set_option linter.unusedSimpArgs false
def xs4 : List ND := [atN 0, atN 1, ndN 9 [0, 1, 1, 1], ndN 9 [0, 0, 1, 1]]
theorem x4_mk : mksT [] xs4 = xs4 := by decide +kernel
theorem x4_a (ok : Okay xs4) : derB xs4 [2] 1 = false := by
  rw [derC_der ok (f := 20) (by decide +kernel) (by decide +kernel) (by decide +kernel)]
  decide +kernel
theorem x4_b (ok : Okay xs4) : derB xs4 [2, 0] 1 = true := by
  rw [derC_der ok (f := 20) (by decide +kernel) (by decide +kernel) (by decide +kernel)]
  decide +kernel
def t40 : List UInt8 := [101, 110, 99, 35, 48]
def t41 : List UInt8 := [101, 110, 99, 35, 49]
theorem x4_p (ok : Okay xs4) : (patsF xs4 (derB xs4 [2, 2, 3]) [] [2, 2, 3]).1 = [t40, t40, t41] := by
  have hk : ∀ x ∈ ([2, 2, 3] : List Int), hasB xs4 x = true := by decide +kernel
  rw [pats_congr ok (J := inB (derC xs4 [2, 2, 3] 20).i) (fun t ht => derC_der ok hk (by decide +kernel) ht) _ _ hk]
  decide +kernel
end Go.KK
namespace Go.Proofs.YtadbgmfdbahcbaaDoor
open Go.RowKit Go.KK Go.Shelf Go.Maps

theorem x4_row (w : World) : NdA (((w.alloc (.cells #[.int .i64 0, .int .i64 1, .int .i64 1, .int .i64 1] 3)).alloc (.cells #[.int .i64 0, .int .i64 0, .int .i64 1, .int .i64 1] 3)).alloc (.cells #[.int .i64 1, .int .i64 0, .string ⟨#[]⟩, .slice none 0 0, .int .i64 1, .int .i64 1, .string ⟨#[]⟩, .slice none 0 0, .int .i64 9, .int .i64 0, .string ⟨#[]⟩, .slice (some ⟨w.heap.size, 0, none⟩) 4 4, .int .i64 9, .int .i64 0, .string ⟨#[]⟩, .slice (some ⟨w.heap.size + 1, 0, none⟩) 4 4] 32)) (some ⟨w.heap.size + 2, 0, none⟩) 4 4 xs4 := by
  have e1 : (w.alloc (.cells #[.int .i64 0, .int .i64 1, .int .i64 1, .int .i64 1] 3)).heap.size = w.heap.size + 1 := by simp
  have e2 : ((w.alloc (.cells #[.int .i64 0, .int .i64 1, .int .i64 1, .int .i64 1] 3)).alloc (.cells #[.int .i64 0, .int .i64 0, .int .i64 1, .int .i64 1] 3)).heap.size = w.heap.size + 2 := by simp
  have r1 := sla_row (w := w) (T := 3) #[.int .i64 0, .int .i64 1, .int .i64 1, .int .i64 1] (by decide)
  have r2 := sla_row (w := w.alloc (.cells #[.int .i64 0, .int .i64 1, .int .i64 1, .int .i64 1] 3)) (T := 3) #[.int .i64 0, .int .i64 0, .int .i64 1, .int .i64 1] (by decide)
  rw [e1] at r2
  refine ⟨[.slice none 0 0, .slice none 0 0, .slice (some ⟨w.heap.size, 0, none⟩) 4 4, .slice (some ⟨w.heap.size + 1, 0, none⟩) 4 4], rfl, ?_, ?_⟩
  · have := (SlA.of_own (World.ownsRow_lit (e := 32) (base := 0) (size := 4) ((w.alloc (.cells #[.int .i64 0, .int .i64 1, .int .i64 1, .int .i64 1] 3)).alloc (.cells #[.int .i64 0, .int .i64 0, .int .i64 1, .int .i64 1] 3)) #[.int .i64 1, .int .i64 0, .string ⟨#[]⟩, .slice none 0 0, .int .i64 1, .int .i64 1, .string ⟨#[]⟩, .slice none 0 0, .int .i64 9, .int .i64 0, .string ⟨#[]⟩, .slice (some ⟨w.heap.size, 0, none⟩) 4 4, .int .i64 9, .int .i64 0, .string ⟨#[]⟩, .slice (some ⟨w.heap.size + 1, 0, none⟩) 4 4] 4 (Nat.zero_le _) (by unfold maxLen; omega) rfl)).2
    rw [e2] at this
    exact this
  · intro j x q hx hq
    match j, hx, hq with
    | 0, hx, hq => injection hx with hx; injection hq with hq; subst hx; subst hq; exact ⟨none, 0, rfl, SlA.nil _ _⟩
    | 1, hx, hq => injection hx with hx; injection hq with hq; subst hx; subst hq; exact ⟨none, 0, rfl, SlA.nil _ _⟩
    | 2, hx, hq => injection hx with hx; injection hq with hq; subst hx; subst hq; exact ⟨_, 4, rfl, (r1.alloc _).alloc _⟩
    | 3, hx, hq => injection hx with hx; injection hq with hq; subst hx; subst hq; exact ⟨_, 4, rfl, r2.alloc _⟩
    | j + 4, hx, hq => simp [xs4] at hx
theorem x4_w : ∀ x ∈ xs4, NdW x := by
  intro x hx
  simp only [xs4, List.mem_cons, List.not_mem_nil, or_false] at hx
  rcases hx with rfl | rfl | rfl | rfl <;> exact ⟨by decide, by decide, by decide, by decide⟩
set_option maxHeartbeats 2000000 in
set_option maxRecDepth 100000 in
theorem live_any (w : World) (hT : Tb w.heap.size w) : Calls Tryd.prog 8 #[] w fun e w' => e = .returned (.bool true) ∧ Below w.heap.size w w' := by
  have HT := hid hT
  have HN := hid (x4_row w)
  have HB0 := hid (show Below w.heap.size w (((w.alloc (.cells #[.int .i64 0, .int .i64 1, .int .i64 1, .int .i64 1] 3)).alloc (.cells #[.int .i64 0, .int .i64 0, .int .i64 1, .int .i64 1] 3)).alloc (.cells #[.int .i64 1, .int .i64 0, .string ⟨#[]⟩, .slice none 0 0, .int .i64 1, .int .i64 1, .string ⟨#[]⟩, .slice none 0 0, .int .i64 9, .int .i64 0, .string ⟨#[]⟩, .slice (some ⟨w.heap.size, 0, none⟩) 4 4, .int .i64 9, .int .i64 0, .string ⟨#[]⟩, .slice (some ⟨w.heap.size + 1, 0, none⟩) 4 4] 32)) from (((Below.refl _ _).alloc (Nat.le_refl _) _).alloc (by simp) _).alloc (by simp; omega) _)
  clear hT
  go_enter Tryd.func8, Tryd.ntmps8
  go_wp2_with fail
  have HTW := hid (two_any _ 4 4 xs4 _ HN.out x4_w (Tb.up (HT.out.on HB0.out) HB0.out.size) (by decide))
  refine HTW.out.mono ?_
  rintro e w1 ⟨sa, sb, Z, Z', rfl, ht⟩
  rw [x4_mk] at ht
  have HTT := hid (ht.a.vw)
  have HOK := hid ht.a.ok
  have HB1 := hid (HB0.out.trans (ht.bl.mono HB0.out.size))
  clear ht HN HB0 HTW
  go_wp2_with fail
  have HL1 := hid (SlA.lit1 (w := w1) (T := 3) (.int .i64 2))
  have HA1 := hid (show Below w1.heap.size w1 (w1.alloc (.cells #[.int .i64 2] 3)) from (Below.refl _ _).alloc (Nat.le_refl _) _)
  refine (derives_any _ sa xs4 _ 1 1 [2] 1 (HTT.out.ext HA1.out) HOK.out (uses_small HOK.out) HL1.out (by decide)).mono ?_
  rintro e w2 ⟨rfl, b2⟩
  rw [show drvB xs4 [2] 1 = false by unfold drvB; rw [x4_a HOK.out]; simp, show drvE xs4 [2] 1 = 0 by unfold drvE; rw [if_pos (by decide +kernel)]]
  have HB2 := hid (show Below w1.heap.size w1 w2 from HA1.out.trans (b2.mono HA1.out.size))
  clear b2 HL1 HA1
  go_wp2_with fail
  have HL1 := hid (sla_row (w := w2) (T := 3) #[.int .i64 2, .int .i64 0] (by decide))
  have HA1 := hid (show Below w1.heap.size w1 (w2.alloc (.cells #[.int .i64 2, .int .i64 0] 3)) from HB2.out.alloc HB2.out.size _)
  refine (derives_any _ sa xs4 _ 2 2 [2, 0] 1 (HTT.out.ext HA1.out) HOK.out (uses_small HOK.out) HL1.out (by decide)).mono ?_
  rintro e w3 ⟨rfl, b3⟩
  rw [show drvB xs4 [2, 0] 1 = true by unfold drvB; rw [x4_b HOK.out]; decide +kernel, show drvE xs4 [2, 0] 1 = 0 by unfold drvE; rw [if_pos (by decide +kernel)]]
  have HB3 := hid (show Below w1.heap.size w1 w3 from HA1.out.trans (b3.mono HA1.out.size))
  clear b3 HL1 HA1 HB2
  go_wp2_with fail
  have HL1 := hid (sla_row (w := w3) (T := 3) #[.int .i64 2, .int .i64 2, .int .i64 3] (by decide))
  have HA1 := hid (show Below w1.heap.size w1 (w3.alloc (.cells #[.int .i64 2, .int .i64 2, .int .i64 3] 3)) from HB3.out.alloc HB3.out.size _)
  refine (pattern_any _ sa xs4 _ 3 3 [2, 2, 3] (HTT.out.ext HA1.out) HOK.out (uses_small HOK.out) HL1.out (by decide) (Tb.up (HT.out.on (HB1.out.trans (HA1.out.mono HB1.out.size))) (Nat.le_trans HB1.out.size HA1.out.size)) (by decide +kernel) (fun _ p hp => by rw [x4_p HOK.out] at hp; revert p; decide +kernel)).mono ?_
  rintro e w4 (⟨hf, -⟩ | ⟨-, A4, c4, rfl, hr4, b4⟩)
  · exact absurd hf (by decide +kernel)
  rw [x4_p HOK.out] at hr4
  have HR4 := hid (SlA.of_own hr4).2
  have HB4 := hid (show Below w1.heap.size w1 w4 from HA1.out.trans (b4.mono HA1.out.size))
  clear b4 hr4 HL1 HA1 HB3
  go_wp2_with fail
  have HL5 := hid (sla_row (w := w4) (T := 9) #[strV t40, strV t40, strV t41] (by decide))
  refine (same_texts A4 3 c4 [t40, t40, t41] _ 3 3 [t40, t40, t41] _ (HR4.out.alloc _) HL5.out (by decide)).mono ?_
  rintro e w5 ⟨rfl, q, rfl⟩
  rw [show decide (([t40, t40, t41] : List (List UInt8)) = [t40, t40, t41]) = true from decide_eq_true rfl]
  have HB5 := hid (HB1.out.trans ((below_drewN (HB4.out.alloc HB4.out.size (.cells #[strV t40, strV t40, strV t41] 9)) q).mono HB1.out.size))
  go_wp2_with fail
  go_ret
  exact ⟨rfl, HB5.out⟩
end Go.Proofs.YtadbgmfdbahcbaaDoor

/- deduce: Alike. -/
namespace Go.Proofs.YtadbgmfdbahcbaaDoor
open Go.RowKit Go.KK Go.Shelf Go.Maps
set_option linter.unusedVariables false
set_option linter.unusedSimpArgs false

/-- What Alike answers. -/
noncomputable def alkB (xs : List ND) (x y : List Int) : Bool := x.all (hasB xs) && y.all (hasB xs) && decide ((patsF xs (derB xs x) [] x).1 = (patsF xs (derB xs y) [] y).1)
def alkE (xs : List ND) (x y : List Int) : Int := if x.all (hasB xs) && y.all (hasB xs) then 0 else 1
set_option maxHeartbeats 2000000 in
set_option maxRecDepth 100000 in
theorem alike_any (W : World) (st : Nat) (xs : List ND) (A : Option Addr) (n c : Nat) (x : List Int) (A' : Option Addr) (n' c' : Nat) (y : List Int) (hA : ArV W 84 st xs) (hok : Okay xs) (hul : ∀ m, (uses xs m).length ≤ 100000000) (hx : SlA W 1 A n c (x.map (.int .i64))) (hy : SlA W 1 A' n' c' (y.map (.int .i64))) (hn : n ≤ 1000000) (hn' : n' ≤ 1000000) (hT : Tb W.heap.size W) (hs : ∀ x ∈ xs, x.s.size ≤ 1000000)
    (hpx : x.all (hasB xs) = true → ∀ p ∈ (patsF xs (derB xs x) [] x).1, p.length ≤ 10000000) (hpy : y.all (hasB xs) = true → ∀ p ∈ (patsF xs (derB xs y) [] y).1, p.length ≤ 10000000) :
    Calls Tryd.prog 15 #[.pointer (some ⟨st, 0, none⟩), .slice A n c, .slice A' n' c'] W fun e w' => e = .returned (.tuple #[.bool (alkB xs x y), .int .i64 (alkE xs x y)]) ∧ Below W.heap.size W w' := by
  have HP1 := hid (pattern_any W st xs A n c x hA hok hul hx hn hT hs hpx)
  have HP2 := hid (fun (U : World) (hb : Below W.heap.size W U) => pattern_any U st xs A' n' c' y (hA.ext hb) hok hul (hy.ext hb) hn' (Tb.up (hT.on hb) hb.size) hs hpy)
  have HXL := hid hx.lenI; have HYL := hid hy.lenI
  clear hA hok hul hx hy hT hs hpx hpy
  go_enter Tryd.func15, Tryd.ntmps15
  go_wp2_with fail
  refine HP1.out.mono ?_
  rintro e w1 (⟨hall, rfl, hb⟩ | ⟨hall, A1, c1, rfl, hr1, hb⟩)
  · have HF := hid (show alkB xs x y = false ∧ alkE xs x y = 1 by unfold alkB alkE; rw [hall]; exact ⟨rfl, rfl⟩)
    have HB := hid hb
    clear hall hb
    go_wp2_with fail
    refine (HP2.out _ HB.out).mono ?_
    rintro e w2 (⟨hall, rfl, hb⟩ | ⟨hall, A2, c2, rfl, hr2, hb⟩)
    all_goals
      have HB2 := hid (HB.out.trans (hb.mono HB.out.size))
      clear hall hb
      go_wp2_with fail
      first | go_ret2 | go_ret
      exact ⟨by rw [HF.out.1, HF.out.2] <;> rfl, HB2.out⟩
  · have HF1 := hid hall
    have HB := hid hb
    have HR1 := hid (SlA.of_own hr1).2
    clear hall hb hr1
    go_wp2_with fail
    refine (HP2.out _ HB.out).mono ?_
    rintro e w2 (⟨hall, rfl, hb⟩ | ⟨hall, A2, c2, rfl, hr2, hb⟩)
    · have HF := hid (show alkB xs x y = false ∧ alkE xs x y = 1 by unfold alkB alkE; rw [hall, HF1.out]; exact ⟨rfl, rfl⟩)
      have HB2 := hid (HB.out.trans (hb.mono HB.out.size))
      clear hall hb
      go_wp2_with fail
      first | go_ret2 | go_ret
      exact ⟨by rw [HF.out.1, HF.out.2] <;> rfl, HB2.out⟩
    · have HF := hid (show alkB xs x y = decide ((patsF xs (derB xs x) [] x).1 = (patsF xs (derB xs y) [] y).1) ∧ alkE xs x y = 0 by unfold alkB alkE; rw [hall, HF1.out]; exact ⟨rfl, rfl⟩)
      have HB2 := hid (HB.out.trans (hb.mono HB.out.size))
      have HR2 := hid (SlA.of_own hr2).2
      have HEQ := hid (eq_texts A1 x.length c1 _ A2 y.length c2 _ w2 (HR1.out.ext hb) HR2.out (by have := HXL.out; omega))
      clear hall hb hr2 HR1 HR2
      go_wp2_with fail
      refine HEQ.out.mono ?_
      rintro e w3 ⟨rfl, q, rfl⟩
      generalize decide ((patsF xs (derB xs x) [] x).1 = (patsF xs (derB xs y) [] y).1) = bb at *
      go_wp2_with fail
      first | go_ret2 | go_ret
      exact ⟨by rw [HF.out.1, HF.out.2] <;> rfl, below_drewN HB2.out q⟩
end Go.Proofs.YtadbgmfdbahcbaaDoor

/- deduce's law: what the laws share. -/
namespace Go.KK
open Go.RowKit
set_option linter.unusedVariables false
set_option linter.unusedSimpArgs false
theorem mak_mem {xs : List ND} {y x : ND} (h : x ∈ makT xs y) : x ∈ xs ∨ x = y := by
  unfold makT at h
  split at h
  · split at h
    · exact .inl h
    · split at h
      · exact .inl h
      · rcases List.mem_append.1 h with h | h
        · exact .inl h
        · exact .inr (by simpa using h)
  · exact .inl h
theorem mks_mem {x : ND} : ∀ {l xs : List ND}, x ∈ mksT xs l → x ∈ xs ∨ x ∈ l
  | [], xs, h => .inl h
  | y :: l, xs, h => by
    rcases mks_mem (l := l) (xs := makT xs y) h with h | h
    · rcases mak_mem h with h | h
      · exact .inl h
      · exact .inr (by simp [h])
    · exact .inr (by simp [h])
theorem szL_le {l : List ND} {k : Nat} (h : ∀ x ∈ l, x.s.size ≤ k) : ∀ x ∈ mksT [] l, x.s.size ≤ k := fun x hx => by
  rcases mks_mem hx with h1 | h1
  · simp at h1
  · exact h x h1
theorem bytes_len (s : ByteArray) : s.data.toList.length = s.size := by rw [Array.length_toList]; rfl
/-- Patterns of light terms are short. -/
theorem pats_short {xs : List ND} (ok : Okay xs) (hs : ∀ x ∈ xs, x.s.size ≤ 60) (I : Int → Bool) {l : List Int} (hl : lightB xs l = true) (h : l.all (hasB xs) = true) : (∀ p ∈ (patsF xs I [] l).1, p.length ≤ 300000) ∧ ∀ p ∈ (patsF xs I [] (l ++ l)).1, p.length ≤ 600000 := by
  have hh : ∀ x ∈ l, hasB xs x = true := List.all_eq_true.1 h
  have h1 : lightN xs l < 3000 := of_decide_eq_true hl
  have h2 := light_wt hh h1
  have hs' : ∀ x ∈ xs, x.s.data.toList.length ≤ 60 := fun x hx => by rw [bytes_len]; exact hs x hx
  refine ⟨fun p hp => ?_, fun p hp => ?_⟩
  · have := (pats_len2 ok hs' I l [] hh (numQ_nil xs)).1 p hp
    omega
  · have := (pats_len2 ok hs' I (l ++ l) [] (fun x hx => (List.mem_append.1 hx).elim (hh x) (hh x)) (numQ_nil xs)).1 p hp
    rw [List.map_append, List.sum_append] at this
    omega
theorem sla_takeV {w : World} {A : Option Addr} {n c : Nat} {cs : List Value} (h : SlA w 1 A n c cs) {p : Nat} (hp : p ≤ n) : SlA w 1 A p c (cs.take p) := by
  have h1 := h.nc
  have h3 := h.len
  refine ⟨by omega, h.cm, by simp; omega, fun j u hj => ?_⟩
  rw [List.getElem?_take] at hj
  split at hj
  · exact h.cells j u hj
  · cases hj
theorem sla_dropV {w : World} {A : Option Addr} {n c : Nat} {cs : List Value} (h : SlA w 1 A n c cs) {p : Nat} (hp : p ≤ n) : SlA w 1 (if c = p then A else A.map (·.add (p * 1))) (n - p) (c - p) (cs.drop p) := by
  have h1 := h.nc
  have h2 := h.cm
  have h3 := h.len
  refine ⟨by omega, by omega, by simp; omega, fun j u hj => ?_⟩
  rw [List.getElem?_drop] at hj
  obtain ⟨b, off, rfl, hc⟩ := h.cells (p + j) u hj
  have hlt := (List.getElem?_eq_some_iff.1 hj).1
  rw [if_neg (by omega)]
  refine ⟨b, off + p, ?_, ?_⟩
  · simp [Addr.add]
  · rw [Nat.add_assoc]; exact hc
end Go.KK
namespace Go.Proofs.YtadbgmfdbahcbaaDoor
open Go.RowKit Go.KK Go.Shelf Go.Maps

/-- few, asked of two lists. -/
theorem few2_any (A : Option Addr) (n c : Nat) (xs : List ND) (A1 : Option Addr) (n1 c1 : Nat) (A2 : Option Addr) (n2 c2 : Nat) (w : World) (h : NdA w A n c xs) :
    Calls Tryd.prog 9 #[.slice A n c, .slice (some ⟨w.heap.size, 0, none⟩) 2 2] (w.alloc (.cells #[.slice A1 n1 c1, .slice A2 n2 c2] 23)) fun e w' => e = .returned (.bool (few5B xs [n1, n2])) ∧ Below w.heap.size w w' :=
  (few_any A n c xs (some ⟨w.heap.size, 0, none⟩) 2 2 [(A1, n1, c1), (A2, n2, c2)] _ (h.ext ((Below.refl _ _).alloc (Nat.le_refl _) _)) (sla_row (w := w) (T := 23) #[.slice A1 n1 c1, .slice A2 n2 c2] (by unfold maxLen; simp)) (by decide)).mono fun _ _ h => ⟨h.1, ((Below.refl w.heap.size w).alloc (Nat.le_refl _) _).trans (h.2.mono (by simp))⟩
theorem few1_any (A : Option Addr) (n c : Nat) (xs : List ND) (A1 : Option Addr) (n1 c1 : Nat) (w : World) (h : NdA w A n c xs) :
    Calls Tryd.prog 9 #[.slice A n c, .slice (some ⟨w.heap.size, 0, none⟩) 1 1] (w.alloc (.cells #[.slice A1 n1 c1] 23)) fun e w' => e = .returned (.bool (few5B xs [n1])) ∧ Below w.heap.size w w' :=
  (few_any A n c xs (some ⟨w.heap.size, 0, none⟩) 1 1 [(A1, n1, c1)] _ (h.ext ((Below.refl _ _).alloc (Nat.le_refl _) _)) (sla_row (w := w) (T := 23) #[.slice A1 n1 c1] (by unfold maxLen; simp)) (by decide)).mono fun _ _ h => ⟨h.1, ((Below.refl w.heap.size w).alloc (Nat.le_refl _) _).trans (h.2.mono (by simp))⟩
theorem alk_sym (xs : List ND) (x y : List Int) : alkB xs y x = alkB xs x y ∧ alkE xs y x = alkE xs x y := by
  unfold alkB alkE
  refine ⟨?_, by rw [Bool.and_comm]⟩
  rw [Bool.and_comm (y.all (hasB xs)) (x.all (hasB xs))]
  congr 1
  rw [Bool.eq_iff_iff, decide_eq_true_eq, decide_eq_true_eq]
  exact eq_comm
theorem alk_self (xs : List ND) (x : List Int) : alkB xs x x = x.all (hasB xs) ∧ alkE xs x x = if x.all (hasB xs) then 0 else 1 := by
  unfold alkB alkE
  rw [Bool.and_self]
  exact ⟨by rw [decide_eq_true rfl, Bool.and_true], rfl⟩
end Go.Proofs.YtadbgmfdbahcbaaDoor

