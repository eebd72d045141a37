import Derived.Test.YtfmkniakfgpgjaaGreatDoorY21
import Derived.Test.YtfmkniakfgpgjaaGreatDoorY22
import Derived.Test.YtfmkniakfgpgjaaGreatDoorY01
import Derived.ProofKit
import Derived.OpenShut
import Derived.ShutString
import Derived.ChangeOld
import Derived.Deep.Slices
import Derived.Deep.Fields
import Derived.ChangeArms
import Derived.Test.YtfmkniakfgpgjaaGreatDoorY05
import Derived.Test.YtfmkniakfgpgjaaGreatDoorY08
import Derived.Test.YtfmkniakfgpgjaaGreatDoorY18
import Derived.Test.YtfmkniakfgpgjaaGreatDoorY16
import Derived.Test.YtfmkniakfgpgjaaGreatDoorY17
import Derived.Test.YtfmkniakfgpgjaaGreatDoorY20
import Derived.Test.YtfmkniakfgpgjaaGreatDoorY13
import Derived.Test.YtfmkniakfgpgjaaGreatDoorY09
/- deduce: Pattern. -/
namespace Go.KK
open Go.RowKit
set_option linter.unusedVariables false
set_option linter.unusedSimpArgs false
theorem pats_snoc (xs : List ND) (I : Int → Bool) (l a : List Int) (t : Int) : patsF xs I a (l ++ [t]) = ((patsF xs I a l).1 ++ [(patT xs I (patsF xs I a l).2 t).1], (patT xs I (patsF xs I a l).2 t).2) := by
  rw [pats_app]
  rfl
theorem pat_ne {xs : List ND} (ok : Okay xs) (I : Int → Bool) {t : Int} (ht : hasB xs t = true) (h1 : 1 ≤ (nodeF xs t).o ∧ (nodeF xs t).o ≤ 12) (a : List Int) : (patT xs I a t).1 ≠ [] := by
  have hn : (nodeF xs t).o ≠ 2 → nameP (nodeF xs t).o ≠ [] := by
    generalize (nodeF xs t).o = o at *
    intro h2
    have : o = 1 ∨ o = 3 ∨ o = 4 ∨ o = 5 ∨ o = 6 ∨ o = 7 ∨ o = 8 ∨ o = 9 ∨ o = 10 ∨ o = 11 ∨ o = 12 := by omega
    rcases this with rfl | rfl | rfl | rfl | rfl | rfl | rfl | rfl | rfl | rfl | rfl <;> decide
  rw [pat_eq ok I ht a]
  split
  · simp
  · rename_i h2
    have := hn h2
    split
    · simp [this]
    · split <;> simp [this]
end Go.KK
namespace Go.Proofs.YtfmkniakfgpgjaaGreatDoor
open Go.RowKit Go.KK Go.Shelf Go.Maps

theorem infoStr : (Tryz.prog.info? 9).map (fun i => (i.zero, i.size, i.bytes)) = some (some (.string ⟨#[]⟩), 1, 16) := by kernel_rfl
/-- What Pattern leaves. -/
def PatP (W : World) (xs : List ND) (l : List Int) (e : Ending) (w' : World) : Prop :=
  (l.all (hasB xs) = false ∧ e = .returned (.tuple #[.slice none 0 0, .int .i64 1]) ∧ Below W.heap.size W w') ∨
  (l.all (hasB xs) = true ∧ ∃ A c, e = .returned (.tuple #[.slice A l.length c, .int .i64 0]) ∧ w'.ownsRow W.heap.size 9 1 (.slice A l.length c) l.length ((patsF xs (derB xs l) [] l).1.map strV) ∧ Below W.heap.size W w')
/-- The patterns so far. -/
structure PtR (W W1 wr : World) (mb : Nat) (xs : List ND) (I : Int → Bool) (l : List Int) (j : Nat) (o : Value) : Prop where
  low : Below W1.heap.size W1 wr
  map : ∃ D, wr.ownsMap Tryz.prog 3 (plainElem Tryz.prog 3) mb (patsF xs I [] (l.take j)).2.length D ∧ NB D (patsF xs I [] (l.take j)).2
  row : wr.ownsRow W1.heap.size 9 1 o j ((patsF xs I [] (l.take j)).1.map strV)
  lo : W1.heap.size ≤ mb ∧ mb < wr.heap.size ∧ W.heap.size ≤ W1.heap.size
set_option maxHeartbeats 4000000 in
set_option maxRecDepth 100000 in
theorem pattern_any (W : World) (st : Nat) (xs : List ND) (A : Option Addr) (n c : Nat) (l : List Int) (hA : ArV W 122 st xs) (hok : Okay xs) (hul : ∀ m, (uses xs m).length ≤ 100000000) (hl : SlA W 1 A n c (l.map (.int .i64))) (hn : n ≤ 1000000) (hT : Tb W.heap.size W) (hs : ∀ x ∈ xs, x.s.size ≤ 1000000)
    (hpl : l.all (hasB xs) = true → ∀ p ∈ (patsF xs (derB xs l) [] l).1, p.length ≤ 10000000) :
    Calls Tryz.prog 68 #[.pointer (some ⟨st, 0, none⟩), .slice A n c] W fun e w' => PatP W xs l e w' := by
  obtain ⟨i0, hi, hz0, hz1, hz2⟩ := info_parts infoStr
  have hmm := @run_makeMap Tryz.prog
  have HCL := hid (closed_any W st xs A n c l hA hok hul hl hn)
  have HOK := hid hok; have HL := hid hl; have HT := hid hT; have HS := hid hs; have HPL := hid hpl
  have hln := hl.lenI
  clear hA hok hul hl hT hs hpl
  go_enter Tryz.func68, Tryz.ntmps68
  go_wp2_with fail
  refine HCL.out.mono ?_
  rintro e w1 (⟨hall, rfl, hb⟩ | ⟨hall, sp, G, R, lv, uv, J, rfl, hi1, hsp, hb, -⟩)
  · have HF := hid hall
    have HB := hid hb
    clear hall hb HCL
    go_wp2_with fail
    first | go_ret2 | go_ret
    exact (show PatP _ _ _ _ _ from .inl ⟨HF.out, rfl, HB.out⟩)
  · have HF := hid hall; have HB := hid hb; have HI := hid hi1; have HSP := hid hsp
    have HH := hid (fun x (hx : x ∈ l) => List.all_eq_true.1 hall x hx)
    have HCG := hid (show patsF xs (derB xs l) [] l = patsF xs (inB J) [] l from pats_congr HOK.out (fun t ht => by
      rw [Bool.eq_iff_iff, derB_iff]
      exact (HI.out.done HOK.out HH.out ht).symm) l [] HH.out)
    have HPN := hid (show ∀ p ∈ (patsF xs (inB J) [] l).1, p.length ≤ 10000000 by rw [← HCG.out]; exact HPL.out hall)
    have HW1 := hid (fun (B b mb : Nat) (t : Int) (ht : hasB xs t = true) => wt_all w1 G R B b sp mb lv uv xs ⟨J, []⟩ (inB J) hsp (Tb.up (HT.out.on hb) hb.size) (fun _ => rfl) HS.out (t.toNat + 1) t (by omega) ht)
    have HM0 := hid (World.ownsMap_made (H := Unit) w1 Tryz.prog 3 (plainElem Tryz.prog 3))
    have HB0 := hid (show Below w1.heap.size w1 (w1.alloc (.map #[] 0)) from (Below.refl _ _).alloc (Nat.le_refl _) _)
    have HR0 := hid (show PtR W w1 (w1.alloc (.map #[] 0)) w1.heap.size xs (inB J) l 0 (.slice none 0 0) from
      ⟨HB0.out, ⟨_, HM0.out, nb_nil⟩, by rw [List.take_zero]; exact World.ownsRow_nil _ _ _ _, Nat.le_refl _, by simp, hb.size⟩)
    clear hall hb hi1 hsp HCL HM0 HB0 HPL
    go_wp2_with fail
    go_loopw [25, 9] (fun v o wr => ∃ j : Nat, v = .int .i64 j ∧ j ≤ n ∧ Hid (PtR W w1 wr w1.heap.size xs (inB J) l j o)) (fun v _ _ => n - (intOf v).toNat)
    case atStart => exact ⟨0, rfl, Nat.zero_le _, HR0⟩
    case round =>
      clear HR0
      obtain ⟨j, hv, hj, HR⟩ := hrel
      subst hv
      by_cases hlt : j < n
      · have hlt' : (j : Int) < (n : Int) := by omega
        have hbl : Below W.heap.size W wr := HB.out.trans (HR.out.low.mono HB.out.size)
        obtain ⟨b1, o1, t, rfl, htj, hct⟩ := (HL.out.ext hbl).elemI hlt
        have hth := HH.out t (List.mem_of_getElem? htj)
        have HTK := hid (show patsF xs (inB J) [] (l.take (j + 1)) = ((patsF xs (inB J) [] (l.take j)).1 ++ [(patT xs (inB J) (patsF xs (inB J) [] (l.take j)).2 t).1], (patT xs (inB J) (patsF xs (inB J) [] (l.take j)).2 t).2) by
          rw [take_one htj, pats_snoc])
        have HNE := hid (pat_ne HOK.out (inB J) hth (opG_range (nd_len HOK.out hth)) (patsF xs (inB J) [] (l.take j)).2)
        have HPL := hid (show (patT xs (inB J) (patsF xs (inB J) [] (l.take j)).2 t).1.length ≤ 10000000 by
          refine HPN.out _ ?_
          have e : l = l.take (j + 1) ++ l.drop (j + 1) := (List.take_append_drop _ _).symm
          rw [e, pats_app, HTK.out]
          simp)
        have HWT := hid (HW1.out wr.heap.size wr.heap.size w1.heap.size t hth)
        obtain ⟨Ao, co, rfl, -⟩ := SlA.owned HR.out.row
        generalize hnum : patsF xs (inB J) [] (l.take j) = PJ at *
        obtain ⟨ps, num⟩ := PJ
        have HNUM := hid hnum
        simp only at HTK HNE HPL
        generalize hpt : patT xs (inB J) num t = pt at *
        obtain ⟨pb, pn⟩ := pt
        have HPT := hid hpt
        simp only at HTK HNE HPL
        have HLO := hid HR.out.lo
        have HAL := hid (show Below wr.heap.size wr (wr.alloc (.cells #[.pointer none, .slice none 0 0, .pointer (some ⟨sp, 0, none⟩), .map (some w1.heap.size)] 166)) from (Below.refl _ _).alloc (Nat.le_refl _) _)
        have HPW := hid (show PwS w1 (wr.alloc (.cells #[.pointer none, .slice none 0 0, .pointer (some ⟨sp, 0, none⟩), .map (some w1.heap.size)] 166)) wr.heap.size wr.heap.size sp w1.heap.size [] num by
          obtain ⟨D, h1, h2⟩ := HR.out.map
          rw [hnum] at h1 h2
          exact ⟨HR.out.low.trans (HAL.out.mono HR.out.low.size), wr_new wr _ _, ⟨D, h1.alloc _, h2⟩, HLO.out.1, HLO.out.2.1, by simp⟩)
        have HROW := hid (show wr.ownsRow w1.heap.size 9 1 (.slice Ao j co) j (ps.map strV) by
          have := HR.out.row
          rw [hnum] at this
          exact this)
        have HCALL := hid (HWT.out [] num _ HPW.out (by rw [hpt]; have := HPL.out; simp; omega))
        rw [hpt] at HCALL
        have HBW := hid hbl
        clear hbl htj hnum hpt hth HR HWT HPW
        go_wp2_with fail
        refine HCALL.out.mono ?_
        rintro e w2 ⟨rfl, h2, o2⟩
        have H2 := hid h2; have O2 := hid o2
        have HSTR := hid (wout_any wr.heap.size wr.heap.size _ _ w2 pb (by have := h2.wr; simpa using this) HNE.out)
        clear h2 o2 hct
        go_wp2_with fail
        refine HSTR.out.mono ?_
        rintro e w3 ⟨rfl, b3⟩
        have B3 := hid b3
        have H3L := hid (show Below w1.heap.size w1 w3 from H2.out.low.trans (b3.mono (by have := HLO.out; omega)))
        have HROW3 := hid (show w3.ownsRow w1.heap.size 9 1 (.slice Ao j co) j (ps.map strV) by
          refine own_block HROW.out fun k hk => ?_
          have hkl := (HROW.out.lt k hk).2
          rw [b3.block k hkl]
          rcases HROW.out.2 with ⟨e, _⟩ | ⟨g, cap, cur, e, _, hh, _⟩
          · injection e with e
            subst e
            cases hk
          · injection e with e
            subst e
            injection hk with hk
            subst hk
            have h5 : (wr.alloc (.cells #[.pointer none, .slice none 0 0, .pointer (some ⟨sp, 0, none⟩), .map (some w1.heap.size)] 166)).heap[g]? = some (.cells cur 9 (0, 0)) := (heap_alloc_old _ _ hkl).trans hh
            have hkg : g < wr.heap.size := hkl
            exact (O2.out _ _ _ _ h5 (by decide) (by omega)).trans (h5.trans hh.symm))
        have HMAP3 := hid (show ∃ D, w3.ownsMap Tryz.prog 3 (plainElem Tryz.prog 3) w1.heap.size pn.length D ∧ NB D pn by
          obtain ⟨D, h1, h2⟩ := H2.out.map
          exact ⟨D, map_block h1 (b3.block _ HLO.out.2.1), h2⟩)
        have HSZ := hid (show wr.heap.size ≤ w3.heap.size from Nat.le_trans H2.out.lo.2.2 b3.size)
        clear b3 H2 HROW HCALL
        go_wp2_with (first
          | (at_builtin; refine wpList_append_sl _ rfl _ _ 110 rfl w1.heap.size 9 i0 (.string ⟨#[]⟩) 1 16 Tryz.underlying110 hi hz0 hz1 hz2 rfl (by decide) (.slice Ao j co) j (ps.map strV) rfl (HROW3.out.alloc _) _ 1 1 [strV pb] rfl (SlA.lit1 _) (fun u hu => by rw [List.mem_singleton] at hu; subst hu; rfl) (by unfold maxLen; omega) (by omega) (by have := HLO.out; have := HSZ.out; simp; omega) ?_; intro v5 w5 own5 gr5 loc5; have HO5 := hid own5; have HG5 := hid gr5; clear own5 gr5 loc5)
          | fail)
        go_roundw
        case rel =>
          refine ⟨j + 1, by go_num, by omega, hid ?_⟩
          have hrl := HROW3.out
          have hg := HG5.out
          have hs3 : (w3.alloc (.cells #[.string ⟨pb.toArray⟩] 9)).heap.size = w3.heap.size + 1 := by simp
          have hlo := HLO.out
          have hsz := HSZ.out
          have hnm : some w1.heap.size ≠ (Value.slice Ao j co).ownBlock := fun e => by
            obtain ⟨D, ⟨es, clock, h1, -⟩, -⟩ := HMAP3.out
            rcases hrl.2 with ⟨e2, _⟩ | ⟨g, cap, cur, e2, _, hh, _⟩
            · rw [e2] at e; cases e
            · rw [e2] at e
              injection e with e
              simp only at e
              rw [← e, h1] at hh
              cases hh
          refine ⟨?_, ?_, ?_, hlo.1, ?_, hlo.2.2⟩
          · refine (H3L.out.alloc (by omega) _).grown hg (by rw [hs3]; omega) fun k hk => ?_
            exact (hrl.lt k hk).1
          · rw [HTK.out]
            obtain ⟨D, h1, h2⟩ := HMAP3.out
            refine ⟨D, map_block h1 ?_, h2⟩
            rw [hg.block _ (by rw [hs3]; omega) (fun e => hnm e), Lib.alloc_old w3 _ _ (by omega)]
          · rw [HTK.out, List.map_append]
            exact HO5.out
          · have := hg.size
            rw [hs3] at this
            omega
        case measure => simp [intOf]; omega
      · have hjn : j = n := by omega
        subst hjn
        have hlt' : ¬ ((j : Nat) : Int) < (j : Int) := by omega
        obtain ⟨Ao, co, rfl, -⟩ := SlA.owned HR.out.row
        have HRR := hid (show wr.ownsRow W.heap.size 9 1 (.slice Ao l.length co) l.length ((patsF xs (derB xs l) [] l).1.map strV) by
          have := HR.out.row
          rw [show l.take j = l from List.take_of_length_le (by omega), ← HCG.out] at this
          rw [hln]
          exact own_mono this HB.out.size)
        have HBW := hid (HB.out.trans (HR.out.low.mono HB.out.size))
        have HLN := hid hln
        clear hlt HR hln
        go_wp2_with fail
        first | go_ret2 | go_ret
        exact (show PatP _ _ _ _ _ from .inr ⟨HF.out, Ao, co, by rw [HLN.out] <;> rfl, HRR.out, HBW.out⟩)
end Go.Proofs.YtfmkniakfgpgjaaGreatDoor

/- Arguments opened: what the walk is told of a value that can be read. Of no program. -/
namespace Go.KK
open Go.ChangeShapes Go.WideShapes Go.ChangeAt Go.RowKit Go.Deep
set_option linter.unusedVariables false
set_option linter.unusedSimpArgs false

section
variable {H : Type} {enc : TypeId × Value → H} {P : Program} {w : World} {base : Nat} {spare : Nat → Bool} {held : Bool}
end
end Go.KK

/- Arguments opened: a row of term's nodes. Of no program. -/
namespace Go.KK
open Go.ChangeShapes Go.WideShapes Go.ChangeAt Go.RowKit Go.Deep
set_option linter.unusedVariables false
set_option linter.unusedSimpArgs false

/-- What is known of a node that came in. -/
structure NdW (x : ND) : Prop where
  o : -9223372036854775808 ≤ x.o ∧ x.o ≤ 9223372036854775807
  n : -9223372036854775808 ≤ x.n ∧ x.n ≤ 9223372036854775807
  l : ∀ i ∈ x.l, -9223372036854775808 ≤ i ∧ i ≤ 9223372036854775807
  s : x.s.size ≤ maxLen
section
variable {H : Type} {enc : TypeId × Value → H} {P : Program} {w : World} {base : Nat} {spare : Nat → Bool} {held : Bool}
theorem trod_ints {fuel : Nat} {t e : TypeId} {k : IntKind} {v : Value} {y : DataW H × List MemPlace} (ht : P.underlying t = some (.slice e)) (he : P.underlying e = some (.int k)) (hc : P.cellsOf e = 1)
    (h : DataW.trod enc P w base spare held fuel t [v] = some y) : ∃ (A : Option Addr) (n c : Nat) (l : List Int), v = .slice A n c ∧ SlA w 1 A n c (l.map (Value.int k)) ∧ ∀ x ∈ l, (Lit.int k x).wf = true := by
  rcases open_ints ht he hc h with ⟨hcs, _⟩ | ⟨x, l, c', zs, hcs, _, hl, hm, hz, _, hcell, hwz⟩
  · injection hcs with hcs
    subst hcs
    exact ⟨_, _, _, [], rfl, SlA.nil _ _, by simp⟩
  · injection hcs with hcs
    subst hcs
    have hzl : l ≤ zs.length := by rw [hz]; split <;> omega
    refine ⟨_, _, _, zs.take l, rfl, ⟨hl, hm, by simp; omega, fun j u hj => ?_⟩, fun y hy => hwz y (List.mem_of_mem_take hy)⟩
    rw [List.getElem?_map, List.getElem?_take] at hj
    split at hj
    · rename_i hjn
      have hc := hcell j (by omega)
      have hjl : j < zs.length := by omega
      rw [List.getElem?_eq_getElem hjl] at hj
      simp only [Option.map_some, Option.some.injEq] at hj
      obtain ⟨b, off, spot⟩ := x
      have h0 := hcell 0 (by omega)
      have hspot : spot = none := by simpa [Addr.add] using World.cell?_spot h0
      subst hspot
      refine ⟨b, off, rfl, ?_⟩
      rw [add_lit] at hc
      rw [hc, ← hj, List.getD, List.getElem?_eq_getElem hjl]
      rfl
    · cases hj
theorem choose_list {α : Type} {Q : Nat → α → Prop} : ∀ (n : Nat), (∀ j, j < n → ∃ x, Q j x) → ∃ l : List α, l.length = n ∧ ∀ j x, l[j]? = some x → Q j x
  | 0, _ => ⟨[], rfl, fun j x h => by simp at h⟩
  | n + 1, h => by
    obtain ⟨l, hl, hq⟩ := choose_list n (fun j hj => h j (by omega))
    obtain ⟨x, hx⟩ := h n (by omega)
    refine ⟨l ++ [x], by simp [hl], fun j y hy => ?_⟩
    by_cases hj : j < n
    · rw [List.getElem?_append_left (by omega)] at hy
      exact hq j y hy
    · by_cases hjn : j = n
      · subst hjn
        rw [List.getElem?_append_right (by omega), hl, Nat.sub_self] at hy
        injection hy with hy
        rw [← hy]; exact hx
      · rw [List.getElem?_eq_none (by simp; omega)] at hy; cases hy
end
end Go.KK

/- deduce's law: two, few, SameTexts. -/
namespace Go.KK
open Go.RowKit
set_option linter.unusedVariables false
set_option linter.unusedSimpArgs false
theorem arr_eq {p q : List UInt8} : (⟨p.toArray⟩ : ByteArray) = ⟨q.toArray⟩ ↔ p = q := by
  constructor
  · intro e
    injection e with e
    have := congrArg Array.toList e
    simpa using this
  · rintro rfl; rfl
theorem takeL_step {α : Type} {l m : List α} {j : Nat} {x : α} (h : l.take j = m.take j) (h1 : l[j]? = some x) (h2 : m[j]? = some x) : l.take (j + 1) = m.take (j + 1) := by rw [take_one h1, take_one h2, h]
theorem atL_ne {α : Type} {l m : List α} {j : Nat} {x y : α} (h1 : l[j]? = some x) (h2 : m[j]? = some y) (h : x ≠ y) : l ≠ m := fun e => h (by rw [e, h2] at h1; injection h1 with h1; exact h1.symm)
end Go.KK
namespace Go.Proofs.YtfmkniakfgpgjaaGreatDoor
open Go.RowKit Go.KK Go.Shelf Go.Maps

theorem strRow_at {w : World} {A : Option Addr} {n c : Nat} {ps : List (List UInt8)} (h : SlA w 1 A n c (ps.map strV)) {j : Nat} (hj : j < n) : ∃ b o p, A = some ⟨b, o, none⟩ ∧ ps[j]? = some p ∧ w.cell? ⟨b, o + j, none⟩ = some (.string ⟨p.toArray⟩) := by
  have hl := h.len
  rw [List.length_map, Nat.mul_one] at hl
  have hx : ps[j]? = some ps[j] := List.getElem?_eq_getElem (by omega)
  obtain ⟨b, o, e, hc⟩ := h.cells j (strV ps[j]) (by rw [List.getElem?_map, hx]; rfl)
  exact ⟨b, o, _, e, hx, hc⟩
theorem strRow_len {w : World} {A : Option Addr} {n c : Nat} {ps : List (List UInt8)} (h : SlA w 1 A n c (ps.map strV)) : ps.length = n := by
  have hl := h.len
  rw [List.length_map, Nat.mul_one] at hl
  exact hl
set_option maxHeartbeats 1000000 in
theorem eq_texts (A : Option Addr) (n c : Nat) (l : List (List UInt8)) (B : Option Addr) (m d : Nat) (l' : List (List UInt8)) (w : World) (h : SlA w 1 A n c (l.map strV)) (h' : SlA w 1 B m d (l'.map strV)) (hn : n ≤ 2147483648) :
    Calls Tryz.prog 69 #[.slice A n c, .slice B m d] w fun e w' => e = .returned (.bool (decide (l = l'))) ∧ ∃ q, w' = w.drewN q := by
  have HL := hid (strRow_len h); have HS := hid h; have HL' := hid (strRow_len h'); have HS' := hid h'
  clear h h'
  by_cases hnm : n = m
  · subst hnm
    go_enter Tryz.func69, Tryz.ntmps69
    go_wp2
    go_loopw [13, 5] (fun i _ wr => ∃ j q : Nat, i = .int .i64 j ∧ j ≤ n ∧ Hid (l.take j = l'.take j) ∧ wr = w.drewN q) (fun i _ _ => n - (intOf i).toNat)
    case atStart => exact ⟨0, 0, rfl, by omega, hid rfl, rfl⟩
    case round =>
      obtain ⟨j, q, hi, hj, HJ, hw⟩ := hrel
      subst hi; subst hw
      by_cases hlt : j < n
      · obtain ⟨b, o, z, rfl, hz, hc⟩ := strRow_at HS.out hlt
        obtain ⟨b', o', z', rfl, hz', hc'⟩ := strRow_at HS'.out hlt
        have hj0 : (0 : Int) ≤ (j : Int) := by omega
        have hj1 : (j : Int) < (n : Int) := by omega
        have HZ := hid hz; have HZ' := hid hz'
        clear hz hz'
        by_cases hzx : z = z'
        · have HF := hid (takeL_step HJ.out HZ.out (hzx ▸ HZ'.out))
          subst hzx
          clear HZ HZ'
          generalize (⟨z.toArray⟩ : ByteArray) = S at *
          have h2 : (S == S) = true := by rw [Go.MapKept.bytes_beq]
          have h1 : (S != S) = false := by unfold bne; rw [h2]; rfl
          go_wp2
          go_quiet (fail)
          go_wp2
          go_roundw
          case rel => exact ⟨j + 1, _, by go_num, by omega, HF, rfl⟩
          case measure => simp [intOf]; omega
        · have HF := hid (show decide (l = l') = false from decide_eq_false (atL_ne HZ.out HZ'.out hzx))
          have hS : (⟨z.toArray⟩ : ByteArray) ≠ ⟨z'.toArray⟩ := fun e => hzx (arr_eq.1 e)
          clear HZ HZ' hzx
          generalize (⟨z.toArray⟩ : ByteArray) = S at *
          generalize (⟨z'.toArray⟩ : ByteArray) = S' at *
          have h1 : (S == S') = false := by
            rw [Bool.eq_false_iff]
            intro e
            rw [Go.MapKept.bytes_beq] at e
            exact hS e
          have h2 : (S != S') = true := by unfold bne; rw [h1]; rfl
          have h3 : (S.toList == S'.toList) = false := by rw [← beq_toListBytes]; exact h1
          clear hS
          go_wp2
          go_quiet (fail)
          go_wp2
          go_ret
          exact ⟨by rw [HF.out]; rfl, _, World.drewN_drewN _ _ _⟩
      · have HF := hid (show decide (l = l') = true from decide_eq_true (by
          have := HJ.out
          rwa [List.take_of_length_le (by have := HL.out; omega), List.take_of_length_le (by have := HL'.out; omega)] at this))
        go_wp2
        go_ret
        exact ⟨by rw [HF.out]; rfl, q, rfl⟩
  · have HF := hid (show decide (l = l') = false from decide_eq_false fun e => hnm (by rw [← HL.out, ← HL'.out, e]))
    have hnm' : ((n : Int) != (m : Int)) = true := bne_iff_ne.2 (by omega)
    clear hnm
    go_enter Tryz.func69, Tryz.ntmps69
    go_wp2
    go_ret
    exact ⟨by rw [HF.out]; rfl, 0, rfl⟩
end Go.Proofs.YtfmkniakfgpgjaaGreatDoor

/- deduce: Alike. -/
namespace Go.Proofs.YtfmkniakfgpgjaaGreatDoor
open Go.RowKit Go.KK Go.Shelf Go.Maps
set_option linter.unusedVariables false
set_option linter.unusedSimpArgs false

/-- What Alike answers. -/
noncomputable def alkB (xs : List ND) (x y : List Int) : Bool := x.all (hasB xs) && y.all (hasB xs) && decide ((patsF xs (derB xs x) [] x).1 = (patsF xs (derB xs y) [] y).1)
def alkE (xs : List ND) (x y : List Int) : Int := if x.all (hasB xs) && y.all (hasB xs) then 0 else 1
set_option maxHeartbeats 2000000 in
set_option maxRecDepth 100000 in
theorem alike_any (W : World) (st : Nat) (xs : List ND) (A : Option Addr) (n c : Nat) (x : List Int) (A' : Option Addr) (n' c' : Nat) (y : List Int) (hA : ArV W 122 st xs) (hok : Okay xs) (hul : ∀ m, (uses xs m).length ≤ 100000000) (hx : SlA W 1 A n c (x.map (.int .i64))) (hy : SlA W 1 A' n' c' (y.map (.int .i64))) (hn : n ≤ 1000000) (hn' : n' ≤ 1000000) (hT : Tb W.heap.size W) (hs : ∀ x ∈ xs, x.s.size ≤ 1000000)
    (hpx : x.all (hasB xs) = true → ∀ p ∈ (patsF xs (derB xs x) [] x).1, p.length ≤ 10000000) (hpy : y.all (hasB xs) = true → ∀ p ∈ (patsF xs (derB xs y) [] y).1, p.length ≤ 10000000) :
    Calls Tryz.prog 29 #[.pointer (some ⟨st, 0, none⟩), .slice A n c, .slice A' n' c'] W fun e w' => e = .returned (.tuple #[.bool (alkB xs x y), .int .i64 (alkE xs x y)]) ∧ Below W.heap.size W w' := by
  have HP1 := hid (pattern_any W st xs A n c x hA hok hul hx hn hT hs hpx)
  have HP2 := hid (fun (U : World) (hb : Below W.heap.size W U) => pattern_any U st xs A' n' c' y (hA.ext hb) hok hul (hy.ext hb) hn' (Tb.up (hT.on hb) hb.size) hs hpy)
  have HXL := hid hx.lenI; have HYL := hid hy.lenI
  clear hA hok hul hx hy hT hs hpx hpy
  go_enter Tryz.func29, Tryz.ntmps29
  go_wp2_with fail
  refine HP1.out.mono ?_
  rintro e w1 (⟨hall, rfl, hb⟩ | ⟨hall, A1, c1, rfl, hr1, hb⟩)
  · have HF := hid (show alkB xs x y = false ∧ alkE xs x y = 1 by unfold alkB alkE; rw [hall]; exact ⟨rfl, rfl⟩)
    have HB := hid hb
    clear hall hb
    go_wp2_with fail
    refine (HP2.out _ HB.out).mono ?_
    rintro e w2 (⟨hall, rfl, hb⟩ | ⟨hall, A2, c2, rfl, hr2, hb⟩)
    all_goals
      have HB2 := hid (HB.out.trans (hb.mono HB.out.size))
      clear hall hb
      go_wp2_with fail
      first | go_ret2 | go_ret
      exact ⟨by rw [HF.out.1, HF.out.2] <;> rfl, HB2.out⟩
  · have HF1 := hid hall
    have HB := hid hb
    have HR1 := hid (SlA.of_own hr1).2
    clear hall hb hr1
    go_wp2_with fail
    refine (HP2.out _ HB.out).mono ?_
    rintro e w2 (⟨hall, rfl, hb⟩ | ⟨hall, A2, c2, rfl, hr2, hb⟩)
    · have HF := hid (show alkB xs x y = false ∧ alkE xs x y = 1 by unfold alkB alkE; rw [hall, HF1.out]; exact ⟨rfl, rfl⟩)
      have HB2 := hid (HB.out.trans (hb.mono HB.out.size))
      clear hall hb
      go_wp2_with fail
      first | go_ret2 | go_ret
      exact ⟨by rw [HF.out.1, HF.out.2] <;> rfl, HB2.out⟩
    · have HF := hid (show alkB xs x y = decide ((patsF xs (derB xs x) [] x).1 = (patsF xs (derB xs y) [] y).1) ∧ alkE xs x y = 0 by unfold alkB alkE; rw [hall, HF1.out]; exact ⟨rfl, rfl⟩)
      have HB2 := hid (HB.out.trans (hb.mono HB.out.size))
      have HR2 := hid (SlA.of_own hr2).2
      have HEQ := hid (eq_texts A1 x.length c1 _ A2 y.length c2 _ w2 (HR1.out.ext hb) HR2.out (by have := HXL.out; omega))
      clear hall hb hr2 HR1 HR2
      go_wp2_with fail
      refine HEQ.out.mono ?_
      rintro e w3 ⟨rfl, q, rfl⟩
      generalize decide ((patsF xs (derB xs x) [] x).1 = (patsF xs (derB xs y) [] y).1) = bb at *
      go_wp2_with fail
      first | go_ret2 | go_ret
      exact ⟨by rw [HF.out.1, HF.out.2] <;> rfl, below_drewN HB2.out q⟩
end Go.Proofs.YtfmkniakfgpgjaaGreatDoor

/- deduce: Derives. -/
namespace Go.Proofs.YtfmkniakfgpgjaaGreatDoor
open Go.RowKit Go.KK Go.Shelf Go.Maps
set_option linter.unusedVariables false
set_option linter.unusedSimpArgs false

/-- What Derives answers. -/
noncomputable def drvB (xs : List ND) (known : List Int) (goal : Int) : Bool := known.all (hasB xs) && hasB xs goal && derB xs known goal
def drvE (xs : List ND) (known : List Int) (goal : Int) : Int := if known.all (hasB xs) && hasB xs goal then 0 else 1
set_option maxHeartbeats 1000000 in
theorem derives_any (W : World) (st : Nat) (xs : List ND) (A : Option Addr) (n c : Nat) (known : List Int) (goal : Int) (hA : ArV W 122 st xs) (hok : Okay xs) (hul : ∀ m, (uses xs m).length ≤ 100000000) (hl : SlA W 1 A n c (known.map (.int .i64))) (hn : n ≤ 1000000) :
    Calls Tryz.prog 30 #[.pointer (some ⟨st, 0, none⟩), .slice A n c, .int .i64 goal] W fun e w' => e = .returned (.tuple #[.bool (drvB xs known goal), .int .i64 (drvE xs known goal)]) ∧ Below W.heap.size W w' := by
  have HCL := hid (closed_any W st xs A n c known hA hok hul hl hn)
  have HOK := hid hok
  have HH := hid (has_iff (xs := xs) (t := goal))
  clear hA hok hul hl
  go_enter Tryz.func30, Tryz.ntmps30
  go_wp2_with fail
  refine HCL.out.mono ?_
  rintro e w1 (⟨hall, rfl, hb⟩ | ⟨hall, sp, G, R, lv, uv, I, rfl, hi, hs, hb, -⟩)
  · have HF := hid (show drvB xs known goal = false ∧ drvE xs known goal = 1 by unfold drvB drvE; rw [hall]; exact ⟨rfl, rfl⟩)
    have HB := hid hb
    clear hall hb HCL
    go_wp2_with fail
    first | go_ret2 | go_ret
    exact ⟨by rw [HF.out.1, HF.out.2] <;> rfl, HB.out⟩
  · have HB := hid hb; have HI := hid hi; have HS := hid hs
    obtain ⟨Al, cl, qs, rfl, -⟩ := hs.rdl
    obtain ⟨iv, ov, ⟨c0, c1, c2, c3⟩, -, own1, -⟩ := hs.cells
    have hlen : I.length = xs.length := hs.len
    clear hi hs hb HCL
    by_cases h0 : goal < 0
    · have HF := hid (show drvB xs known goal = false ∧ drvE xs known goal = 1 by
        have : hasB xs goal = false := by
          rw [Bool.eq_false_iff]
          intro e
          have := HH.out.1 e
          omega
        unfold drvB drvE
        rw [hall, this]
        exact ⟨rfl, rfl⟩)
      have h0' : decide (goal < 0) = true := decide_eq_true h0
      clear hall own1
      go_wp2_with fail
      first | go_ret2 | go_ret
      exact ⟨by rw [HF.out.1, HF.out.2] <;> rfl, HB.out⟩
    · have h0' : decide (goal < 0) = false := decide_eq_false h0
      by_cases h1 : (xs.length : Int) ≤ goal
      · have HF := hid (show drvB xs known goal = false ∧ drvE xs known goal = 1 by
          have : hasB xs goal = false := by
            rw [Bool.eq_false_iff]
            intro e
            have := HH.out.1 e
            omega
          unfold drvB drvE
          rw [hall, this]
          exact ⟨rfl, rfl⟩)
        have h1' : decide ((xs.length : Int) ≤ goal) = true := decide_eq_true h1
        clear hall own1
        go_wp2_with fail
        first | go_ret2 | go_ret
        exact ⟨by rw [HF.out.1, HF.out.2] <;> rfl, HB.out⟩
      · have hth : hasB xs goal = true := HH.out.2 ⟨by omega, by omega⟩
        obtain ⟨k, rfl⟩ := Int.eq_ofNat_of_zero_le (show 0 ≤ goal by omega)
        obtain ⟨ib, cap, rfl, hcb, hfb⟩ := in_cell own1 (t := k) (by show k < I.length; omega)
        have HF := hid (show drvB xs known (k : Int) = inB I (k : Int) ∧ drvE xs known (k : Int) = 0 by
          have hd := HI.out.done HOK.out (fun x hx => List.all_eq_true.1 hall x hx) hth
          have he : inB I (k : Int) = derB xs known (k : Int) := by
            rw [Bool.eq_iff_iff, derB_iff]; exact hd
          unfold drvB drvE
          rw [hall, hth, he]
          exact ⟨rfl, rfl⟩)
        have h1' : decide ((xs.length : Int) ≤ (k : Int)) = false := decide_eq_false h1
        have hkI : (k : Int) < (I.length : Int) := by omega
        have hcb' : w1.cell? ⟨ib, k, none⟩ = some (.bool (inB I (k : Int))) := hcb
        generalize inB I (k : Int) = bb at *
        clear hall own1 hcb hth
        go_wp2_with fail
        first | go_ret2 | go_ret
        exact ⟨by rw [HF.out.1, HF.out.2] <;> rfl, HB.out⟩
end Go.Proofs.YtfmkniakfgpgjaaGreatDoor

/- nodes' law: NodesHide walked. -/
namespace Go.Proofs.YtfmkniakfgpgjaaGreatDoor
open Go.RowKit Go.KK Go.Shelf Go.Maps
set_option linter.unusedVariables false
set_option linter.unusedSimpArgs false

theorem s_small {X : List ND} (ok : Okay X) : ∀ x ∈ X, x.s.size ≤ 1000000 := fun x hx => by
  obtain ⟨j, hj⟩ := List.mem_iff_getElem?.1 hx
  have := ok.may _ _ hj
  unfold mayB shB at this
  simp only [Bool.and_eq_true, decide_eq_true_eq] at this
  have := this.1.1.1.1.2
  omega
theorem opq_alk {X : List ND} (ok : Okay X) {l m : List Int} (h : Opq X l) (k : Opq X m) (hn : l.Nodup) (km : m.Nodup) : alkB X l m = decide (l.length = m.length) ∧ alkE X l m = 0 := by
  have a : l.all (hasB X) = true := List.all_eq_true.2 h.has
  have b : m.all (hasB X) = true := List.all_eq_true.2 k.has
  unfold alkB alkE
  rw [a, b, opq_pats ok h hn, opq_pats ok k km]
  refine ⟨?_, rfl⟩
  rw [Bool.true_and, Bool.true_and]
  refine decide_eq_decide.2 ⟨fun e => ?_, fun e => by rw [e]⟩
  have := congrArg List.length e
  simpa using this
theorem opq_len {X : List ND} (ok : Okay X) {l : List Int} (h : Opq X l) (hn : l.Nodup) (hl : l.length ≤ 1000) : ∀ p ∈ (patsF X (derB X l) [] l).1, p.length ≤ 10000000 := by
  rw [opq_pats ok h hn]
  intro p hp
  obtain ⟨k, hk, rfl⟩ := List.mem_map.1 hp
  have := encP_len k (by have := List.mem_range.1 hk; omega)
  omega
theorem bad_id {X : List ND} {n : TN} (h : badN X n = false) (hk : n.k = 1) : hasB X n.i = true := by
  unfold badN prtF at h
  rw [if_pos hk] at h
  simp only [Bool.or_eq_false_iff] at h
  have := List.any_eq_false.1 h.1.2 n.i (by simp)
  simpa using this
theorem opq_drv {X : List ND} (ok : Okay X) {l : List Int} (h : Opq X l) {g : Int} (hg : hasB X g = true) : drvE X l g = 0 ∧ ((nodeF X g).o = 1 → drvB X l g = false) := by
  have a : l.all (hasB X) = true := List.all_eq_true.2 h.has
  unfold drvE drvB
  rw [a, hg]
  exact ⟨rfl, fun ho => by rw [opq_atom ok h ho]; rfl⟩
set_option maxHeartbeats 8000000 in
set_option maxRecDepth 100000 in
theorem hide_go (A : Option Addr) (n c : Nat) (t : List TN) (B : Option Addr) (m d : Nat) (u : List TN) (w : World) (ht : Tr w A n c t) (hti : ∀ m ∈ t, TnI m) (hu : Tr w B m d u) (hui : ∀ m ∈ u, TnI m) (hT : Tb w.heap.size w) :
    Calls Tryz.prog 7 #[.slice A n c, .slice B m d] w fun e w' => e = .returned (.bool true) ∧ Below w.heap.size w w' := by
  have HT := hid hT; have HTR := hid ht; have HTI := hid hti; have HUR := hid hu; have HUI := hid hui
  have HTL := hid ht.len; have HUL := hid hu.len
  have hnc := ht.nc; have hmd := hu.nc
  have hnm : n ≤ 9223372036854775807 := by have := hnc.1; have := hnc.2; unfold maxLen at *; omega
  have hmm : m ≤ 9223372036854775807 := by have := hmd.1; have := hmd.2; unfold maxLen at *; omega
  have HLV := hid (live22_any w hT)
  clear hT ht hti hnc hu hui hmd
  go_enter Tryz.func7, Tryz.ntmps7
  go_wp2_with fail
  refine HLV.out.mono ?_
  rintro e w1 ⟨rfl, b1⟩
  have HB1 := hid b1
  have HTR1 := hid (HTR.out.ext b1); have HUR1 := hid (HUR.out.ext b1)
  have HFW := hid (nfew_any (some ⟨w1.heap.size, 0, none⟩) 2 2 [.slice A n c, .slice B m d] [t, u] (w1.alloc (.cells #[.slice A n c, .slice B m d] 22)) (sla_row (w := w1) (T := 22) #[.slice A n c, .slice B m d] (by unfold maxLen; simp)) rfl (by decide) (fun j v xs hv hx => by
    rcases j with _ | _ | j
    · injection hv with hv; injection hx with hx; subst hv; subst hx
      exact ⟨A, n, c, rfl, HTR1.out.alloc _⟩
    · injection hv with hv; injection hx with hx; subst hv; subst hx
      exact ⟨B, m, d, rfl, HUR1.out.alloc _⟩
    · simp at hv))
  have HB1a := hid (HB1.out.alloc HB1.out.size (.cells #[.slice A n c, .slice B m d] 22))
  clear b1 HLV
  rcases hfw : [t, u].all fewN with _ | _
  · rw [hfw] at HFW
    clear hfw
    go_wp2_with fail
    refine HFW.out.mono ?_
    rintro e w2 ⟨rfl, b2⟩
    have HB2 := hid (HB1a.out.trans (b2.mono HB1a.out.size))
    clear b2 HFW
    go_wp2_with fail
    go_ret
    exact ⟨rfl, HB2.out⟩
  rw [hfw] at HFW
  have HU := hid (fewN_u (List.all_eq_true.1 hfw t (by simp))); have HV := hid (fewN_u (List.all_eq_true.1 hfw u (by simp)))
  clear hfw
  by_cases h40 : 40 < n
  · have h40' : (40 : Int) < (n : Int) := by omega
    go_wp2_with fail
    refine HFW.out.mono ?_
    rintro e w2 ⟨rfl, b2⟩
    have HB2 := hid (HB1a.out.trans (b2.mono HB1a.out.size))
    clear b2 HFW
    go_wp2_with fail
    go_ret
    exact ⟨rfl, HB2.out⟩
  have h40' : ¬ (40 : Int) < (n : Int) := by omega
  have hd1 : decide ((40 : Int) < (n : Int)) = false := decide_eq_false h40'
  by_cases g40 : 40 < m
  · have g40' : (40 : Int) < (m : Int) := by omega
    go_wp2_with fail
    refine HFW.out.mono ?_
    rintro e w2 ⟨rfl, b2⟩
    have HB2 := hid (HB1a.out.trans (b2.mono HB1a.out.size))
    clear b2 HFW
    go_wp2_with fail
    go_ret
    exact ⟨rfl, HB2.out⟩
  have g40' : ¬ (40 : Int) < (m : Int) := by omega
  have hd2 : decide ((40 : Int) < (m : Int)) = false := decide_eq_false g40'
  have hn40 : n ≤ 40 := by omega
  have hm40 : m ≤ 40 := by omega
  clear h40 g40
  go_wp2_with fail
  refine HFW.out.mono ?_
  rintro e w2 ⟨rfl, b2⟩
  have bb := ((Below.refl w1.heap.size w1).alloc (Nat.le_refl _) (.cells #[.slice A n c, .slice B m d] 22)).trans (b2.mono (by simp))
  have HB2 := hid (HB1.out.trans (bb.mono HB1.out.size))
  have HTR2 := hid (HTR1.out.ext bb); have HUR2 := hid (HUR1.out.ext bb)
  have HT2 := hid (show Tb w2.heap.size w2 from Tb.up (HT.out.on HB2.out) HB2.out.size)
  clear b2 bb HFW HB1 HB1a HTR1 HTR HUR1 HUR h40' g40'
  go_wp2_with fail
  refine (two22_any w2 HT2.out).mono ?_
  rintro e w3 ⟨sa, sb, Z, Z', X, ep, rfl, hE, htx⟩
  have HE := hid hE
  obtain ⟨e0, e1, e2, e3, e4, e5, e6, e7, e8, e9, e10, rfl⟩ := len11 hE.len
  have HP := hid (two_box htx.a (.cells #[.int .i64 e0, .int .i64 e1, .int .i64 e2, .int .i64 e3, .int .i64 e4, .int .i64 e5, .int .i64 e6, .int .i64 e7, .int .i64 e8, .int .i64 e9, .int .i64 e10] 29) (.cells #[.int .i64 e0, .int .i64 e1, .int .i64 e2, .int .i64 e3, .int .i64 e4, .int .i64 e5, .int .i64 e6, .int .i64 e7, .int .i64 e8, .int .i64 e9, .int .i64 e10] 29))
  clear hE htx hd1 hd2
  unfold epV
  go_upto_region 5 with fail
  generalize w3.heap.size = b0 at *
  refine forget (R := fun V => LA w2 V Z sa X ∧ HasO (.cells #[.int .i64 e0, .int .i64 e1, .int .i64 e2, .int .i64 e3, .int .i64 e4, .int .i64 e5, .int .i64 e6, .int .i64 e7, .int .i64 e8, .int .i64 e9, .int .i64 e10] 29 (0, 0)) b0 V ∧ ¬ Z b0 ∧ w2.heap.size ≤ b0) ?_ HP.out
  clear HP
  rintro V ⟨hla, hbx, hzb, hwb⟩
  have HL := hid hla; have HB := hid hbx; have HZ := hid hzb
  clear hla hbx hzb hwb
  obtain ⟨k0, k1, k2, k3, k4, k5, k6, k7, k8, k9, k10⟩ := box11 HB.out
  obtain ⟨qs, hqs⟩ := tr_trq HTR2.out
  obtain ⟨rs, hrs⟩ := tr_trq HUR2.out
  have HFT := hid (fx_trq HL.out hqs); have HFU := hid (fx_trq HL.out hrs)
  have HFB := hid (fx_has HB.out HZ.out)
  clear hqs hrs
  have HLK := hid (lock_any HL.out HT2.out HE.out.len HE.out.i5 (cx := 2) (i64_lit (by decide) (by decide)) HFT.out HTI.out (fun m hm => by have := HU.out m hm; omega) (by omega))
  rw [epV11] at HLK
  have HLKD := hid (fun h => lock_ok (X := X) (ep := [e0, e1, e2, e3, e4, e5, e6, e7, e8, e9, e10]) (cx := 2) (t := t) h)
  have HEX0 := hid (lock_ext X [e0, e1, e2, e3, e4, e5, e6, e7, e8, e9, e10] 2 t)
  generalize lockF X [e0, e1, e2, e3, e4, e5, e6, e7, e8, e9, e10] 2 t = r at *
  generalize beI X [e0, e1, e2, e3, e4, e5, e6, e7, e8, e9, e10] 2 = ex at *
  obtain ⟨Y, l1, er⟩ := r
  dsimp only at HLK HLKD HEX0
  go_wp2_with fail
  refine HLK.out.mono ?_
  rintro e w4 ⟨Z4, v, rfl, l4, m4, o4, z4⟩
  obtain ⟨A4, c4, rfl⟩ := own_shape o4
  have HL4 := hid l4
  have HFL4 := hid ((fx_own o4 z4).mono fun U hU => (SlA.of_own hU).2)
  have HFT4 := hid (HFT.out.mv m4); have HFB4 := hid (HFB.out.mv m4); have HFU4 := hid (HFU.out.mv m4)
  clear l4 o4 z4 m4 HLK HFT HFB HFU HL HB HZ k0 k1 k2 k3 k4 k5 k6 k7 k8 k9 k10
  obtain ⟨k0, k1, k2, k3, k4, k5, k6, k7, k8, k9, k10⟩ := box11 HFB4.out.here
  have HLK := hid (lock_any HL4.out HT2.out HE.out.len HE.out.i5 (cx := 2) (i64_lit (by decide) (by decide)) HFU4.out HUI.out (fun m hm => by have := HV.out m hm; omega) (by omega))
  rw [epV11] at HLK
  have HLKE := hid (fun h => lock_ok (X := Y) (ep := [e0, e1, e2, e3, e4, e5, e6, e7, e8, e9, e10]) (cx := 2) (t := u) h)
  have HEX := hid (lock_ext Y [e0, e1, e2, e3, e4, e5, e6, e7, e8, e9, e10] 2 u)
  generalize lockF Y [e0, e1, e2, e3, e4, e5, e6, e7, e8, e9, e10] 2 u = r at *
  generalize beI Y [e0, e1, e2, e3, e4, e5, e6, e7, e8, e9, e10] 2 = ex2 at *
  obtain ⟨Y2, l2, er2⟩ := r
  dsimp only at HLK HLKE HEX
  go_wp2_with fail
  refine HLK.out.mono ?_
  rintro e w6 ⟨Z6, v, rfl, l6, m6, o6, z6⟩
  obtain ⟨A6, c6, rfl⟩ := own_shape o6
  have HL6 := hid l6
  have HFM6 := hid ((fx_own o6 z6).mono fun U hU => (SlA.of_own hU).2)
  have HFL6 := hid (HFL4.out.mv m6); have HFT6 := hid (HFT4.out.mv m6)
  clear l6 o6 z6 m6 HLK HFT4 HFB4 HFU4 HFL4 HL4 k0 k1 k2 k3 k4 k5 k6 k7 k8 k9 k10
  have HB6 := hid (HB2.out.trans (HL6.out.bl.mono HB2.out.size))
  by_cases her : er = 0
  rotate_left
  · have her' : (er != 0) = true := bne_iff_ne.2 her
    clear her
    go_wp2_with fail
    go_ret
    exact ⟨rfl, HB6.out⟩
  subst her
  by_cases her : er2 = 0
  rotate_left
  · have her' : (er2 != 0) = true := bne_iff_ne.2 her
    clear her
    go_wp2_with fail
    go_ret
    exact ⟨rfl, HB6.out⟩
  subst her
  have HOK := hid HL6.out.ar.ok
  obtain ⟨mx, rfl⟩ := HEX.out
  obtain ⟨my, rfl⟩ := HEX0.out
  have HK1 := hid ((HLKD.out rfl).ext mx); have HK2 := hid (HLKE.out rfl)
  have HNX := hid ((HE.out.nx.ext my).ext mx); have HA0 := hid ((HE.out.at0.ext my).ext mx)
  have HO1 := hid (lkd_opq HK1.out HNX.out HA0.out); have HO2 := hid (lkd_opq HK2.out HNX.out HA0.out)
  have HD1 := hid (lkd_nodup HK1.out); have HD2 := hid (lkd_nodup HK2.out)
  have HLL1 := hid (show l1.length = n by rw [HK1.out.ll, HTL.out])
  have HLL2 := hid (show l2.length = m by rw [HK2.out.ll, HUL.out])
  have HAK := hid (opq_alk HOK.out HO1.out HO2.out HD1.out HD2.out)
  have HBI := hid (show ∀ q ∈ t, q.k = 1 → hasB (X ++ my ++ mx) q.i = true from fun q hq hk => has_ext (has_ext (bad_id (HK1.out.good q hq) hk) my) mx)
  have HT6 := hid (show Tb w6.heap.size w6 from Tb.up (HT2.out.on HL6.out.bl) HL6.out.bl.size)
  clear HLKD HLKE HEX HEX0 HNX HA0 HK1 HK2
  have HAL := hid (alike_any w6 sa (X ++ my ++ mx) A4 l1.length c4 l1 A6 l2.length c6 l2 HL6.out.ar.vw HOK.out (uses_small HOK.out) HFL6.out.here HFM6.out.here (by have := HLL1.out; omega) (by have := HLL2.out; omega) HT6.out (s_small HOK.out) (fun _ => opq_len HOK.out HO1.out HD1.out (by have := HLL1.out; omega)) (fun _ => opq_len HOK.out HO2.out HD2.out (by have := HLL2.out; omega)))
  rw [HAK.out.1, HAK.out.2, HLL1.out, HLL2.out] at HAL
  rw [HLL1.out] at HFL6 ⊢
  rw [HLL2.out]
  have hdm : decide (n = m) = ((n : Int) == (m : Int)) := by
    rw [Bool.eq_iff_iff, decide_eq_true_eq, beq_iff_eq]; omega
  rw [hdm] at HAL
  clear hdm
  go_wp2_with fail
  refine HAL.out.mono ?_
  rintro e w7 ⟨rfl, b7⟩
  have HL7 := hid (HL6.out.ext b7); have HFL7 := hid (HFL6.out.ext b7); have HFT7 := hid (HFT6.out.ext b7)
  clear b7 HL6 HFL6 HFT6 HFM6 HAL HAK HT6 HB6
  generalize X ++ my ++ mx = Y at *
  go_upto_region 12 with fail
  have HB7 := hid (HB2.out.trans (HL7.out.bl.mono HB2.out.size))
  go_wp2_with fail
  go_loopw [86] (fun v wr => ∃ j : Nat, v = .int .i64 j ∧ j ≤ n ∧ Below w7.heap.size w7 wr) (fun v _ => n - (intOf v).toNat)
  case atStart => exact ⟨0, rfl, Nat.zero_le _, Below.refl _ _⟩
  case round =>
    obtain ⟨j, hv, hj, hb⟩ := hrel
    subst hv
    have HB := hid hb
    clear hb
    by_cases hlt : j < n
    · have hlt' : (j : Int) < (n : Int) := by omega
      have HLT := hid hlt
      obtain ⟨b, off, q, A', c', rfl, hx, d0, d1, d2, d3, d4, d5, -⟩ := (HFT7.out.ext HB.out).here.at hlt
      have HQ := hid (List.mem_of_getElem? hx)
      clear hx
      have HBa := hid (HB.out.alloc HB.out.size (.cells #[.int .i64 q.k, .int .i64 q.i, .int .i64 q.e, .int .i64 q.s, .int .i64 q.h, .slice A' q.u.length c'] 46))
      by_cases hk : q.k = 1
      · have HG := hid (opq_drv HOK.out HO1.out (HBI.out q HQ.out hk))
        have HDV := hid (derives_any _ sa Y A4 n c4 l1 q.i (HL7.out.ext HBa.out).ar.vw HOK.out (uses_small HOK.out) (HFL7.out.ext HBa.out).here (by omega))
        rw [HG.out.1] at HDV
        obtain ⟨qk, qi, qe, qs', qh, qu⟩ := q
        dsimp only at hk d0 d1 d2 d3 d4 d5 HBa HG HDV ⊢
        subst hk
        go_wp2_with fail
        refine HDV.out.mono ?_
        rintro e w8 ⟨rfl, b8⟩
        have HB8 := hid (HBa.out.trans (b8.mono HBa.out.size))
        have HD8 := hid (HasO.bel (b := wr.heap.size) (HasO.new (.cells #[.int .i64 1, .int .i64 qi, .int .i64 qe, .int .i64 qs', .int .i64 qh, .slice A' qu.length c'] 46 (0, 0)) wr) b8)
        have kk : w8.cell? ⟨wr.heap.size, 1, none⟩ = some (.int .i64 qi) := by rw [cell_of_row _ _ 1 _ _ (0, 0) HD8.out]; rfl
        clear b8 HDV d0 d1 d2 d3 d4 d5
        have HND := hid (node_any sa Y qi w8 (HL7.out.ext HB8.out).ar.vw)
        go_wp2_with fail
        refine HND.out.mono ?_
        rintro e w9 ⟨A9, c9, rfl, -, b9⟩
        have HB9 := hid (HB8.out.trans (b9.mono HB8.out.size))
        clear b9 HND kk HD8
        have HBz := hid (HB9.out.alloc HB9.out.size (.cells #[.int .i64 (nodeF Y qi).o, .int .i64 (nodeF Y qi).n, .string (nodeF Y qi).s, .slice A9 (nodeF Y qi).l.length c9] 64))
        by_cases ho : (nodeF Y qi).o = 1
        · have HF := hid (HG.out.2 ho)
          rw [HF.out]
          rw [ho] at HBz ⊢
          go_wp2_with fail
          go_roundw
          case rel => exact ⟨j + 1, by go_num, by have := HLT.out; omega, HBz.out⟩
          case measure => have := HLT.out; simp [intOf]; omega
        · have ho' : ((nodeF Y qi).o == 1) = false := beq_eq_false_iff_ne.2 ho
          clear ho
          go_wp2_with fail
          go_roundw
          case rel => exact ⟨j + 1, by go_num, by have := HLT.out; omega, HBz.out⟩
          case measure => have := HLT.out; simp [intOf]; omega
      · have hk' : (q.k != 1) = true := bne_iff_ne.2 hk
        clear hk
        go_wp2_with fail
        go_roundw
        case rel => exact ⟨j + 1, by go_num, by omega, HBa.out⟩
        case measure => simp [intOf]; omega
    · obtain rfl : j = n := by omega
      have hlt' : ¬ (j : Int) < (j : Int) := by omega
      have HBE := hid (HB7.out.trans (HB.out.mono HB7.out.size))
      go_wp2_with fail
      go_ret
      exact ⟨rfl, HBE.out⟩
end Go.Proofs.YtfmkniakfgpgjaaGreatDoor

/- Arguments opened: a node, and a row of nodes. -/
namespace Go.Proofs.YtfmkniakfgpgjaaGreatDoor
open Go.ChangeShapes Go.WideShapes Go.ChangeAt Go.RowKit Go.Deep Go.KK
set_option linter.unusedVariables false
set_option linter.unusedSimpArgs false

section
variable {H : Type} {enc : TypeId × Value → H} {P : Program} {w : World} {base : Nat} {spare : Nat → Bool} {held : Bool}
theorem wf_w64 {a : Int} (h : (Lit.int .i64 a).wf = true) : W64 a := by
  have := bounds_i64 h
  unfold W64
  omega
theorem fld_lo {fs : Array Field} {ti : TypeId} {k : Nat} {f : Field} (h : (fs.toList.take 5).all (fun f => f.type == ti) = true) (hk : k < 5) (hf : fs[k]? = some f) : f.type = ti := by
  have := List.all_eq_true.1 h f (List.mem_of_getElem? (i := k) (by rw [List.getElem?_take, if_pos hk]; simpa using hf))
  simpa using this
theorem fld_hi {fs : Array Field} {tl : TypeId} {f : Field} (h : (fs.toList.drop 5).all (fun f => f.type == tl) = true) (hf : fs[5]? = some f) : f.type = tl := by
  have := List.all_eq_true.1 h f (List.mem_of_getElem? (i := 0) (by rw [List.getElem?_drop]; simpa using hf))
  simpa using this
end
end Go.Proofs.YtfmkniakfgpgjaaGreatDoor

/- Arguments opened: a tree, its lists' numbers too. -/
namespace Go.Proofs.YtfmkniakfgpgjaaGreatDoor
open Go.ChangeShapes Go.WideShapes Go.ChangeAt Go.RowKit Go.Deep Go.KK
set_option linter.unusedVariables false
set_option linter.unusedSimpArgs false

section
variable {H : Type} {enc : TypeId × Value → H} {P : Program} {w : World} {base : Nat} {spare : Nat → Bool} {held : Bool}
/-- A node's cells that read. -/
theorem node_of_trod2 {fuel : Nat} {t ti tl : TypeId} {fs : Array Field} {cs : List Value} {y : DataW H × List MemPlace} (hs : P.underlying t = some (.struct fs)) (hone : oneCellFields P fs = true) (hsz : fs.size = 6) (hC : P.cellsOf t = 6)
    (h0 : (fs.toList.take 5).all (fun f => f.type == ti) = true) (h5 : (fs.toList.drop 5).all (fun f => f.type == tl) = true) (hti : P.underlying ti = some (.int .i64)) (htl : P.underlying tl = some (.slice ti)) (hci : P.cellsOf ti = 1)
    (h : DataW.trod enc P w base spare held fuel t cs = some y) : ∃ (x : TN) (q : Value), cs = x.cells q ∧ In1 w q x.u ∧ (W64 x.k ∧ W64 x.i ∧ W64 x.e ∧ W64 x.s ∧ W64 x.h) ∧ ∀ i ∈ x.u, I64 i := by
  have h0 := fun k f hk hf => fld_lo (k := k) (f := f) h0 hk hf
  have h5 := fun f hf => fld_hi (f := f) h5 hf
  obtain ⟨xs, n, _, _, hlen, hxl, hg⟩ := DataW.trod_struct hs h
  rw [hC] at hlen
  match cs, hlen with
  | [a0, a1, a2, a3, a4, a5], _ =>
    have fld : ∀ k (hk : k < 6), ∃ f z, fs[k]? = some f ∧ DataW.trod enc P w base spare held n f.type [([a0, a1, a2, a3, a4, a5])[k]] = some z := by
      intro k hk
      have hf : fs[k]? = some (fs[k]'(by omega)) := Array.getElem?_eq_getElem _
      obtain ⟨ho, hc⟩ := hone_of hone k _ hf
      have := hg k _ hf
      rw [ho, hc, List.drop_eq_getElem_cons (by simpa using hk)] at this
      exact ⟨_, _, hf, this.trans (List.getElem?_eq_getElem (by omega))⟩
    have num : ∀ k (hk : k < 5), ∃ a, ([a0, a1, a2, a3, a4, a5])[k]'(by simp; omega) = Value.int .i64 a ∧ W64 a := by
      intro k hk
      obtain ⟨f, z, hf, ht⟩ := fld k (by omega)
      rw [h0 k f hk hf] at ht
      obtain ⟨a, e, _, hw⟩ := DataW.trod_int hti ht
      injection e with e
      exact ⟨a, e, wf_w64 hw⟩
    obtain ⟨k, e0, w0⟩ := num 0 (by omega)
    obtain ⟨i, e1, w1⟩ := num 1 (by omega)
    obtain ⟨e, e2, w2⟩ := num 2 (by omega)
    obtain ⟨s, e3, w3⟩ := num 3 (by omega)
    obtain ⟨h', e4, w4⟩ := num 4 (by omega)
    obtain ⟨f, z, hf, ht⟩ := fld 5 (by omega)
    rw [h5 f hf] at ht
    obtain ⟨A, m, c, u, e5, hsl, hwu⟩ := trod_ints htl hti hci ht
    simp only [List.getElem_cons_zero, List.getElem_cons_succ] at e0 e1 e2 e3 e4 e5
    subst e0; subst e1; subst e2; subst e3; subst e4; subst e5
    have hm := hsl.lenI
    subst hm
    exact ⟨⟨k, i, e, s, h', u⟩, _, rfl, ⟨A, c, rfl, hsl⟩, ⟨w0, w1, w2, w3, w4⟩, fun i hi => bounds_i64 (hwu i hi)⟩
/-- A row of nodes that came in. -/
theorem opens_tree2 {r : Reach} {b0 : Nat} {tt t ti tl : TypeId} {fs : Array Field} {v : Value} {d : DataW H} {p : List MemPlace} (htt : P.underlying tt = some (.slice t)) (hs : P.underlying t = some (.struct fs)) (hone : oneCellFields P fs = true) (hsz : fs.size = 6) (hC : P.cellsOf t = 6)
    (h0 : (fs.toList.take 5).all (fun f => f.type == ti) = true) (h5 : (fs.toList.drop 5).all (fun f => f.type == tl) = true) (hti : P.underlying ti = some (.int .i64)) (htl : P.underlying tl = some (.slice ti)) (hci : P.cellsOf ti = 1)
    (hv : Value.okWide P w r b0 tt v) (h : DataW.Trod enc P w base spare held tt v d p) : ∃ A n c xs, v = .slice A n c ∧ Tr w A n c xs ∧ ∀ x ∈ xs, TnI x := by
  obtain ⟨A, n, c, rfl⟩ := okWide_slice htt hv
  obtain ⟨fuel, hf⟩ := h
  rcases open_slice htt hf with ⟨hcs, _⟩ | ⟨a, len, cap, m, n', D, Pl, hcs, _, hl, hm, hmm, _, hi⟩
  · simp [Value.cells] at hcs
    obtain ⟨rfl, rfl, rfl⟩ := hcs
    exact ⟨_, _, _, [], rfl, Tr.nil _, fun x h => by simp at h⟩
  · simp [Value.cells] at hcs
    obtain ⟨rfl, rfl, rfl⟩ := hcs
    have hnm : n ≤ m := by rw [hmm]; split <;> omega
    have each : ∀ j, j < n → ∃ xq : TN × Value, (∀ k, k < 6 → w.cell? (a.add (j * 6 + k)) = (xq.1.cells xq.2)[k]?) ∧ In1 w xq.2 xq.1.u ∧ (W64 xq.1.k ∧ W64 xq.1.i ∧ W64 xq.1.e ∧ W64 xq.1.s ∧ W64 xq.1.h) ∧ ∀ i ∈ xq.1.u, I64 i := by
      intro j hj
      obtain ⟨cs', hc, ht⟩ := hi j (by omega)
      obtain ⟨x, q, e, hin, hw, hu⟩ := node_of_trod2 hs hone hsz hC h0 h5 hti htl hci ht
      rw [hC] at hc
      obtain ⟨_, _, hat⟩ := World.cells?_some hc
      refine ⟨⟨x, q⟩, fun k hk => ?_, hin, hw, hu⟩
      rw [← Go.Deep.add_add, hat k hk, e]
    obtain ⟨l, hll, hq⟩ := choose_list n each
    have hx : ∀ {j : Nat} {x : TN}, (l.map (·.1))[j]? = some x → ∃ q, l[j]? = some (x, q) := by
      intro j x h
      rw [List.getElem?_map] at h
      rcases hh : l[j]? with _ | ⟨y, q⟩
      · rw [hh] at h; cases h
      · rw [hh] at h; injection h with h; subst h; exact ⟨q, rfl⟩
    refine ⟨_, _, _, l.map (·.1), rfl, ⟨l.map (·.2), by simp, ⟨hl, hm, by rw [ncs_len (by simp)]; simp [hll], fun i u hu => ?_⟩, fun j x q hxj hqj => ?_⟩, fun x hxm => ?_⟩
    · have hil : i < n * 6 := by
        rcases Nat.lt_or_ge i (n * 6) with hh | hh
        · exact hh
        · rw [List.getElem?_eq_none (by rw [ncs_len (by simp)]; simp [hll]; omega)] at hu; cases hu
      have hjn : i / 6 < n := by omega
      have hlj : l[i / 6]? = some (l[i / 6]'(by omega)) := List.getElem?_eq_getElem _
      obtain ⟨b, off, spot⟩ := a
      have c0 := (hq 0 _ (List.getElem?_eq_getElem (by omega))).1 0 (by omega)
      have hspot : spot = none := by
        simp only [Nat.zero_mul, Nat.add_zero, TN.cells, List.getElem?_cons_zero] at c0
        simpa [Addr.add] using World.cell?_spot c0
      subst hspot
      refine ⟨b, off, rfl, ?_⟩
      have hg := ncs_get (xs := l.map (·.1)) (qs := l.map (·.2)) (j := i / 6) (k := i % 6) (by rw [List.getElem?_map, hlj]; rfl) (by rw [List.getElem?_map, hlj]; rfl) (Nat.mod_lt _ (by omega))
      rw [show i / 6 * 6 + i % 6 = i by omega] at hg
      have hc := (hq _ _ hlj).1 (i % 6) (Nat.mod_lt _ (by omega))
      rw [show i / 6 * 6 + i % 6 = i by omega, add_lit] at hc
      rw [hc, ← hg, hu]
    · obtain ⟨q', hl'⟩ := hx hxj
      rw [List.getElem?_map, hl'] at hqj
      injection hqj with hqj
      subst hqj
      exact (hq j _ hl').2.1
    · obtain ⟨j, hj⟩ := List.mem_iff_getElem?.1 hxm
      obtain ⟨q', hl'⟩ := hx hj
      obtain ⟨⟨a1, a2, a3, a4, a5⟩, a6⟩ := (hq j _ hl').2.2
      unfold W64 at a1 a2 a3 a4 a5
      dsimp only at a1 a2 a3 a4 a5 a6
      exact ⟨⟨by omega, by omega⟩, ⟨by omega, by omega⟩, ⟨by omega, by omega⟩, ⟨by omega, by omega⟩, ⟨by omega, by omega⟩, a6⟩
end
end Go.Proofs.YtfmkniakfgpgjaaGreatDoor

