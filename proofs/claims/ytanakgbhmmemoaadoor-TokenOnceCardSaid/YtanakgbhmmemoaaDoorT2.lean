/- token: find, walked. -/
import Derived.Test.YtanakgbhmmemoaaDoorT1
namespace Go.Proofs.YtanakgbhmmemoaaDoor
open Go.RowKit Go.KK Go.Shelf Go.Maps
set_option linter.unusedVariables false
set_option linter.unusedSimpArgs false

theorem cmp_lt {a b : Int} (h : a < b) : Lib.compareInt a b = -1 := by unfold Lib.compareInt; rw [if_pos h]
theorem cmp_eq (a : Int) : Lib.compareInt a a = 0 := by unfold Lib.compareInt; simp
theorem cmp_gt {a b : Int} (h : b < a) : Lib.compareInt a b = 1 := by unfold Lib.compareInt; rw [if_neg (by omega), if_pos h]
set_option maxHeartbeats 2000000 in
set_option maxRecDepth 20000 in
theorem bsf_any (A : Option Addr) (c : Nat) (g : List (Int × Int)) (who : Int) (w : World) (h : CtA w A c g) (hs : CtS g) (hn : g.length ≤ 1000000) :
    Calls Tryd.prog 64 #[.slice A g.length c, .int .i64 who, .func (.func 65) #[] #[]] w fun e w' => e = .returned (.tuple #[.int .i64 (lbF g who), .bool (isF g who)]) ∧ Below w.heap.size w w' := by
  have H := hid h; have HS := hid hs
  clear h hs
  go_enter Tryd.func64, Tryd.ntmps64
  go_wp2
  go_loopw [9, 10] (fun p q wr => ∃ i j : Nat, p = .int .i64 i ∧ q = .int .i64 j ∧ i ≤ j ∧ j ≤ g.length ∧ Hid (∀ (k : Nat) c, g[k]? = some c → k < i → c.1 < who) ∧ Hid (∀ (k : Nat) c, g[k]? = some c → j ≤ k → who ≤ c.1) ∧ Below w.heap.size w wr) (fun p q _ => (intOf q).toNat - (intOf p).toNat)
  case atStart => exact ⟨0, g.length, rfl, rfl, Nat.zero_le _, Nat.le_refl _, hid (fun k c _ h => by omega), hid (fun k c hk h => by have := (List.getElem?_eq_some_iff.1 hk).1; omega), Below.refl _ _⟩
  case round =>
    obtain ⟨i, j, hi, hj, hij, hjn, HI, HJ, hb⟩ := hrel
    subst hi; subst hj
    have HB := hid hb
    clear hb
    by_cases hlt : i < j
    · have hm : (i + j) / 2 < g.length := by omega
      obtain ⟨b, o, x, rfl, hx, hc0, hc1⟩ := ctA_at (SlA.ext H.out HB.out) hm
      have HX := hid hx
      clear hx
      have hlt' : (i : Int) < (j : Int) := by omega
      go_wp2_with fail
      refine (find1_any x.1 x.2 who _).mono ?_
      rintro e1 w1 ⟨rfl, b1⟩
      have B1 := hid (HB.out.trans (b1.mono HB.out.size))
      clear b1
      by_cases hx : x.1 < who
      · rw [cmp_lt hx]
        have HXW := hid hx
        clear hx
        go_wp2_with fail
        go_roundw
        case rel =>
          refine ⟨(i + j) / 2 + 1, j, congrArg (Value.int .i64) (by omega), rfl, by omega, hjn, hid (fun k c hk hki => ?_), HJ, B1.out⟩
          rcases Nat.lt_or_ge k ((i + j) / 2) with h1 | h1
          · have := cts_rise HS.out hk HX.out h1
            have := HXW.out
            omega
          · have : k = (i + j) / 2 := by omega
            subst this
            rw [HX.out] at hk
            injection hk with hk
            subst hk
            exact HXW.out
        case measure => simp [intOf]; omega
      · have HXW := hid hx
        have hJ2 := hid (fun (k : Nat) (c : Int × Int) (hk : g[k]? = some c) (hki : (i + j) / 2 ≤ k) => (by
          rcases Nat.lt_or_ge ((i + j) / 2) k with h1 | h1
          · have := cts_rise HS.out HX.out hk h1
            have := HXW.out
            omega
          · have : k = (i + j) / 2 := by omega
            subst this
            have hx2 := HX.out
            rw [hk] at hx2
            injection hx2 with hx2
            subst hx2
            have := HXW.out
            omega : who ≤ c.1))
        have hcc : Lib.compareInt x.1 who = 0 ∨ Lib.compareInt x.1 who = 1 := by
          rcases Int.lt_trichotomy x.1 who with h1 | h1 | h1
          · exact absurd h1 hx
          · left; rw [h1]; exact cmp_eq who
          · right; exact cmp_gt h1
        clear hx
        rcases hcc with hcc | hcc
        all_goals
          rw [hcc]
          go_wp2_with fail
          go_roundw
          case rel => exact ⟨i, (i + j) / 2, rfl, congrArg (Value.int .i64) (by omega), by omega, by omega, HI, hJ2, B1.out⟩
          case measure => simp [intOf]; omega
    · have hij' : i = j := by omega
      subst hij'
      have HL := hid (lb_is who hjn HI.out HJ.out)
      have HIS := hid (is_at HS.out who HI.out HJ.out)
      by_cases hin : i < g.length
      · obtain ⟨b, o, x, rfl, hx, hc0, hc1⟩ := ctA_at (SlA.ext H.out HB.out) hin
        have HF := hid (show isF g who = (x.1 == who) by rw [HIS.out, hx])
        have hin' : (i : Int) < (g.length : Int) := by omega
        clear hx hlt
        go_wp2_with fail
        refine (find1_any x.1 x.2 who _).mono ?_
        rintro e1 w1 ⟨rfl, b1⟩
        have B1 := hid (HB.out.trans (b1.mono HB.out.size))
        clear b1
        rcases Int.lt_trichotomy x.1 who with h1 | h1 | h1
        · have HG := hid (show isF g who = false by rw [HF.out]; exact beq_eq_false_iff_ne.2 (by omega))
          rw [cmp_lt h1]
          clear h1
          go_wp2_with fail
          go_ret2
          exact ⟨by rw [HL.out, HG.out]; rfl, B1.out⟩
        · have HG := hid (show isF g who = true by rw [HF.out, h1]; simp)
          rw [h1, cmp_eq]
          clear h1
          go_wp2_with fail
          go_ret2
          exact ⟨by rw [HL.out, HG.out]; rfl, B1.out⟩
        · have HG := hid (show isF g who = false by rw [HF.out]; exact beq_eq_false_iff_ne.2 (by omega))
          rw [cmp_gt h1]
          clear h1
          go_wp2_with fail
          go_ret2
          exact ⟨by rw [HL.out, HG.out]; rfl, B1.out⟩
      · have HF := hid (show isF g who = false by rw [HIS.out, List.getElem?_eq_none (by omega)])
        have hin' : ¬ (i : Int) < (g.length : Int) := by omega
        clear hlt
        go_wp2_with fail
        go_ret2
        exact ⟨by rw [HL.out, HF.out]; rfl, HB.out⟩
theorem find_any (m : MT) (A : Option Addr) (c : Nat) (p : Value) (who : Int) (w : World) (h : CtA w A c m.g) (hs : CtS m.g) (hn : m.g.length ≤ 1000000) :
    Calls Tryd.prog 45 #[.agg #[.int .i64 m.k, .int .i64 m.q, .slice A m.g.length c, p], .int .i64 who] w fun e w' => e = .returned (.tuple #[.int .i64 (lbF m.g who), .bool (isF m.g who)]) ∧ Below w.heap.size w w' := by
  have B0 := hid (show Below w.heap.size w (w.alloc (.cells #[.int .i64 m.k, .int .i64 m.q, .slice A m.g.length c, p] 31)) from (Below.refl _ _).alloc (Nat.le_refl _) _)
  have HX := hid (bsf_any A c m.g who _ (SlA.ext h B0.out) hs hn)
  clear h hs
  go_enter Tryd.func45, Tryd.ntmps45
  go_wp2_with fail
  refine HX.out.mono ?_
  rintro e w' ⟨rfl, hb⟩
  have HB := hid (B0.out.trans (hb.mono B0.out.size))
  clear hb
  go_wp2_with fail
  go_ret2
  exact ⟨rfl, HB.out⟩
end Go.Proofs.YtanakgbhmmemoaaDoor
