/- RatchetChecks, walked. -/
import Derived.Test.YtimdohjlhbpmhaaDoorL1
import Derived.Test.YtimdohjlhbpmhaaDoorK5
namespace Go.Proofs.YtimdohjlhbpmhaaDoor
open Go.RowKit Go.KK Go.Shelf
set_option linter.unusedVariables false
set_option linter.unusedSimpArgs false

set_option maxHeartbeats 2000000 in
theorem checks_any (A : Option Addr) (n c : Nat) (xs : List TN) (B : Option Addr) (m d : Nat) (ys : List TN) (w : World) (ht : Tr w A n c xs) (hu : Tr w B m d ys) (hw : WfT xs) (hT : Tab w) :
    Calls Tryd.prog 7 #[.slice A n c, .slice B m d] w fun e w' => e = .returned (.bool true) ∧ Below w.heap.size w w' := by
  have H := hid ht; have H' := hid hu; have HW := hid hw; have HT := hid hT
  clear ht hu hw hT
  go_enter Tryd.func7, Tryd.ntmps7
  go_wp2_with fail
  refine (live_any _ HT.out).mono ?_
  rintro e1 w1 ⟨rfl, b1⟩
  have B1 := hid b1
  have L1 := hid (sla_row (w := w1) (T := 22) #[.slice A n c, .slice B m d] (show (2 : Nat) ≤ maxLen by decide))
  have B2 := hid (b1.alloc b1.size (.cells #[.slice A n c, .slice B m d] 22))
  clear b1
  go_wp2_with fail
  refine (few_any _ 2 2 _ [xs, ys] _ L1.out rfl (by omega) (fun j v zs hv hz => ?_)).mono ?_
  · rcases j with _ | _ | j
    · injection hv with hv; injection hz with hz
      subst hv; subst hz
      exact ⟨A, n, c, rfl, H.out.ext B2.out⟩
    · injection hv with hv; injection hz with hz
      subst hv; subst hz
      exact ⟨B, m, d, rfl, H'.out.ext B2.out⟩
    · simp at hv
  rintro e2 w2 ⟨rfl, b2⟩
  have B3 := hid (B2.out.trans (b2.mono B2.out.size))
  clear b2
  rcases hf : [xs, ys].all fewT with _ | _
  · go_wp2_with fail
    go_ret
    exact ⟨rfl, B3.out⟩
  · have hf2 : fewT xs = true ∧ fewT ys = true := by simpa using hf
    obtain ⟨s1, _, _, n1⟩ := few_shorts hf2.1
    obtain ⟨s2, _, _, n2⟩ := few_shorts hf2.2
    have hn : n ≤ 600 := by have := H.out.len; omega
    have hm : m ≤ 600 := by have := H'.out.len; omega
    have S1 := hid s1; have S2 := hid s2
    clear s1 s2 n1 n2 hf2 hf
    go_wp2_with fail
    refine (chk_any A n c xs _ (H.out.ext B3.out) hn (HT.out.ext B3.out) S1.out).mono ?_
    rintro e3 w3 ⟨rfl, b3⟩
    have B4 := hid (B3.out.trans (b3.mono B3.out.size)); clear b3
    go_wp2_with fail
    refine (rchk_any A n c xs _ (H.out.ext B4.out) hn S1.out HW.out).mono ?_
    rintro e4 w4 ⟨rfl, b4⟩
    have B5 := hid (B4.out.trans (b4.mono B4.out.size)); clear b4
    have hce : (chkE xs == chkE xs) = true := beq_self_eq_true _
    go_wp2_with fail
    refine (same_any A n c xs B m d ys _ (H.out.ext B5.out) (H'.out.ext B5.out) hn hm S1.out S2.out).mono ?_
    rintro e5 w5 ⟨rfl, b5⟩
    have B6 := hid (B5.out.trans (b5.mono B5.out.size)); clear b5
    go_wp2_with fail
    refine (rsame_any A n c xs B m d ys _ (H.out.ext B6.out) (H'.out.ext B6.out) hn hm S1.out S2.out).mono ?_
    rintro e6 w6 ⟨rfl, b6⟩
    have B7 := hid (B6.out.trans (b6.mono B6.out.size)); clear b6
    have hse : (sameT xs ys == sameT xs ys) = true := beq_self_eq_true _
    go_wp2_with fail
    refine (members_any A n c xs _ (H.out.ext B7.out) hn (HT.out.ext B7.out) S1.out).mono ?_
    rintro e7 w7 ⟨v7, rfl, o7, b7⟩
    obtain ⟨A7, c7, rfl, s7⟩ := SlA.owned o7
    have HS7 := hid s7
    have B8 := hid (B7.out.trans (b7.mono B7.out.size)); clear b7 o7 s7
    go_wp2_with fail
    refine (rmembers_any A n c xs _ (H.out.ext B8.out) hn S1.out HW.out).mono ?_
    rintro e8 w8 ⟨v8, rfl, o8, b8⟩
    obtain ⟨A8, c8, rfl, s8⟩ := SlA.owned o8
    have HS8 := hid s8
    have HS7' := hid (HS7.out.ext b8)
    have B9 := hid (B8.out.trans (b8.mono B8.out.size)); clear b8 o8 s8
    have hml : (mems xs).length ≤ 2147483648 := by
      unfold mems
      split
      · have := memL_le xs (lvN xs.length); have := H.out.len; unfold lvN at *; omega
      · simp
    go_wp2_with fail
    refine (same_ints A7 _ c7 (mems xs) A8 _ c8 (mems xs) _ HS7'.out HS8.out hml hml).mono ?_
    rintro e9 w9 ⟨rfl, q, rfl⟩
    rw [show (mems xs == mems xs) = true from beq_self_eq_true _]
    go_wp2_with fail
    go_ret
    exact ⟨rfl, below_drewN B9.out _⟩
end Go.Proofs.YtimdohjlhbpmhaaDoor
