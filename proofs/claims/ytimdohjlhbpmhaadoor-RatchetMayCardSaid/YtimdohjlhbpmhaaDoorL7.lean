/- RatchetMay: for every input. -/
import Derived.Test.YtimdohjlhbpmhaaDoorL6
namespace Go.Proofs.YtimdohjlhbpmhaaDoor
open Go.RowKit Go.KK Go.Shelf
set_option linter.unusedVariables false
set_option linter.unusedSimpArgs false

theorem may_any (A : Option Addr) (n c : Nat) (xs : List TN) (i : Int) (l : TN) (B : Option Addr) (d : Nat) (w : World) (ht : Tr w A n c xs) (hl : SlA w 1 B l.u.length d (l.u.map (.int .i64))) (hw : WfT xs) (hl5 : W64 l.k ∧ W64 l.i ∧ W64 l.e ∧ W64 l.s ∧ W64 l.h) (hi : W64 i) (hT : Tab w) :
    Calls Tryd.prog 5 #[.slice A n c, .int .i64 i, .agg #[.int .i64 l.k, .int .i64 l.i, .int .i64 l.e, .int .i64 l.s, .int .i64 l.h, .slice B l.u.length d]] w fun e w' => e = .returned (.bool true) ∧ Below w.heap.size w w' := by
  rcases hf : fewT xs with _ | _
  · exact may_no A n c xs i _ _ _ _ _ B _ d w ht hw hT (.inl hf)
  · rcases hc : chkB xs with _ | _
    · exact may_no A n c xs i _ _ _ _ _ B _ d w ht hw hT (.inr (.inr hc))
    · by_cases hu : 0 < l.u.length
      · exact may_no A n c xs i _ _ _ _ _ B _ d w ht hw hT (.inr (.inl hu))
      · have h0 : l.u.length = 0 := by omega
        rw [h0]
        exact may_go A n c xs i l.k l.i l.e l.s l.h B d w ht hw hT hf hc hl.cm ⟨(show W64 1 by unfold W64; decide), hl5.2⟩ hi
end Go.Proofs.YtimdohjlhbpmhaaDoor
