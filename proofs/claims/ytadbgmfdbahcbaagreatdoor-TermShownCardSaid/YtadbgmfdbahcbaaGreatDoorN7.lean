/- (*strings.Replacer).Replace, of a Replacer that is not built yet. -/
import Derived.Test.YtadbgmfdbahcbaaGreatDoorN5
import Derived.Test.YtadbgmfdbahcbaaGreatDoorN6
namespace Go.Proofs.YtadbgmfdbahcbaaGreatDoor
open Go.RowKit Go.KK Go.Shelf Go.Maps
set_option linter.unusedVariables false
set_option linter.unusedSimpArgs false

set_option maxHeartbeats 4000000 in
set_option maxRecDepth 100000 in
theorem replace_any (base b : Nat) (v : Value) (s : ByteArray) (w : World) (h : RpN base w b v) (hbase : base ≤ w.heap.size) (hs : s.size ≤ 100000) :
    Calls Tryz.prog 52 #[.pointer (some ⟨b, 0, none⟩), .string s] w fun e w' => e = .returned (.string ⟨(escB s.data.toList).toArray⟩) ∧ Below base w w' := by
  have HD := hid (do_first base b v w h.o h.s h.d hbase)
  have hm : ∀ (n g : Nat) (w : World), (method (n + 1) 152 (.pointer (some ⟨g, 0, none⟩)) "Replace").run Tryz.prog w = .ok (154, .pointer (some ⟨g, 0, none⟩)) w := fun _ _ _ => by kernel_rfl
  clear h
  go_enter Tryz.func52, Tryz.ntmps52
  go_wp2_with (first
    | (go_at_call 60; refine HD.out.mono ?_; rintro e w2 ⟨rfl, g, h2, hb2, bl2⟩; have B2 := hid bl2; have HLE := hid (Nat.le_trans hbase bl2.size); have c3 := own_at h2 (j := 3) rfl; have HR := hid (bsrep_any _ g s w2 hb2 hs); clear h2 hb2 bl2)
    | (go_at_call 154; refine HR.out.mono ?_; rintro e w3 ⟨rfl, b3⟩; have B3 := hid (B2.out.trans (b3.mono HLE.out)); clear b3))
  go_ret
  exact ⟨rfl, B3.out⟩
end Go.Proofs.YtadbgmfdbahcbaaGreatDoor
