/- (*sync.Once).Do of a Replacer that is not built yet. -/
import Derived.Test.YtadbgmfdbahcbaaGreatDoorN4
namespace Go.Proofs.YtadbgmfdbahcbaaGreatDoor
open Go.RowKit Go.KK Go.Shelf Go.Maps
set_option linter.unusedVariables false
set_option linter.unusedSimpArgs false

set_option maxHeartbeats 4000000 in
set_option maxRecDepth 100000 in
theorem slow_any (base b : Nat) (v : Value) (w : World) (h : RpO base w b (.int .u32 0) (.int .i32 0) (.int .u32 0) .nilIface v) (hs : w.ownsRow base 9 1 v 4 rs4) (hd : v.ownBlock ≠ some b) (hbase : base ≤ w.heap.size) :
    Calls Tryz.prog 77 #[.pointer (some ⟨b, 0, none⟩), .func (.func 61) #[.pointer (some ⟨b, 0, none⟩)] #[]] w fun e w' => e = .returned (.tuple #[]) ∧ ∃ g, RpO base w' b (.int .u32 1) (.int .i32 0) (.int .u32 0) (.iface 152 (.pointer (some ⟨g, 0, none⟩))) (.slice none 0 0) ∧ Bsr w.heap.size w' g ∧ Below base w w' := by
  have HR := hid h
  have hlt := h.lt b rfl
  have c1 := own_at h (j := 1) rfl
  have z1 := h.frozenAt 1
  have S1 := hid (h.stored 1 (.int .i32 1))
  have c0 := own_at S1.out.1 (j := 0) rfl
  have hl := run_call_load (P := Tryz.prog) Tryz.func89 (by kernel_rfl) (by kernel_rfl) (by kernel_rfl) .u32 (by kernel_rfl) (w := w.setCell ⟨b, 1, none⟩ (.int .i32 1)) (a := ⟨b, 0, none⟩) (x := 0) c0
  have hnot : ∀ (x : Bool) (w : World), (Op.unary .not (.bool x)).run Tryz.prog w = .ok (.bool (!x)) w := fun _ _ => rfl
  have hbo := buildonce_any base b _ _ _ v (w.setCell ⟨b, 1, none⟩ (.int .i32 1)) S1.out.1 (own_block hs fun k hk => S1.out.2.block k (hs.lt k hk).2 (fun e => hd (by rw [hk, e]))) (by simpa using hbase)
  have hlf := lock_free ⟨b, 1, none⟩ w c1 z1
  clear h hs c0 c1
  go_enter_defers Tryz.func77, Tryz.ntmps77
  go_wp2_with (first
    | (go_at_call 90; refine hlf.mono ?_; rintro e w' ⟨rfl, rfl⟩)
    | (go_at_call 76; go_in)
    | (go_at_call 61; refine hbo.mono ?_; rintro e w2 ⟨rfl, g, h2, hb2, bl2⟩; have H2 := hid h2; have HB2 := hid hb2; have BL2 := hid bl2; clear h2 hb2 bl2))
  have H3 := hid ((show RpO base w2.drew b _ _ _ _ _ from own_block H2.out fun _ _ => rfl).stored 0 (.int .u32 1))
  have H4 := hid (H3.out.1.stored 1 (.int .i32 0))
  refine leaves_cons (f := 92) (args := #[.pointer (some ⟨b, 0, none⟩), .bool true]) (by simp) (by simp [go_sem]) ?_
  refine (store_deferred ⟨b, 0, none⟩ (.int .u32 0) .returning w2 (own_at H2.out (j := 0) rfl) (H2.out.frozenAt 0)).mono ?_
  rintro e u' w'' ⟨rfl, rfl, rfl⟩
  refine leaves_cons (f := 91) (args := #[.pointer (some ⟨b, 1, none⟩)]) (by simp [settle]) (by simp [go_sem]) ?_
  refine (unlock_deferred ⟨b, 1, none⟩ _ _ (own_at H3.out.1 (j := 1) rfl) (H3.out.1.frozenAt 1)).mono ?_
  rintro e u' w'' ⟨rfl, rfl, rfl⟩
  have hfin : ∃ g, RpO base ((w2.drew.setCell ⟨b, 0, none⟩ (.int .u32 1)).setCell ⟨b, 1, none⟩ (.int .i32 0)) b (.int .u32 1) (.int .i32 0) (.int .u32 0) (.iface 152 (.pointer (some ⟨g, 0, none⟩))) (.slice none 0 0) ∧ Bsr w.heap.size ((w2.drew.setCell ⟨b, 0, none⟩ (.int .u32 1)).setCell ⟨b, 1, none⟩ (.int .i32 0)) g ∧ Below base w ((w2.drew.setCell ⟨b, 0, none⟩ (.int .u32 1)).setCell ⟨b, 1, none⟩ (.int .i32 0)) := by
    have hs0 : (w.setCell ⟨b, 1, none⟩ (.int .i32 1)).heap.size = w.heap.size := by simp
    have hsb := BL2.out.size
    rw [hs0] at hsb
    have hB := HB2.out
    rw [hs0] at hB
    refine ⟨g, H4.out.1, hB.mv fun k hk => ?_, ?_⟩
    · exact (Below.heap_setCell _ ⟨b, 1, none⟩ _ k (by intro e; simp at e; omega)).trans (Below.heap_setCell w2.drew ⟨b, 0, none⟩ _ k (by intro e; simp at e; omega))
    · have B1 : Below base w (w.setCell ⟨b, 1, none⟩ (.int .i32 1)) := (Below.refl base w).grown S1.out.2 hbase (fun k hk => by injection hk with hk; omega)
      have B2 : Below base w w2.drew := (B1.trans BL2.out).drew
      have B3 := B2.grown H3.out.2 (Nat.le_trans hbase hsb) (fun k hk => by injection hk with hk; omega)
      exact B3.grown H4.out.2 (by have : (w2.drew.setCell ⟨b, 0, none⟩ (.int .u32 1)).heap.size = w2.heap.size := by simp
                                  omega) (fun k hk => by injection hk with hk; omega)
  simp [Leaves, settle, results, Tryz.results77]
  exact hfin
set_option maxHeartbeats 4000000 in
set_option maxRecDepth 100000 in
theorem do_first (base b : Nat) (v : Value) (w : World) (h : RpO base w b (.int .u32 0) (.int .i32 0) (.int .u32 0) .nilIface v) (hs : w.ownsRow base 9 1 v 4 rs4) (hd : v.ownBlock ≠ some b) (hbase : base ≤ w.heap.size) :
    Calls Tryz.prog 60 #[.pointer (some ⟨b, 0, none⟩), .func (.func 61) #[.pointer (some ⟨b, 0, none⟩)] #[]] w fun e w' => e = .returned (.tuple #[]) ∧ ∃ g, RpO base w' b (.int .u32 1) (.int .i32 0) (.int .u32 0) (.iface 152 (.pointer (some ⟨g, 0, none⟩))) (.slice none 0 0) ∧ Bsr w.heap.size w' g ∧ Below base w w' := by
  have hl := run_call_load (P := Tryz.prog) Tryz.func89 (by kernel_rfl) (by kernel_rfl) (by kernel_rfl) .u32 (by kernel_rfl) (own_at h (j := 0) rfl)
  have hnot : ∀ (x : Bool) (w : World), (Op.unary .not (.bool x)).run Tryz.prog w = .ok (.bool (!x)) w := fun _ _ => rfl
  have HS := hid (slow_any base b v w h hs hd hbase)
  clear h hs
  go_enter Tryz.func60, Tryz.ntmps60
  go_wp2_with (first | (go_at_call 77; refine HS.out.mono ?_; rintro e w' ⟨rfl, g, h2, hb2, bl2⟩; have H2 := hid h2; have HB2 := hid hb2; have BL2 := hid bl2; clear h2 hb2 bl2) | (go_at_call 76; go_in))
  go_end0
  exact ⟨rfl, g, H2.out, HB2.out, BL2.out⟩
end Go.Proofs.YtadbgmfdbahcbaaGreatDoor
