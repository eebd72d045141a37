/- sync.Once of a Replacer that is not built yet, in one goroutine (after the kit's texts Lazy*). (*sync.Once).Do of a Replacer that is not built yet. -/
import Derived.Test.YtkgobglmkhkbbaaGreatDoorN3
import Derived.Tactics2
import Derived.Defers
import Derived.Laws.Pointers
import Derived.Laws.LoneSync
import Derived.RegionTactic
import Derived.RegionCalls
import Derived.ChangeAlike
namespace Go.Proofs.YtkgobglmkhkbbaaGreatDoor
open Go.RowKit Go.KK Go.Shelf Go.Maps
set_option linter.unusedVariables false
set_option linter.unusedSimpArgs false

theorem disable (w : World) : (callFunc 164 #[]).run Tryz.prog w = .ok (.value (.tuple #[])) w := run_call_mark0 Tryz.func164 (by kernel_rfl) (by kernel_rfl) (by kernel_rfl) .disable (by kernel_rfl) w
theorem enable (w : World) : (callFunc 166 #[]).run Tryz.prog w = .ok (.value (.tuple #[])) w := run_call_mark0 Tryz.func166 (by kernel_rfl) (by kernel_rfl) (by kernel_rfl) .enable (by kernel_rfl) w
theorem acquire (a : Addr) (w : World) : (callFunc 167 #[.pointer (some a)]).run Tryz.prog w = .ok (.value (.tuple #[])) w := run_call_marked Tryz.func167 (by kernel_rfl) (by kernel_rfl) (by kernel_rfl) .acquire (by kernel_rfl) a w
theorem releaseMerge (a : Addr) (w : World) : (callFunc 169 #[.pointer (some a)]).run Tryz.prog w = .ok (.value (.tuple #[])) w := run_call_marked Tryz.func169 (by kernel_rfl) (by kernel_rfl) (by kernel_rfl) .releaseMerge (by kernel_rfl) a w
/-- '(*sync/atomic.Bool).Store(true)', entered as a deferred call. -/
theorem store_deferred (a : Addr) (x : Value) (u : FrameMode) (w : World) (hc : w.cell? a = some x) (hz : w.frozen? a = false) :
    CallsD Tryz.prog 153 #[.pointer (some a), .bool true] u w fun e u' w' => u' = u ∧ (e = .returned (.tuple #[]) ∧ w' = w.drew.setCell a (.int .u32 1)) := by
  have hc' : w.drew.cell? a = some x := by go_simp
  have hz' : w.drew.frozen? a = false := by go_simp
  have hst := run_call_store (P := Tryz.prog) Tryz.func160 (by kernel_rfl) (by kernel_rfl) (by kernel_rfl) (by kernel_rfl) (k := .u32) (y := 1) hc' hz'
  go_enter_d Tryz.func153, Tryz.ntmps153
  go_wp2
  go_region_calls
  all_goals (go_end0; exact ⟨rfl, rfl⟩)
set_option maxRecDepth 100000 in
/-- '(*sync.Mutex).Unlock', entered as a deferred call, the lock held and nobody waiting. -/
theorem unlock_deferred (a : Addr) (u : FrameMode) (w : World) (hc : w.cell? a = some (.int .i32 1)) (hz : w.frozen? a = false) :
    CallsD Tryz.prog 152 #[.pointer (some a)] u w fun e u' w' => u' = u ∧ (e = .returned (.tuple #[]) ∧ w' = w.setCell a (.int .i32 0)) := by
  have hd := disable
  have he := enable
  have hr := releaseMerge
  have hadd := run_call_add (P := Tryz.prog) Tryz.func170 (by kernel_rfl) (by kernel_rfl) (by kernel_rfl) .i32 (by kernel_rfl) (y := -1) (s := 0) hc hz (by simp [go_sem]; rfl)
  have hcv := run_convert_to_unsafe (P := Tryz.prog) (src := 241) (dst := 195) Tryz.underlying241 Tryz.underlying195 (by kernel_rfl) hc
  go_enter_d Tryz.func152, Tryz.ntmps152
  go_wp2
  go_end0
  go_wp2
  go_end0
  exact ⟨rfl, rfl⟩
set_option maxRecDepth 100000 in
/-- '(*sync.Mutex).Lock', the lock free. -/
theorem lock_free (a : Addr) (w : World) (hc : w.cell? a = some (.int .i32 0)) (hz : w.frozen? a = false) :
    Calls Tryz.prog 151 #[.pointer (some a)] w fun e w' => e = .returned (.tuple #[]) ∧ w' = w.setCell a (.int .i32 1) := by
  have hd := disable
  have he := enable
  have ha := acquire
  have hcas := run_call_cas_hit (P := Tryz.prog) Tryz.func165 (by kernel_rfl) (by kernel_rfl) (by kernel_rfl) .i32 (by kernel_rfl) (y := 1) hc hz
  have hc' : (w.setCell a (.int .i32 1)).cell? a = some (.int .i32 1) := World.cell?_setCell_same w a _ hc
  have hcv := run_convert_to_unsafe (P := Tryz.prog) (src := 241) (dst := 195) Tryz.underlying241 Tryz.underlying195 (by kernel_rfl) hc'
  go_enter Tryz.func151, Tryz.ntmps151
  go_wp2
  first | go_end0 | (simp only [Exit.inBlock, Exit.then]; refine bodyPost_ret (results_none rfl _ _ _) rfl ?_) | refine bodyPost_ret (results_none rfl _ _ _) rfl ?_
  go_wp2
  go_end0
  exact ⟨rfl, rfl⟩
/-- A Replacer in memory: its five cells. -/
abbrev RpO (base : Nat) (W : World) (b : Nat) (x0 x1 x2 x3 x4 : Value) : Prop := W.ownsRow base 180 5 (.slice (some ⟨b, 0, none⟩) 1 1) 1 [x0, x1, x2, x3, x4]
theorem own_at {W : World} {base T b : Nat} {l : List Value} (h : W.ownsRow base T 5 (.slice (some ⟨b, 0, none⟩) 1 1) 1 l) {j : Nat} {u : Value} (hj : l[j]? = some u) : W.cell? ⟨b, j, none⟩ = some u := by
  obtain ⟨b', off, e, hc⟩ := ((SlA.of_own h).2).cells j u hj
  injection e with e
  injection e with e1 e2
  subst e1; subst e2
  rwa [Nat.zero_add] at hc
set_option maxHeartbeats 4000000 in
set_option maxRecDepth 100000 in
theorem buildonce_any (base b : Nat) (x0 x1 x2 v : Value) (w : World) (h : RpO base w b x0 x1 x2 .nilIface v) (hs : w.ownsRow base 9 1 v 4 rs4) (hbase : base ≤ w.heap.size) :
    Calls Tryz.prog 127 #[.pointer (some ⟨b, 0, none⟩)] w fun e w' => e = .returned (.tuple #[]) ∧ ∃ g, RpO base w' b x0 x1 x2 (.iface 223 (.pointer (some ⟨g, 0, none⟩))) (.slice none 0 0) ∧ Bsr w.heap.size w' g ∧ Below base w w' := by
  have HR := hid h
  have hlt := h.lt b rfl
  obtain ⟨A, c, rfl, hsl⟩ := SlA.owned hs
  have hb := build_any b A c w (own_at h (j := 4) rfl) hsl
  clear h hs hsl
  go_enter Tryz.func127, Tryz.ntmps127
  go_wp2_with (go_at_call 141; refine hb.mono ?_; rintro e w1 ⟨g, rfl, h1, b1⟩; have HB := hid h1; have B1 := hid b1; have H1 := hid (show RpO base w1 b x0 x1 x2 .nilIface (.slice A 4 c) from own_block HR.out fun k hk => b1.block k (HR.out.lt k hk).2); have c3 := own_at H1.out (j := 3) rfl; have c4 := own_at (H1.out.stored 3 (.iface 223 (.pointer (some ⟨g, 0, none⟩)))).1 (j := 4) rfl; have z3 := H1.out.frozenAt 3; have z4 := (H1.out.stored 3 (.iface 223 (.pointer (some ⟨g, 0, none⟩)))).1.frozenAt 4; clear h1 b1 hb)
  go_end0
  have s3 := H1.out.stored 3 (.iface 223 (.pointer (some ⟨g, 0, none⟩)))
  have s4 := s3.1.stored 4 (.slice none 0 0)
  refine ⟨rfl, g, s4.1, HB.out.mv fun k hk => ?_, ?_⟩
  · exact (Below.heap_setCell _ ⟨b, 4, none⟩ _ k (by intro e; simp at e; omega)).trans (Below.heap_setCell _ ⟨b, 3, none⟩ _ k (by intro e; simp at e; omega))
  · have B1' : Below base w w1 := B1.out.mono hbase
    have B2 := B1'.grown s3.2 (Nat.le_trans hbase B1'.size) (fun k hk => by injection hk with hk; omega)
    exact B2.grown s4.2 (Nat.le_trans hbase B2.size) (fun k hk => by injection hk with hk; omega)
end Go.Proofs.YtkgobglmkhkbbaaGreatDoor
namespace Go.Proofs.YtkgobglmkhkbbaaGreatDoor
open Go.RowKit Go.KK Go.Shelf Go.Maps

set_option maxHeartbeats 4000000 in
set_option maxRecDepth 100000 in
theorem slow_any (base b : Nat) (v : Value) (w : World) (h : RpO base w b (.int .u32 0) (.int .i32 0) (.int .u32 0) .nilIface v) (hs : w.ownsRow base 9 1 v 4 rs4) (hd : v.ownBlock ≠ some b) (hbase : base ≤ w.heap.size) :
    Calls Tryz.prog 140 #[.pointer (some ⟨b, 0, none⟩), .func (.func 127) #[.pointer (some ⟨b, 0, none⟩)] #[]] w fun e w' => e = .returned (.tuple #[]) ∧ ∃ g, RpO base w' b (.int .u32 1) (.int .i32 0) (.int .u32 0) (.iface 223 (.pointer (some ⟨g, 0, none⟩))) (.slice none 0 0) ∧ Bsr w.heap.size w' g ∧ Below base w w' := by
  have HR := hid h
  have hlt := h.lt b rfl
  have c1 := own_at h (j := 1) rfl
  have z1 := h.frozenAt 1
  have S1 := hid (h.stored 1 (.int .i32 1))
  have c0 := own_at S1.out.1 (j := 0) rfl
  have hl := run_call_load (P := Tryz.prog) Tryz.func150 (by kernel_rfl) (by kernel_rfl) (by kernel_rfl) .u32 (by kernel_rfl) (w := w.setCell ⟨b, 1, none⟩ (.int .i32 1)) (a := ⟨b, 0, none⟩) (x := 0) c0
  have hnot : ∀ (x : Bool) (w : World), (Op.unary .not (.bool x)).run Tryz.prog w = .ok (.bool (!x)) w := fun _ _ => rfl
  have hbo := buildonce_any base b _ _ _ v (w.setCell ⟨b, 1, none⟩ (.int .i32 1)) S1.out.1 (own_block hs fun k hk => S1.out.2.block k (hs.lt k hk).2 (fun e => hd (by rw [hk, e]))) (by simpa using hbase)
  have hlf := lock_free ⟨b, 1, none⟩ w c1 z1
  clear h hs c0 c1
  go_enter_defers Tryz.func140, Tryz.ntmps140
  go_wp2_with (first
    | (go_at_call 151; refine hlf.mono ?_; rintro e w' ⟨rfl, rfl⟩)
    | (go_at_call 139; go_in)
    | (go_at_call 127; refine hbo.mono ?_; rintro e w2 ⟨rfl, g, h2, hb2, bl2⟩; have H2 := hid h2; have HB2 := hid hb2; have BL2 := hid bl2; clear h2 hb2 bl2))
  have H3 := hid ((show RpO base w2.drew b _ _ _ _ _ from own_block H2.out fun _ _ => rfl).stored 0 (.int .u32 1))
  have H4 := hid (H3.out.1.stored 1 (.int .i32 0))
  refine leaves_cons (f := 153) (args := #[.pointer (some ⟨b, 0, none⟩), .bool true]) (by simp) (by simp [go_sem]) ?_
  refine (store_deferred ⟨b, 0, none⟩ (.int .u32 0) .returning w2 (own_at H2.out (j := 0) rfl) (H2.out.frozenAt 0)).mono ?_
  rintro e u' w'' ⟨rfl, rfl, rfl⟩
  refine leaves_cons (f := 152) (args := #[.pointer (some ⟨b, 1, none⟩)]) (by simp [settle]) (by simp [go_sem]) ?_
  refine (unlock_deferred ⟨b, 1, none⟩ _ _ (own_at H3.out.1 (j := 1) rfl) (H3.out.1.frozenAt 1)).mono ?_
  rintro e u' w'' ⟨rfl, rfl, rfl⟩
  have hfin : ∃ g, RpO base ((w2.drew.setCell ⟨b, 0, none⟩ (.int .u32 1)).setCell ⟨b, 1, none⟩ (.int .i32 0)) b (.int .u32 1) (.int .i32 0) (.int .u32 0) (.iface 223 (.pointer (some ⟨g, 0, none⟩))) (.slice none 0 0) ∧ Bsr w.heap.size ((w2.drew.setCell ⟨b, 0, none⟩ (.int .u32 1)).setCell ⟨b, 1, none⟩ (.int .i32 0)) g ∧ Below base w ((w2.drew.setCell ⟨b, 0, none⟩ (.int .u32 1)).setCell ⟨b, 1, none⟩ (.int .i32 0)) := by
    have hs0 : (w.setCell ⟨b, 1, none⟩ (.int .i32 1)).heap.size = w.heap.size := by simp
    have hsb := BL2.out.size
    rw [hs0] at hsb
    have hB := HB2.out
    rw [hs0] at hB
    refine ⟨g, H4.out.1, hB.mv fun k hk => ?_, ?_⟩
    · exact (Below.heap_setCell _ ⟨b, 1, none⟩ _ k (by intro e; simp at e; omega)).trans (Below.heap_setCell w2.drew ⟨b, 0, none⟩ _ k (by intro e; simp at e; omega))
    · have B1 : Below base w (w.setCell ⟨b, 1, none⟩ (.int .i32 1)) := (Below.refl base w).grown S1.out.2 hbase (fun k hk => by injection hk with hk; omega)
      have B2 : Below base w w2.drew := (B1.trans BL2.out).drew
      have B3 := B2.grown H3.out.2 (Nat.le_trans hbase hsb) (fun k hk => by injection hk with hk; omega)
      exact B3.grown H4.out.2 (by have : (w2.drew.setCell ⟨b, 0, none⟩ (.int .u32 1)).heap.size = w2.heap.size := by simp
                                  omega) (fun k hk => by injection hk with hk; omega)
  simp [Leaves, settle, results, Tryz.results140]
  exact hfin
set_option maxHeartbeats 4000000 in
set_option maxRecDepth 100000 in
theorem do_first (base b : Nat) (v : Value) (w : World) (h : RpO base w b (.int .u32 0) (.int .i32 0) (.int .u32 0) .nilIface v) (hs : w.ownsRow base 9 1 v 4 rs4) (hd : v.ownBlock ≠ some b) (hbase : base ≤ w.heap.size) :
    Calls Tryz.prog 126 #[.pointer (some ⟨b, 0, none⟩), .func (.func 127) #[.pointer (some ⟨b, 0, none⟩)] #[]] w fun e w' => e = .returned (.tuple #[]) ∧ ∃ g, RpO base w' b (.int .u32 1) (.int .i32 0) (.int .u32 0) (.iface 223 (.pointer (some ⟨g, 0, none⟩))) (.slice none 0 0) ∧ Bsr w.heap.size w' g ∧ Below base w w' := by
  have hl := run_call_load (P := Tryz.prog) Tryz.func150 (by kernel_rfl) (by kernel_rfl) (by kernel_rfl) .u32 (by kernel_rfl) (own_at h (j := 0) rfl)
  have hnot : ∀ (x : Bool) (w : World), (Op.unary .not (.bool x)).run Tryz.prog w = .ok (.bool (!x)) w := fun _ _ => rfl
  have HS := hid (slow_any base b v w h hs hd hbase)
  clear h hs
  go_enter Tryz.func126, Tryz.ntmps126
  go_wp2_with (first | (go_at_call 140; refine HS.out.mono ?_; rintro e w' ⟨rfl, g, h2, hb2, bl2⟩; have H2 := hid h2; have HB2 := hid hb2; have BL2 := hid bl2; clear h2 hb2 bl2) | (go_at_call 139; go_in))
  go_end0
  exact ⟨rfl, g, H2.out, HB2.out, BL2.out⟩
end Go.Proofs.YtkgobglmkhkbbaaGreatDoor
