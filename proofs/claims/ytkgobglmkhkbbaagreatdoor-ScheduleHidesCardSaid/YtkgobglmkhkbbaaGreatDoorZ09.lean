import Derived.Test.YtkgobglmkhkbbaaGreatDoorZ08
import Derived.RegionTactic
/- schedule: Begin walked whole. -/
namespace Go.Proofs.YtkgobglmkhkbbaaGreatDoor
open Go.RowKit Go.KK Go.Shelf Go.Maps
set_option linter.unusedVariables false
set_option linter.unusedSimpArgs false

theorem len11 {l : List Int} (h : l.length = 11) : ∃ e0 e1 e2 e3 e4 e5 e6 e7 e8 e9 e10 : Int, l = [e0, e1, e2, e3, e4, e5, e6, e7, e8, e9, e10] := by
  match l, h with
  | [e0, e1, e2, e3, e4, e5, e6, e7, e8, e9, e10], _ => exact ⟨e0, e1, e2, e3, e4, e5, e6, e7, e8, e9, e10, rfl⟩
theorem idx8 (H : Nat) (w : World) : (Instr.index 96 (.agg #[.pointer (some ⟨H + 5, 3, none⟩), .string ⟨#[115, 101, 110, 100, 101, 114]⟩, .pointer (some ⟨H + 5, 4, none⟩), .string ⟨#[101, 110, 99, 114, 121, 112, 116, 105, 111, 110]⟩, .pointer (some ⟨H + 5, 5, none⟩), .string ⟨#[101, 120, 112, 111, 114, 116, 101, 114]⟩, .pointer (some ⟨H + 5, 6, none⟩), .string ⟨#[99, 111, 110, 102, 105, 114, 109]⟩, .pointer (some ⟨H + 5, 7, none⟩), .string ⟨#[109, 101, 109, 98, 101, 114, 115, 104, 105, 112]⟩, .pointer (some ⟨H + 5, 8, none⟩), .string ⟨#[114, 101, 115, 117, 109, 112, 116, 105, 111, 110]⟩, .pointer (some ⟨H + 5, 10, none⟩), .string ⟨#[105, 110, 105, 116]⟩, .pointer (some ⟨H + 8, 0, none⟩), .string ⟨#[101, 120, 116, 101, 114, 110, 97, 108]⟩]) (.int .i64 0)).run Tryz.prog w = .ok (.agg #[.pointer (some ⟨H + 5, 3, none⟩), .string ⟨#[115, 101, 110, 100, 101, 114]⟩]) w ∧ (Instr.index 96 (.agg #[.pointer (some ⟨H + 5, 3, none⟩), .string ⟨#[115, 101, 110, 100, 101, 114]⟩, .pointer (some ⟨H + 5, 4, none⟩), .string ⟨#[101, 110, 99, 114, 121, 112, 116, 105, 111, 110]⟩, .pointer (some ⟨H + 5, 5, none⟩), .string ⟨#[101, 120, 112, 111, 114, 116, 101, 114]⟩, .pointer (some ⟨H + 5, 6, none⟩), .string ⟨#[99, 111, 110, 102, 105, 114, 109]⟩, .pointer (some ⟨H + 5, 7, none⟩), .string ⟨#[109, 101, 109, 98, 101, 114, 115, 104, 105, 112]⟩, .pointer (some ⟨H + 5, 8, none⟩), .string ⟨#[114, 101, 115, 117, 109, 112, 116, 105, 111, 110]⟩, .pointer (some ⟨H + 5, 10, none⟩), .string ⟨#[105, 110, 105, 116]⟩, .pointer (some ⟨H + 8, 0, none⟩), .string ⟨#[101, 120, 116, 101, 114, 110, 97, 108]⟩]) (.int .i64 1)).run Tryz.prog w = .ok (.agg #[.pointer (some ⟨H + 5, 4, none⟩), .string ⟨#[101, 110, 99, 114, 121, 112, 116, 105, 111, 110]⟩]) w ∧ (Instr.index 96 (.agg #[.pointer (some ⟨H + 5, 3, none⟩), .string ⟨#[115, 101, 110, 100, 101, 114]⟩, .pointer (some ⟨H + 5, 4, none⟩), .string ⟨#[101, 110, 99, 114, 121, 112, 116, 105, 111, 110]⟩, .pointer (some ⟨H + 5, 5, none⟩), .string ⟨#[101, 120, 112, 111, 114, 116, 101, 114]⟩, .pointer (some ⟨H + 5, 6, none⟩), .string ⟨#[99, 111, 110, 102, 105, 114, 109]⟩, .pointer (some ⟨H + 5, 7, none⟩), .string ⟨#[109, 101, 109, 98, 101, 114, 115, 104, 105, 112]⟩, .pointer (some ⟨H + 5, 8, none⟩), .string ⟨#[114, 101, 115, 117, 109, 112, 116, 105, 111, 110]⟩, .pointer (some ⟨H + 5, 10, none⟩), .string ⟨#[105, 110, 105, 116]⟩, .pointer (some ⟨H + 8, 0, none⟩), .string ⟨#[101, 120, 116, 101, 114, 110, 97, 108]⟩]) (.int .i64 2)).run Tryz.prog w = .ok (.agg #[.pointer (some ⟨H + 5, 5, none⟩), .string ⟨#[101, 120, 112, 111, 114, 116, 101, 114]⟩]) w ∧ (Instr.index 96 (.agg #[.pointer (some ⟨H + 5, 3, none⟩), .string ⟨#[115, 101, 110, 100, 101, 114]⟩, .pointer (some ⟨H + 5, 4, none⟩), .string ⟨#[101, 110, 99, 114, 121, 112, 116, 105, 111, 110]⟩, .pointer (some ⟨H + 5, 5, none⟩), .string ⟨#[101, 120, 112, 111, 114, 116, 101, 114]⟩, .pointer (some ⟨H + 5, 6, none⟩), .string ⟨#[99, 111, 110, 102, 105, 114, 109]⟩, .pointer (some ⟨H + 5, 7, none⟩), .string ⟨#[109, 101, 109, 98, 101, 114, 115, 104, 105, 112]⟩, .pointer (some ⟨H + 5, 8, none⟩), .string ⟨#[114, 101, 115, 117, 109, 112, 116, 105, 111, 110]⟩, .pointer (some ⟨H + 5, 10, none⟩), .string ⟨#[105, 110, 105, 116]⟩, .pointer (some ⟨H + 8, 0, none⟩), .string ⟨#[101, 120, 116, 101, 114, 110, 97, 108]⟩]) (.int .i64 3)).run Tryz.prog w = .ok (.agg #[.pointer (some ⟨H + 5, 6, none⟩), .string ⟨#[99, 111, 110, 102, 105, 114, 109]⟩]) w ∧ (Instr.index 96 (.agg #[.pointer (some ⟨H + 5, 3, none⟩), .string ⟨#[115, 101, 110, 100, 101, 114]⟩, .pointer (some ⟨H + 5, 4, none⟩), .string ⟨#[101, 110, 99, 114, 121, 112, 116, 105, 111, 110]⟩, .pointer (some ⟨H + 5, 5, none⟩), .string ⟨#[101, 120, 112, 111, 114, 116, 101, 114]⟩, .pointer (some ⟨H + 5, 6, none⟩), .string ⟨#[99, 111, 110, 102, 105, 114, 109]⟩, .pointer (some ⟨H + 5, 7, none⟩), .string ⟨#[109, 101, 109, 98, 101, 114, 115, 104, 105, 112]⟩, .pointer (some ⟨H + 5, 8, none⟩), .string ⟨#[114, 101, 115, 117, 109, 112, 116, 105, 111, 110]⟩, .pointer (some ⟨H + 5, 10, none⟩), .string ⟨#[105, 110, 105, 116]⟩, .pointer (some ⟨H + 8, 0, none⟩), .string ⟨#[101, 120, 116, 101, 114, 110, 97, 108]⟩]) (.int .i64 4)).run Tryz.prog w = .ok (.agg #[.pointer (some ⟨H + 5, 7, none⟩), .string ⟨#[109, 101, 109, 98, 101, 114, 115, 104, 105, 112]⟩]) w ∧ (Instr.index 96 (.agg #[.pointer (some ⟨H + 5, 3, none⟩), .string ⟨#[115, 101, 110, 100, 101, 114]⟩, .pointer (some ⟨H + 5, 4, none⟩), .string ⟨#[101, 110, 99, 114, 121, 112, 116, 105, 111, 110]⟩, .pointer (some ⟨H + 5, 5, none⟩), .string ⟨#[101, 120, 112, 111, 114, 116, 101, 114]⟩, .pointer (some ⟨H + 5, 6, none⟩), .string ⟨#[99, 111, 110, 102, 105, 114, 109]⟩, .pointer (some ⟨H + 5, 7, none⟩), .string ⟨#[109, 101, 109, 98, 101, 114, 115, 104, 105, 112]⟩, .pointer (some ⟨H + 5, 8, none⟩), .string ⟨#[114, 101, 115, 117, 109, 112, 116, 105, 111, 110]⟩, .pointer (some ⟨H + 5, 10, none⟩), .string ⟨#[105, 110, 105, 116]⟩, .pointer (some ⟨H + 8, 0, none⟩), .string ⟨#[101, 120, 116, 101, 114, 110, 97, 108]⟩]) (.int .i64 5)).run Tryz.prog w = .ok (.agg #[.pointer (some ⟨H + 5, 8, none⟩), .string ⟨#[114, 101, 115, 117, 109, 112, 116, 105, 111, 110]⟩]) w ∧ (Instr.index 96 (.agg #[.pointer (some ⟨H + 5, 3, none⟩), .string ⟨#[115, 101, 110, 100, 101, 114]⟩, .pointer (some ⟨H + 5, 4, none⟩), .string ⟨#[101, 110, 99, 114, 121, 112, 116, 105, 111, 110]⟩, .pointer (some ⟨H + 5, 5, none⟩), .string ⟨#[101, 120, 112, 111, 114, 116, 101, 114]⟩, .pointer (some ⟨H + 5, 6, none⟩), .string ⟨#[99, 111, 110, 102, 105, 114, 109]⟩, .pointer (some ⟨H + 5, 7, none⟩), .string ⟨#[109, 101, 109, 98, 101, 114, 115, 104, 105, 112]⟩, .pointer (some ⟨H + 5, 8, none⟩), .string ⟨#[114, 101, 115, 117, 109, 112, 116, 105, 111, 110]⟩, .pointer (some ⟨H + 5, 10, none⟩), .string ⟨#[105, 110, 105, 116]⟩, .pointer (some ⟨H + 8, 0, none⟩), .string ⟨#[101, 120, 116, 101, 114, 110, 97, 108]⟩]) (.int .i64 6)).run Tryz.prog w = .ok (.agg #[.pointer (some ⟨H + 5, 10, none⟩), .string ⟨#[105, 110, 105, 116]⟩]) w ∧ (Instr.index 96 (.agg #[.pointer (some ⟨H + 5, 3, none⟩), .string ⟨#[115, 101, 110, 100, 101, 114]⟩, .pointer (some ⟨H + 5, 4, none⟩), .string ⟨#[101, 110, 99, 114, 121, 112, 116, 105, 111, 110]⟩, .pointer (some ⟨H + 5, 5, none⟩), .string ⟨#[101, 120, 112, 111, 114, 116, 101, 114]⟩, .pointer (some ⟨H + 5, 6, none⟩), .string ⟨#[99, 111, 110, 102, 105, 114, 109]⟩, .pointer (some ⟨H + 5, 7, none⟩), .string ⟨#[109, 101, 109, 98, 101, 114, 115, 104, 105, 112]⟩, .pointer (some ⟨H + 5, 8, none⟩), .string ⟨#[114, 101, 115, 117, 109, 112, 116, 105, 111, 110]⟩, .pointer (some ⟨H + 5, 10, none⟩), .string ⟨#[105, 110, 105, 116]⟩, .pointer (some ⟨H + 8, 0, none⟩), .string ⟨#[101, 120, 116, 101, 114, 110, 97, 108]⟩]) (.int .i64 7)).run Tryz.prog w = .ok (.agg #[.pointer (some ⟨H + 8, 0, none⟩), .string ⟨#[101, 120, 116, 101, 114, 110, 97, 108]⟩]) w :=
  ⟨by kernel_rfl, by kernel_rfl, by kernel_rfl, by kernel_rfl, by kernel_rfl, by kernel_rfl, by kernel_rfl, by kernel_rfl⟩
theorem lm_set {w0 W U : World} {Z Zr : Nat → Prop} {sa b o : Nat} {X : List ND} {v : Value} (h : LA w0 U Zr sa X ∧ Mv Z W Zr U) (hz : ¬ Zr b) (hb : W.heap.size ≤ b) (hw : w0.heap.size ≤ W.heap.size) : LA w0 (U.setCell ⟨b, o, none⟩ v) Zr sa X ∧ Mv Z W Zr (U.setCell ⟨b, o, none⟩ v) :=
  ⟨h.1.put1 v hz (Nat.le_trans hw hb), h.2.step (H := W.heap.size) (Turn.setCell v (.inl (.inr hb))) (fun _ h => .inl h) (Nat.le_refl _)⟩
theorem lm_drew {w0 W U : World} {Z Zr : Nat → Prop} {sa : Nat} {X : List ND} (h : LA w0 U Zr sa X ∧ Mv Z W Zr U) : LA w0 U.drew Zr sa X ∧ Mv Z W Zr U.drew :=
  ⟨h.1.ext (below_drew (Below.refl _ _)), h.2.trans (Mv.below (below_drew (Below.refl _ _)))⟩
theorem BgI.alloc {w0 W wr : World} {Z Zr : Nat → Prop} {sa : Nat} {j p x : Int} {R : List ND × List Int × Int} {ep : List Int} {mem ext : Int} (h : BgI w0 W Z sa j p x R wr Zr ep mem ext) (o : Obj) : BgI w0 W Z sa j p x R (wr.alloc o) Zr ep mem ext :=
  ⟨h.la.alloc o, h.mv.trans (Mv.alloc Zr wr o), h.bg.mv (Mv.alloc Zr wr o), h.l11, h.i64, h.ok⟩
section
variable {w0 W : World} {Z : Nat → Prop} {sa : Nat} {xs : List ND}
set_option maxHeartbeats 4000000 in
set_option maxRecDepth 100000 in
theorem beg_any (h : LA w0 W Z sa xs) (hT : Tb w0.heap.size w0) {j p x : Int} (hj : I64 j) (hp : I64 p) (hx : I64 x) :
    Calls Tryz.prog 19 #[.pointer (some ⟨sa, 0, none⟩), .int .i64 j, .int .i64 p, .int .i64 x] W (EpS w0 W Z sa (begF xs j p x)) := by
  have HT := hid hT
  have HB := hid h.bl.size
  have HI0 := hid (show ∃ Zr ep mem ext, BgI w0 W Z sa j p x (bgR xs j p x 0) _ Zr ep mem ext from ⟨Z, epL j [], 0, 0, (((((((((h.alloc _).alloc _).alloc _).alloc _).alloc _).alloc _).alloc _).alloc _).alloc _), ((((((((Mv.alloc Z W _).trans (Mv.alloc Z _ _)).trans (Mv.alloc Z _ _)).trans (Mv.alloc Z _ _)).trans (Mv.alloc Z _ _)).trans (Mv.alloc Z _ _)).trans (Mv.alloc Z _ _)).trans (Mv.alloc Z _ _)).trans (Mv.alloc Z _ _), bg_new h, rfl, fun _ a ha => absurd (show a ∈ ([] : List Int) from ha) (by simp), fun _ => ⟨rfl, rfl, rfl⟩⟩)
  clear h hT
  go_enter Tryz.func19, Tryz.ntmps19
  go_upto_region 5 with fail
  simp only [Nat.add_assoc, Nat.reduceAdd]
  refine forget (R := fun V => ∃ Zr ep mem ext, BgI w0 W Z sa j p x (bgR xs j p x 0) V Zr ep mem ext) ?_ HI0.out
  clear HI0
  rintro V ⟨Zr, ep, mem, ext, hI⟩
  have HI := hid hI
  clear hI
  go_wp2_with fail
  refine (st_0 HT.out HB.out hj hp HI.out).mono ?_
  rintro e V0 ⟨rfl, Z0, ep, mem, ext, hI⟩
  clear HI
  have HI := hid hI
  clear hI
  go_wp2_with fail
  refine (st_1 HT.out HB.out HI.out).mono ?_
  rintro e V1 ⟨rfl, Z1, ep, mem, ext, hI⟩
  clear HI
  have HI := hid hI
  clear hI
  go_wp2_with fail
  refine (st_2 HT.out HB.out hx HI.out).mono ?_
  rintro e V2 ⟨rfl, Z2, ep, mem, ext, hI⟩
  clear HI
  have HI := hid hI
  clear hI
  go_wp2_with fail
  go_loopw [47] (fun v wr => ∃ k : Nat, v = .int .i64 k ∧ k ≤ 8 ∧ ∃ Zr ep mem ext, BgI w0 W Z sa j p x (bgR xs j p x (3 + k)) wr Zr ep mem ext) (fun v _ => 8 - (intOf v).toNat)
  case atStart => exact ⟨0, rfl, by omega, Z2, ep, mem, ext, HI.out⟩
  case round =>
    clear HI
    obtain ⟨k, hv, hk, Zr, ep, mem, ext, hI⟩ := hrel
    have HI := hid hI
    clear hI
    have hkc : k = 0 ∨ k = 1 ∨ k = 2 ∨ k = 3 ∨ k = 4 ∨ k = 5 ∨ k = 6 ∨ k = 7 ∨ k = 8 := by omega
    clear hk
    rcases hkc with rfl | rfl | rfl | rfl | rfl | rfl | rfl | rfl | rfl
    · have hv' : u47 = .int .i64 0 := hv
      clear hv
      subst hv'
      have HA := hid (HI.out.alloc (.cells #[.pointer (some ⟨W.heap.size + 5, 3, none⟩), .string lbSender] 95))
      have ct : (wr.alloc (.cells #[.pointer (some ⟨W.heap.size + 5, 3, none⟩), .string lbSender] 95)).cell? ⟨wr.heap.size, 1, none⟩ = some (.string lbSender) := by rw [World.cell?_alloc_at _ _ _ _ rfl]; rfl
      have HC := hid ct
      clear ct HI
      have hix := fun w => (idx8 W.heap.size w).1
      go_wp2_with fail
      refine (st_3 HT.out HB.out HA.out HC.out).mono ?_
      rintro e V3 ⟨rfl, Z3, ep, mem, ext, hI⟩
      have HI := hid hI
      clear hI HA HC
      go_wp2_with fail
      go_roundw
      case rel => exact ⟨1, rfl, by omega, Z3, ep, mem, ext, HI.out⟩
      case measure => simp [intOf]
    · have hv' : u47 = .int .i64 1 := hv
      clear hv
      subst hv'
      have HA := hid (HI.out.alloc (.cells #[.pointer (some ⟨W.heap.size + 5, 4, none⟩), .string lbEncryption] 95))
      have ct : (wr.alloc (.cells #[.pointer (some ⟨W.heap.size + 5, 4, none⟩), .string lbEncryption] 95)).cell? ⟨wr.heap.size, 1, none⟩ = some (.string lbEncryption) := by rw [World.cell?_alloc_at _ _ _ _ rfl]; rfl
      have HC := hid ct
      clear ct HI
      have hix := fun w => (idx8 W.heap.size w).2.1
      go_wp2_with fail
      refine (st_4 HT.out HB.out HA.out HC.out).mono ?_
      rintro e V4 ⟨rfl, Z4, ep, mem, ext, hI⟩
      have HI := hid hI
      clear hI HA HC
      go_wp2_with fail
      go_roundw
      case rel => exact ⟨2, rfl, by omega, Z4, ep, mem, ext, HI.out⟩
      case measure => simp [intOf]
    · have hv' : u47 = .int .i64 2 := hv
      clear hv
      subst hv'
      have HA := hid (HI.out.alloc (.cells #[.pointer (some ⟨W.heap.size + 5, 5, none⟩), .string lbExporter] 95))
      have ct : (wr.alloc (.cells #[.pointer (some ⟨W.heap.size + 5, 5, none⟩), .string lbExporter] 95)).cell? ⟨wr.heap.size, 1, none⟩ = some (.string lbExporter) := by rw [World.cell?_alloc_at _ _ _ _ rfl]; rfl
      have HC := hid ct
      clear ct HI
      have hix := fun w => (idx8 W.heap.size w).2.2.1
      go_wp2_with fail
      refine (st_5 HT.out HB.out HA.out HC.out).mono ?_
      rintro e V5 ⟨rfl, Z5, ep, mem, ext, hI⟩
      have HI := hid hI
      clear hI HA HC
      go_wp2_with fail
      go_roundw
      case rel => exact ⟨3, rfl, by omega, Z5, ep, mem, ext, HI.out⟩
      case measure => simp [intOf]
    · have hv' : u47 = .int .i64 3 := hv
      clear hv
      subst hv'
      have HA := hid (HI.out.alloc (.cells #[.pointer (some ⟨W.heap.size + 5, 6, none⟩), .string lbConfirm] 95))
      have ct : (wr.alloc (.cells #[.pointer (some ⟨W.heap.size + 5, 6, none⟩), .string lbConfirm] 95)).cell? ⟨wr.heap.size, 1, none⟩ = some (.string lbConfirm) := by rw [World.cell?_alloc_at _ _ _ _ rfl]; rfl
      have HC := hid ct
      clear ct HI
      have hix := fun w => (idx8 W.heap.size w).2.2.2.1
      go_wp2_with fail
      refine (st_6 HT.out HB.out HA.out HC.out).mono ?_
      rintro e V6 ⟨rfl, Z6, ep, mem, ext, hI⟩
      have HI := hid hI
      clear hI HA HC
      go_wp2_with fail
      go_roundw
      case rel => exact ⟨4, rfl, by omega, Z6, ep, mem, ext, HI.out⟩
      case measure => simp [intOf]
    · have hv' : u47 = .int .i64 4 := hv
      clear hv
      subst hv'
      have HA := hid (HI.out.alloc (.cells #[.pointer (some ⟨W.heap.size + 5, 7, none⟩), .string lbMembership] 95))
      have ct : (wr.alloc (.cells #[.pointer (some ⟨W.heap.size + 5, 7, none⟩), .string lbMembership] 95)).cell? ⟨wr.heap.size, 1, none⟩ = some (.string lbMembership) := by rw [World.cell?_alloc_at _ _ _ _ rfl]; rfl
      have HC := hid ct
      clear ct HI
      have hix := fun w => (idx8 W.heap.size w).2.2.2.2.1
      go_wp2_with fail
      refine (st_7 HT.out HB.out HA.out HC.out).mono ?_
      rintro e V7 ⟨rfl, Z7, ep, mem, ext, hI⟩
      have HI := hid hI
      clear hI HA HC
      go_wp2_with fail
      go_roundw
      case rel => exact ⟨5, rfl, by omega, Z7, ep, mem, ext, HI.out⟩
      case measure => simp [intOf]
    · have hv' : u47 = .int .i64 5 := hv
      clear hv
      subst hv'
      have HA := hid (HI.out.alloc (.cells #[.pointer (some ⟨W.heap.size + 5, 8, none⟩), .string lbResumption] 95))
      have ct : (wr.alloc (.cells #[.pointer (some ⟨W.heap.size + 5, 8, none⟩), .string lbResumption] 95)).cell? ⟨wr.heap.size, 1, none⟩ = some (.string lbResumption) := by rw [World.cell?_alloc_at _ _ _ _ rfl]; rfl
      have HC := hid ct
      clear ct HI
      have hix := fun w => (idx8 W.heap.size w).2.2.2.2.2.1
      go_wp2_with fail
      refine (st_8 HT.out HB.out HA.out HC.out).mono ?_
      rintro e V8 ⟨rfl, Z8, ep, mem, ext, hI⟩
      have HI := hid hI
      clear hI HA HC
      go_wp2_with fail
      go_roundw
      case rel => exact ⟨6, rfl, by omega, Z8, ep, mem, ext, HI.out⟩
      case measure => simp [intOf]
    · have hv' : u47 = .int .i64 6 := hv
      clear hv
      subst hv'
      have HA := hid (HI.out.alloc (.cells #[.pointer (some ⟨W.heap.size + 5, 10, none⟩), .string lbInit] 95))
      have ct : (wr.alloc (.cells #[.pointer (some ⟨W.heap.size + 5, 10, none⟩), .string lbInit] 95)).cell? ⟨wr.heap.size, 1, none⟩ = some (.string lbInit) := by rw [World.cell?_alloc_at _ _ _ _ rfl]; rfl
      have HC := hid ct
      clear ct HI
      have hix := fun w => (idx8 W.heap.size w).2.2.2.2.2.2.1
      go_wp2_with fail
      refine (st_9 HT.out HB.out HA.out HC.out).mono ?_
      rintro e V9 ⟨rfl, Z9, ep, mem, ext, hI⟩
      have HI := hid hI
      clear hI HA HC
      go_wp2_with fail
      go_roundw
      case rel => exact ⟨7, rfl, by omega, Z9, ep, mem, ext, HI.out⟩
      case measure => simp [intOf]
    · have hv' : u47 = .int .i64 7 := hv
      clear hv
      subst hv'
      have HA := hid (HI.out.alloc (.cells #[.pointer (some ⟨W.heap.size + 8, 0, none⟩), .string lbExternal] 95))
      have ct : (wr.alloc (.cells #[.pointer (some ⟨W.heap.size + 8, 0, none⟩), .string lbExternal] 95)).cell? ⟨wr.heap.size, 1, none⟩ = some (.string lbExternal) := by rw [World.cell?_alloc_at _ _ _ _ rfl]; rfl
      have HC := hid ct
      clear ct HI
      have hix := fun w => (idx8 W.heap.size w).2.2.2.2.2.2.2
      go_wp2_with fail
      refine (st_10 HT.out HB.out HA.out HC.out).mono ?_
      rintro e V10 ⟨rfl, Z10, ep, mem, ext, hI⟩
      have HI := hid hI
      clear hI HA HC
      go_wp2_with fail
      go_roundw
      case rel => exact ⟨8, rfl, by omega, Z10, ep, mem, ext, HI.out⟩
      case measure => simp [intOf]
    · have hv' : u47 = .int .i64 8 := hv
      clear hv
      subst hv'
      go_wp2_with fail
      refine (st_11 HT.out HB.out HI.out).mono ?_
      rintro e V11 ⟨rfl, Z11, ep2, mem2, ext2, hI⟩
      clear HI
      have HI := hid hI
      clear hI ep mem ext
      have cf := HI.out.bg.cell (k := 6) (o := 0) (v := .int .i64 (bgR xs j p x 12).2.2) (by omega) rfl
      have r0 := HI.out.bg.cell (k := 4) (o := 0) (v := .int .i64 0) (by omega) rfl
      have f0 := HI.out.bg.frozen (k := 4) (o := 0) (by omega)
      have r1 := HI.out.bg.cell (k := 4) (o := 1) (v := .int .i64 0) (by omega) rfl
      have f1 := HI.out.bg.frozen (k := 4) (o := 1) (by omega)
      have r2 := HI.out.bg.cell (k := 4) (o := 2) (v := .int .i64 0) (by omega) rfl
      have f2 := HI.out.bg.frozen (k := 4) (o := 2) (by omega)
      have r3 := HI.out.bg.cell (k := 4) (o := 3) (v := .int .i64 0) (by omega) rfl
      have f3 := HI.out.bg.frozen (k := 4) (o := 3) (by omega)
      have r4 := HI.out.bg.cell (k := 4) (o := 4) (v := .int .i64 0) (by omega) rfl
      have f4 := HI.out.bg.frozen (k := 4) (o := 4) (by omega)
      have r5 := HI.out.bg.cell (k := 4) (o := 5) (v := .int .i64 0) (by omega) rfl
      have f5 := HI.out.bg.frozen (k := 4) (o := 5) (by omega)
      have r6 := HI.out.bg.cell (k := 4) (o := 6) (v := .int .i64 0) (by omega) rfl
      have f6 := HI.out.bg.frozen (k := 4) (o := 6) (by omega)
      have r7 := HI.out.bg.cell (k := 4) (o := 7) (v := .int .i64 0) (by omega) rfl
      have f7 := HI.out.bg.frozen (k := 4) (o := 7) (by omega)
      have r8 := HI.out.bg.cell (k := 4) (o := 8) (v := .int .i64 0) (by omega) rfl
      have f8 := HI.out.bg.frozen (k := 4) (o := 8) (by omega)
      have r9 := HI.out.bg.cell (k := 4) (o := 9) (v := .int .i64 0) (by omega) rfl
      have f9 := HI.out.bg.frozen (k := 4) (o := 9) (by omega)
      have r10 := HI.out.bg.cell (k := 4) (o := 10) (v := .int .i64 0) (by omega) rfl
      have f10 := HI.out.bg.frozen (k := 4) (o := 10) (by omega)
      by_cases h0 : (bgR xs j p x 12).2.2 = 0
      · obtain ⟨e0, e1, e2, e3, e4, e5, e6, e7, e8, e9, e10, rfl⟩ := len11 HI.out.l11
        rw [h0] at cf
        have o0 := HI.out.bg.cell (k := 5) (o := 0) (v := .int .i64 e0) (by omega) rfl
        have o1 := HI.out.bg.cell (k := 5) (o := 1) (v := .int .i64 e1) (by omega) rfl
        have o2 := HI.out.bg.cell (k := 5) (o := 2) (v := .int .i64 e2) (by omega) rfl
        have o3 := HI.out.bg.cell (k := 5) (o := 3) (v := .int .i64 e3) (by omega) rfl
        have o4 := HI.out.bg.cell (k := 5) (o := 4) (v := .int .i64 e4) (by omega) rfl
        have o5 := HI.out.bg.cell (k := 5) (o := 5) (v := .int .i64 e5) (by omega) rfl
        have o6 := HI.out.bg.cell (k := 5) (o := 6) (v := .int .i64 e6) (by omega) rfl
        have o7 := HI.out.bg.cell (k := 5) (o := 7) (v := .int .i64 e7) (by omega) rfl
        have o8 := HI.out.bg.cell (k := 5) (o := 8) (v := .int .i64 e8) (by omega) rfl
        have o9 := HI.out.bg.cell (k := 5) (o := 9) (v := .int .i64 e9) (by omega) rfl
        have o10 := HI.out.bg.cell (k := 5) (o := 10) (v := .int .i64 e10) (by omega) rfl
        have HBE := hid (show begF xs j p x = ((bgR xs j p x 12).1, [e0, e1, e2, e3, e4, e5, e6, e7, e8, e9, e10], 0) by
          have hk := (HI.out.ok h0).1
          unfold begF
          rw [if_pos (show (bgF xs j p x).2.2 = 0 from h0)]
          rw [hk]; rfl)
        have HX := hid (And.intro HI.out.la HI.out.mv)
        have HNZ := hid (HI.out.bg.nz 4 (by omega))
        clear HI h0
        go_wp2_with fail
        refine bodyPost_ret (v := .tuple #[.agg #[.int .i64 e0, .int .i64 e1, .int .i64 e2, .int .i64 e3, .int .i64 e4, .int .i64 e5, .int .i64 e6, .int .i64 e7, .int .i64 e8, .int .i64 e9, .int .i64 e10], .int .i64 0]) ?_ rfl (show EpS _ _ _ _ _ _ _ from ⟨Z11, by rw [HBE.out]; rfl, ?_⟩)
        · rw [results_cell_tmp rfl]
          go_simp
        · rw [HBE.out]
          iterate 11 refine lm_set ?_ HNZ.out (Nat.le_add_right _ _) HB.out
          exact HX.out
      · have hne : ((bgR xs j p x 12).2.2 != 0) = true := bne_iff_ne.2 h0
        have HBE := hid (show begF xs j p x = ((bgR xs j p x 12).1, epZ, (bgR xs j p x 12).2.2) by
          unfold begF
          rw [if_neg (show ¬ (bgF xs j p x).2.2 = 0 from h0)]; rfl)
        have HX := hid (And.intro HI.out.la HI.out.mv)
        have HNZ := hid (HI.out.bg.nz 4 (by omega))
        clear HI h0
        generalize (bgR xs j p x 12).2.2 = er at *
        go_upto_region 15 with fail
        have d0 : V11.drew.cell? ⟨W.heap.size + 4, 0, none⟩ = some (.int .i64 0) := r0
        have g0 : V11.drew.frozen? ⟨W.heap.size + 4, 0, none⟩ = false := f0
        have d1 : V11.drew.cell? ⟨W.heap.size + 4, 1, none⟩ = some (.int .i64 0) := r1
        have g1 : V11.drew.frozen? ⟨W.heap.size + 4, 1, none⟩ = false := f1
        have d2 : V11.drew.cell? ⟨W.heap.size + 4, 2, none⟩ = some (.int .i64 0) := r2
        have g2 : V11.drew.frozen? ⟨W.heap.size + 4, 2, none⟩ = false := f2
        have d3 : V11.drew.cell? ⟨W.heap.size + 4, 3, none⟩ = some (.int .i64 0) := r3
        have g3 : V11.drew.frozen? ⟨W.heap.size + 4, 3, none⟩ = false := f3
        have d4 : V11.drew.cell? ⟨W.heap.size + 4, 4, none⟩ = some (.int .i64 0) := r4
        have g4 : V11.drew.frozen? ⟨W.heap.size + 4, 4, none⟩ = false := f4
        have d5 : V11.drew.cell? ⟨W.heap.size + 4, 5, none⟩ = some (.int .i64 0) := r5
        have g5 : V11.drew.frozen? ⟨W.heap.size + 4, 5, none⟩ = false := f5
        have d6 : V11.drew.cell? ⟨W.heap.size + 4, 6, none⟩ = some (.int .i64 0) := r6
        have g6 : V11.drew.frozen? ⟨W.heap.size + 4, 6, none⟩ = false := f6
        have d7 : V11.drew.cell? ⟨W.heap.size + 4, 7, none⟩ = some (.int .i64 0) := r7
        have g7 : V11.drew.frozen? ⟨W.heap.size + 4, 7, none⟩ = false := f7
        have d8 : V11.drew.cell? ⟨W.heap.size + 4, 8, none⟩ = some (.int .i64 0) := r8
        have g8 : V11.drew.frozen? ⟨W.heap.size + 4, 8, none⟩ = false := f8
        have d9 : V11.drew.cell? ⟨W.heap.size + 4, 9, none⟩ = some (.int .i64 0) := r9
        have g9 : V11.drew.frozen? ⟨W.heap.size + 4, 9, none⟩ = false := f9
        have d10 : V11.drew.cell? ⟨W.heap.size + 4, 10, none⟩ = some (.int .i64 0) := r10
        have g10 : V11.drew.frozen? ⟨W.heap.size + 4, 10, none⟩ = false := f10
        go_region
        all_goals
          go_wp2_with fail
          refine bodyPost_ret (v := .tuple #[.agg #[.int .i64 0, .int .i64 0, .int .i64 0, .int .i64 0, .int .i64 0, .int .i64 0, .int .i64 0, .int .i64 0, .int .i64 0, .int .i64 0, .int .i64 0], .int .i64 er]) ?_ rfl (show EpS _ _ _ _ _ _ _ from ⟨Z11, by rw [HBE.out]; rfl, ?_⟩)
          · rw [results_cell_tmp rfl]
            go_simp
          · rw [HBE.out]
            refine lm_drew ?_
            iterate 11 refine lm_set ?_ HNZ.out (Nat.le_add_right _ _) HB.out
            exact HX.out
end
end Go.Proofs.YtkgobglmkhkbbaaGreatDoor

/- the document's Begin. -/
namespace Go.Proofs.YtkgobglmkhkbbaaGreatDoor
open Go.RowKit Go.KK Go.Shelf Go.Maps
set_option linter.unusedVariables false
set_option linter.unusedSimpArgs false
theorem bgR_stuck {xs : List ND} {j p x : Int} {k : Nat} (h : (bgR xs j p x k).2.2 ≠ 0) : ∀ d, bgR xs j p x (k + d) = bgR xs j p x k := by
  intro d
  induction d with
  | zero => rfl
  | succ d ih =>
    rw [← ih] at h ⊢
    by_cases hl : k + d < (bgS j p x).length
    · unfold bgR at h ⊢
      rw [show k + (d + 1) = k + d + 1 by omega, run_take (List.getElem?_eq_getElem hl)]
      unfold rnS
      rw [if_neg h]
    · unfold bgR
      rw [List.take_of_length_le (by omega), List.take_of_length_le (by omega)]
theorem beg_no {xs : List ND} {j p x : Int} {k : Nat} {f : List Int → List ND → Rs} {R : List ND × List Int × Int} (hR : R = bgR xs j p x k) (hk : (bgS j p x)[k]? = some f) (h0 : R.2.2 = 0) (he : (f R.2.1 R.1).2.2 ≠ 0) : begF xs j p x = ((f R.2.1 R.1).1, epZ, (f R.2.1 R.1).2.2) := by
  have hn : bgR xs j p x (k + 1) = ((f R.2.1 R.1).1, R.2.1, (f R.2.1 R.1).2.2) := by
    unfold bgR
    rw [run_take hk]
    change rnS (bgR xs j p x k) f = _
    rw [← hR]
    unfold rnS
    rw [if_pos h0, if_neg he]
  have hkl : k < 12 := (List.getElem?_eq_some_iff.1 hk).1
  have hs := bgR_stuck (xs := xs) (j := j) (p := p) (x := x) (k := k + 1) (by rw [hn]; exact he) (11 - k)
  rw [show k + 1 + (11 - k) = 12 by omega, hn] at hs
  have hb : bgF xs j p x = bgR xs j p x 12 := by unfold bgR; rw [List.take_of_length_le (show (bgS j p x).length ≤ 12 from Nat.le_refl 12)]; rfl
  unfold begF
  rw [hb, hs]
  exact if_neg he
theorem beg_yes {xs : List ND} {j p x : Int} {R : List ND × List Int × Int} (hR : R = bgR xs j p x 12) (h0 : R.2.2 = 0) : begF xs j p x = (R.1, epL j R.2.1, 0) := by
  have hb : bgF xs j p x = R := by rw [hR]; unfold bgR; rw [List.take_of_length_le (show (bgS j p x).length ≤ 12 from Nat.le_refl 12)]; rfl
  unfold begF
  rw [hb, if_pos h0]
theorem bgR_next {xs : List ND} {j p x : Int} {k : Nat} {f : List Int → List ND → Rs} {R : List ND × List Int × Int} (hR : R = bgR xs j p x k) (hk : (bgS j p x)[k]? = some f) : rnS R f = bgR xs j p x (k + 1) := by
  unfold bgR
  rw [run_take hk, hR]

theorem LQ.put1 {w0 W : World} {Z : Nat → Prop} {sa b o : Nat} {xs : List ND} (h : LQ w0 W Z sa xs) (v : Value) (hz : ¬ Z b) (hb : w0.heap.size ≤ b) : LQ w0 (W.setCell ⟨b, o, none⟩ v) Z sa xs := by
  have ht : Turn (fun k => k = b) W (W.setCell ⟨b, o, none⟩ v) := Turn.setCell v (.inl rfl)
  exact ⟨h.ar.turn ht fun k hk e => hz (e ▸ hk), h.z, h.bl.trans (ht.below (fun k e => e ▸ hb) h.bl.size)⟩
theorem lq_set {w0 W U : World} {Z Zr : Nat → Prop} {sa b o : Nat} {X : List ND} {v : Value} (h : LQ w0 U Zr sa X ∧ Mv Z W Zr U) (hz : ¬ Zr b) (hb : W.heap.size ≤ b) (hw : w0.heap.size ≤ W.heap.size) : LQ w0 (U.setCell ⟨b, o, none⟩ v) Zr sa X ∧ Mv Z W Zr (U.setCell ⟨b, o, none⟩ v) :=
  ⟨h.1.put1 v hz (Nat.le_trans hw hb), h.2.step (H := W.heap.size) (Turn.setCell v (.inl (.inr hb))) (fun _ h => .inl h) (Nat.le_refl _)⟩
theorem Mv.cellR {Z Z1 : Nat → Prop} {V W1 : World} {b : Nat} {cs : Array Value} {T : TypeId} (hb : V.heap[b]? = some (.cells cs T (0, 0))) (m : Mv Z V Z1 W1) (hz : ¬ Z b) : W1.heap[b]? = some (.cells cs T (0, 0)) ∧ ¬ Z1 b :=
  have hlt := (Array.getElem?_eq_some_iff.1 hb).1
  ⟨(m.t.block b hlt hz).trans hb, fun h => (m.n b h).elim hz fun h' => by omega⟩
/-- A call of the document's that makes an epoch. -/
def EpQ (w0 W : World) (Z : Nat → Prop) (sa : Nat) (r : List ND × List Int × Int) (e : Ending) (w' : World) : Prop := ∃ Z', e = .returned (.tuple #[epV r.2.1, .int .i64 r.2.2]) ∧ LQ w0 w' Z' sa r.1 ∧ Mv Z W Z' w'
/-- The way out of Begin. -/
def QO (w0 W : World) (Z : Nat → Prop) (sa : Nat) (X : List ND) (U : World) : Prop := ∃ Zu, (LQ w0 U Zu sa X ∧ Mv Z W Zu U) ∧ U.heap[W.heap.size]? = some (.cells #[.int .i64 0, .int .i64 0, .int .i64 0, .int .i64 0, .int .i64 0, .int .i64 0, .int .i64 0, .int .i64 0, .int .i64 0, .int .i64 0, .int .i64 0] 30 (0, 0)) ∧ ¬ Zu W.heap.size
/-- Where the document's Begin stands. -/
structure QI (w0 W : World) (Z : Nat → Prop) (sa : Nat) (j : Int) (k : Nat) (R : List ND × List Int × Int) (wr : World) (Zr : Nat → Prop) (ob : Nat) : Prop where
  la : LQ w0 wr Zr sa R.1
  mv : Mv Z W Zr wr
  r : wr.heap[W.heap.size]? = some (.cells #[.int .i64 0, .int .i64 0, .int .i64 0, .int .i64 0, .int .i64 0, .int .i64 0, .int .i64 0, .int .i64 0, .int .i64 0, .int .i64 0, .int .i64 0] 30 (0, 0))
  rz : ¬ Zr W.heap.size
  o : wr.heap[ob]? = some (.cells ((epL j R.2.1).map (.int .i64)).toArray 30 (0, 0))
  oz : ¬ Zr ob
  ow : W.heap.size < ob
  n : R.2.1.length = k
  i64 : ∀ a ∈ R.2.1, I64 a
  e0 : R.2.2 = 0
section
variable {w0 W wr w' : World} {Z Zr Z' : Nat → Prop} {sa ob k : Nat} {j : Int} {R : List ND × List Int × Int} {f : List Int → List ND → Rs}
theorem QI.res (h : QI w0 W Z sa j k R wr Zr ob) (hl : LQ w0 w' Z' sa (f R.2.1 R.1).1) (he : (f R.2.1 R.1).2.2 = 0) (hsb : Sb (f R.2.1)) : I64 (f R.2.1 R.1).2.1 := by
  have a := has_iff.1 (hsb.has R.1 he)
  have b := hl.ar.ok.len
  try dsimp only at b
  exact ⟨by omega, by omega⟩
theorem rnS_ok (h0 : R.2.2 = 0) (he : (f R.2.1 R.1).2.2 = 0) : rnS R f = ((f R.2.1 R.1).1, R.2.1 ++ [(f R.2.1 R.1).2.1], 0) := by
  unfold rnS
  rw [if_pos h0, if_pos he]
/-- A step that turns none of the epoch's numbers. -/
theorem QI.step0 (h : QI w0 W Z sa j k R wr Zr ob) (hl : LQ w0 w' Z' sa (f R.2.1 R.1).1) (m : Mv Zr wr Z' w') (he : (f R.2.1 R.1).2.2 = 0) (hsb : Sb (f R.2.1)) (hq : epL j (R.2.1 ++ [(f R.2.1 R.1).2.1]) = epL j R.2.1) : QI w0 W Z sa j (k + 1) (rnS R f) w' Z' ob := by
  have hi := h.res hl he hsb
  rw [rnS_ok h.e0 he]
  obtain ⟨r1, r2⟩ := Mv.cellR h.r m h.rz
  obtain ⟨o1, o2⟩ := Mv.cellR h.o m h.oz
  exact ⟨hl, h.mv.trans m, r1, r2, by dsimp only; rw [hq]; exact o1, o2, h.ow, by simp [h.n], fun a ha => by
    rcases List.mem_append.1 ha with ha | ha
    · exact h.i64 a ha
    · rw [List.mem_singleton] at ha; subst ha; exact hi, rfl⟩
theorem QI.put (h : QI w0 W Z sa j k R wr Zr ob) (hw : w0.heap.size ≤ W.heap.size) {b q : Nat} {v : Value} (h1 : W.heap.size < b) (h2 : b ≠ ob) (h3 : ¬ Zr b) : QI w0 W Z sa j k R (wr.setCell ⟨b, q, none⟩ v) Zr ob := by
  obtain ⟨a, c⟩ := lq_set (o := q) (v := v) ⟨h.la, h.mv⟩ h3 (Nat.le_of_lt h1) hw
  exact ⟨a, c, by rw [Below.heap_setCell _ _ _ _ (by simp; omega)]; exact h.r, h.rz, by rw [Below.heap_setCell _ _ _ _ (by simp; omega)]; exact h.o, h.oz, h.ow, h.n, h.i64, h.e0⟩
/-- A step that turns one of them. -/
theorem QI.step (h : QI w0 W Z sa j k R wr Zr ob) (hw : w0.heap.size ≤ W.heap.size) (hl : LQ w0 w' Z' sa (f R.2.1 R.1).1) (m : Mv Zr wr Z' w') (he : (f R.2.1 R.1).2.2 = 0) (hsb : Sb (f R.2.1)) {q : Nat} (hq : epL j (R.2.1 ++ [(f R.2.1 R.1).2.1]) = (epL j R.2.1).set q (f R.2.1 R.1).2.1) : QI w0 W Z sa j (k + 1) (rnS R f) (w'.setCell ⟨ob, q, none⟩ (.int .i64 (f R.2.1 R.1).2.1)) Z' ob := by
  have hi := h.res hl he hsb
  rw [rnS_ok h.e0 he]
  obtain ⟨r1, r2⟩ := Mv.cellR h.r m h.rz
  obtain ⟨o1, o2⟩ := Mv.cellR h.o m h.oz
  have how := h.ow
  obtain ⟨a, c⟩ := lq_set (o := q) (v := .int .i64 (f R.2.1 R.1).2.1) ⟨hl, h.mv.trans m⟩ o2 (Nat.le_of_lt h.ow) hw
  exact ⟨a, c, by rw [Below.heap_setCell _ _ _ _ (by simp; omega)]; exact r1, r2, by
    rw [heap_setCell_same _ _ _ _ _ _ o1]
    dsimp only
    rw [hq, List.map_set, List.setIfInBounds_toArray], o2, h.ow, by simp [h.n], fun a ha => by
    rcases List.mem_append.1 ha with ha | ha
    · exact h.i64 a ha
    · rw [List.mem_singleton] at ha; subst ha; exact hi, rfl⟩
/-- The way out behind a step, the epoch's field turned. -/
theorem QI.no (h : QI w0 W Z sa j k R wr Zr ob) (hw : w0.heap.size ≤ W.heap.size) {X : List ND} (hl : LQ w0 w' Z' sa X) (m : Mv Zr wr Z' w') {q : Nat} {v : Value} : QO w0 W Z sa X (w'.setCell ⟨ob, q, none⟩ v) := by
  obtain ⟨r1, r2⟩ := Mv.cellR h.r m h.rz
  obtain ⟨o1, o2⟩ := Mv.cellR h.o m h.oz
  have how := h.ow
  exact ⟨Z', lq_set (o := q) (v := v) ⟨hl, h.mv.trans m⟩ o2 (Nat.le_of_lt h.ow) hw, by rw [Below.heap_setCell _ _ _ _ (by simp; omega)]; exact r1, r2⟩
theorem QI.no0 (h : QI w0 W Z sa j k R wr Zr ob) {X : List ND} (hl : LQ w0 w' Z' sa X) (m : Mv Zr wr Z' w') : QO w0 W Z sa X w' := by
  obtain ⟨r1, r2⟩ := Mv.cellR h.r m h.rz
  exact ⟨Z', ⟨hl, h.mv.trans m⟩, r1, r2⟩
theorem QI.mvm (h : QI w0 W Z sa j k R wr Zr ob) (hl : LQ w0 w' Z' sa R.1) (m : Mv Zr wr Z' w') : QI w0 W Z sa j k R w' Z' ob := by
  obtain ⟨r1, r2⟩ := Mv.cellR h.r m h.rz
  obtain ⟨o1, o2⟩ := Mv.cellR h.o m h.oz
  exact ⟨hl, h.mv.trans m, r1, r2, o1, o2, h.ow, h.n, h.i64, h.e0⟩
theorem QI.cell (h : QI w0 W Z sa j k R wr Zr ob) {q : Nat} {v : Int} (hv : (epL j R.2.1)[q]? = some v) : wr.cell? ⟨ob, q, none⟩ = some (.int .i64 v) := by
  rw [cell_of_row wr ob q _ _ (0, 0) h.o]
  simp [hv]
theorem epL_snoc {acc : List Int} {v : Int} {n : Nat} (h : acc.length = n) (h1 : 1 ≤ n) (h8 : n ≤ 8) : epL j (acc ++ [v]) = (epL j acc).set n v := by
  obtain rfl | rfl | rfl | rfl | rfl | rfl | rfl | rfl : n = 1 ∨ n = 2 ∨ n = 3 ∨ n = 4 ∨ n = 5 ∨ n = 6 ∨ n = 7 ∨ n = 8 := by omega
  all_goals simp [epL, getD_snoc h, -List.getD_eq_getElem?_getD]
theorem epL_snoc9 {acc : List Int} {v : Int} (h : acc.length = 9) : epL j (acc ++ [v]) = (epL j acc).set 10 v := by simp [epL, getD_snoc h, -List.getD_eq_getElem?_getD]
theorem epL_snoc11 {acc : List Int} {v : Int} (h : acc.length = 11) : epL j (acc ++ [v]) = (epL j acc).set 9 v := by simp [epL, getD_snoc h, -List.getD_eq_getElem?_getD]
theorem epL_snoc0 {acc : List Int} {v : Int} {n : Nat} (h : acc.length = n) (hn : n = 0 ∨ n = 10) : epL j (acc ++ [v]) = epL j acc := by
  rcases hn with rfl | rfl
  all_goals simp [epL, getD_snoc h, -List.getD_eq_getElem?_getD]
end
end Go.Proofs.YtkgobglmkhkbbaaGreatDoor

