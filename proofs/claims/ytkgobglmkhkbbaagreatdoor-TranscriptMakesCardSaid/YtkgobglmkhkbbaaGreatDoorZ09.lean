import Derived.Test.YtkgobglmkhkbbaaGreatDoorZ08
import Derived.RegionTactic
import Derived.Test.YtkgobglmkhkbbaaGreatDoorZ07
import Derived.BigQuiet
/- schedule: Begin walked whole. -/
namespace Go.Proofs.YtkgobglmkhkbbaaGreatDoor
open Go.RowKit Go.KK Go.Shelf Go.Maps
set_option linter.unusedVariables false
set_option linter.unusedSimpArgs false

theorem len11 {l : List Int} (h : l.length = 11) : ∃ e0 e1 e2 e3 e4 e5 e6 e7 e8 e9 e10 : Int, l = [e0, e1, e2, e3, e4, e5, e6, e7, e8, e9, e10] := by
  match l, h with
  | [e0, e1, e2, e3, e4, e5, e6, e7, e8, e9, e10], _ => exact ⟨e0, e1, e2, e3, e4, e5, e6, e7, e8, e9, e10, rfl⟩
theorem idx8 (H : Nat) (w : World) : (Instr.index 96 (.agg #[.pointer (some ⟨H + 5, 3, none⟩), .string ⟨#[115, 101, 110, 100, 101, 114]⟩, .pointer (some ⟨H + 5, 4, none⟩), .string ⟨#[101, 110, 99, 114, 121, 112, 116, 105, 111, 110]⟩, .pointer (some ⟨H + 5, 5, none⟩), .string ⟨#[101, 120, 112, 111, 114, 116, 101, 114]⟩, .pointer (some ⟨H + 5, 6, none⟩), .string ⟨#[99, 111, 110, 102, 105, 114, 109]⟩, .pointer (some ⟨H + 5, 7, none⟩), .string ⟨#[109, 101, 109, 98, 101, 114, 115, 104, 105, 112]⟩, .pointer (some ⟨H + 5, 8, none⟩), .string ⟨#[114, 101, 115, 117, 109, 112, 116, 105, 111, 110]⟩, .pointer (some ⟨H + 5, 10, none⟩), .string ⟨#[105, 110, 105, 116]⟩, .pointer (some ⟨H + 8, 0, none⟩), .string ⟨#[101, 120, 116, 101, 114, 110, 97, 108]⟩]) (.int .i64 0)).run Tryz.prog w = .ok (.agg #[.pointer (some ⟨H + 5, 3, none⟩), .string ⟨#[115, 101, 110, 100, 101, 114]⟩]) w ∧ (Instr.index 96 (.agg #[.pointer (some ⟨H + 5, 3, none⟩), .string ⟨#[115, 101, 110, 100, 101, 114]⟩, .pointer (some ⟨H + 5, 4, none⟩), .string ⟨#[101, 110, 99, 114, 121, 112, 116, 105, 111, 110]⟩, .pointer (some ⟨H + 5, 5, none⟩), .string ⟨#[101, 120, 112, 111, 114, 116, 101, 114]⟩, .pointer (some ⟨H + 5, 6, none⟩), .string ⟨#[99, 111, 110, 102, 105, 114, 109]⟩, .pointer (some ⟨H + 5, 7, none⟩), .string ⟨#[109, 101, 109, 98, 101, 114, 115, 104, 105, 112]⟩, .pointer (some ⟨H + 5, 8, none⟩), .string ⟨#[114, 101, 115, 117, 109, 112, 116, 105, 111, 110]⟩, .pointer (some ⟨H + 5, 10, none⟩), .string ⟨#[105, 110, 105, 116]⟩, .pointer (some ⟨H + 8, 0, none⟩), .string ⟨#[101, 120, 116, 101, 114, 110, 97, 108]⟩]) (.int .i64 1)).run Tryz.prog w = .ok (.agg #[.pointer (some ⟨H + 5, 4, none⟩), .string ⟨#[101, 110, 99, 114, 121, 112, 116, 105, 111, 110]⟩]) w ∧ (Instr.index 96 (.agg #[.pointer (some ⟨H + 5, 3, none⟩), .string ⟨#[115, 101, 110, 100, 101, 114]⟩, .pointer (some ⟨H + 5, 4, none⟩), .string ⟨#[101, 110, 99, 114, 121, 112, 116, 105, 111, 110]⟩, .pointer (some ⟨H + 5, 5, none⟩), .string ⟨#[101, 120, 112, 111, 114, 116, 101, 114]⟩, .pointer (some ⟨H + 5, 6, none⟩), .string ⟨#[99, 111, 110, 102, 105, 114, 109]⟩, .pointer (some ⟨H + 5, 7, none⟩), .string ⟨#[109, 101, 109, 98, 101, 114, 115, 104, 105, 112]⟩, .pointer (some ⟨H + 5, 8, none⟩), .string ⟨#[114, 101, 115, 117, 109, 112, 116, 105, 111, 110]⟩, .pointer (some ⟨H + 5, 10, none⟩), .string ⟨#[105, 110, 105, 116]⟩, .pointer (some ⟨H + 8, 0, none⟩), .string ⟨#[101, 120, 116, 101, 114, 110, 97, 108]⟩]) (.int .i64 2)).run Tryz.prog w = .ok (.agg #[.pointer (some ⟨H + 5, 5, none⟩), .string ⟨#[101, 120, 112, 111, 114, 116, 101, 114]⟩]) w ∧ (Instr.index 96 (.agg #[.pointer (some ⟨H + 5, 3, none⟩), .string ⟨#[115, 101, 110, 100, 101, 114]⟩, .pointer (some ⟨H + 5, 4, none⟩), .string ⟨#[101, 110, 99, 114, 121, 112, 116, 105, 111, 110]⟩, .pointer (some ⟨H + 5, 5, none⟩), .string ⟨#[101, 120, 112, 111, 114, 116, 101, 114]⟩, .pointer (some ⟨H + 5, 6, none⟩), .string ⟨#[99, 111, 110, 102, 105, 114, 109]⟩, .pointer (some ⟨H + 5, 7, none⟩), .string ⟨#[109, 101, 109, 98, 101, 114, 115, 104, 105, 112]⟩, .pointer (some ⟨H + 5, 8, none⟩), .string ⟨#[114, 101, 115, 117, 109, 112, 116, 105, 111, 110]⟩, .pointer (some ⟨H + 5, 10, none⟩), .string ⟨#[105, 110, 105, 116]⟩, .pointer (some ⟨H + 8, 0, none⟩), .string ⟨#[101, 120, 116, 101, 114, 110, 97, 108]⟩]) (.int .i64 3)).run Tryz.prog w = .ok (.agg #[.pointer (some ⟨H + 5, 6, none⟩), .string ⟨#[99, 111, 110, 102, 105, 114, 109]⟩]) w ∧ (Instr.index 96 (.agg #[.pointer (some ⟨H + 5, 3, none⟩), .string ⟨#[115, 101, 110, 100, 101, 114]⟩, .pointer (some ⟨H + 5, 4, none⟩), .string ⟨#[101, 110, 99, 114, 121, 112, 116, 105, 111, 110]⟩, .pointer (some ⟨H + 5, 5, none⟩), .string ⟨#[101, 120, 112, 111, 114, 116, 101, 114]⟩, .pointer (some ⟨H + 5, 6, none⟩), .string ⟨#[99, 111, 110, 102, 105, 114, 109]⟩, .pointer (some ⟨H + 5, 7, none⟩), .string ⟨#[109, 101, 109, 98, 101, 114, 115, 104, 105, 112]⟩, .pointer (some ⟨H + 5, 8, none⟩), .string ⟨#[114, 101, 115, 117, 109, 112, 116, 105, 111, 110]⟩, .pointer (some ⟨H + 5, 10, none⟩), .string ⟨#[105, 110, 105, 116]⟩, .pointer (some ⟨H + 8, 0, none⟩), .string ⟨#[101, 120, 116, 101, 114, 110, 97, 108]⟩]) (.int .i64 4)).run Tryz.prog w = .ok (.agg #[.pointer (some ⟨H + 5, 7, none⟩), .string ⟨#[109, 101, 109, 98, 101, 114, 115, 104, 105, 112]⟩]) w ∧ (Instr.index 96 (.agg #[.pointer (some ⟨H + 5, 3, none⟩), .string ⟨#[115, 101, 110, 100, 101, 114]⟩, .pointer (some ⟨H + 5, 4, none⟩), .string ⟨#[101, 110, 99, 114, 121, 112, 116, 105, 111, 110]⟩, .pointer (some ⟨H + 5, 5, none⟩), .string ⟨#[101, 120, 112, 111, 114, 116, 101, 114]⟩, .pointer (some ⟨H + 5, 6, none⟩), .string ⟨#[99, 111, 110, 102, 105, 114, 109]⟩, .pointer (some ⟨H + 5, 7, none⟩), .string ⟨#[109, 101, 109, 98, 101, 114, 115, 104, 105, 112]⟩, .pointer (some ⟨H + 5, 8, none⟩), .string ⟨#[114, 101, 115, 117, 109, 112, 116, 105, 111, 110]⟩, .pointer (some ⟨H + 5, 10, none⟩), .string ⟨#[105, 110, 105, 116]⟩, .pointer (some ⟨H + 8, 0, none⟩), .string ⟨#[101, 120, 116, 101, 114, 110, 97, 108]⟩]) (.int .i64 5)).run Tryz.prog w = .ok (.agg #[.pointer (some ⟨H + 5, 8, none⟩), .string ⟨#[114, 101, 115, 117, 109, 112, 116, 105, 111, 110]⟩]) w ∧ (Instr.index 96 (.agg #[.pointer (some ⟨H + 5, 3, none⟩), .string ⟨#[115, 101, 110, 100, 101, 114]⟩, .pointer (some ⟨H + 5, 4, none⟩), .string ⟨#[101, 110, 99, 114, 121, 112, 116, 105, 111, 110]⟩, .pointer (some ⟨H + 5, 5, none⟩), .string ⟨#[101, 120, 112, 111, 114, 116, 101, 114]⟩, .pointer (some ⟨H + 5, 6, none⟩), .string ⟨#[99, 111, 110, 102, 105, 114, 109]⟩, .pointer (some ⟨H + 5, 7, none⟩), .string ⟨#[109, 101, 109, 98, 101, 114, 115, 104, 105, 112]⟩, .pointer (some ⟨H + 5, 8, none⟩), .string ⟨#[114, 101, 115, 117, 109, 112, 116, 105, 111, 110]⟩, .pointer (some ⟨H + 5, 10, none⟩), .string ⟨#[105, 110, 105, 116]⟩, .pointer (some ⟨H + 8, 0, none⟩), .string ⟨#[101, 120, 116, 101, 114, 110, 97, 108]⟩]) (.int .i64 6)).run Tryz.prog w = .ok (.agg #[.pointer (some ⟨H + 5, 10, none⟩), .string ⟨#[105, 110, 105, 116]⟩]) w ∧ (Instr.index 96 (.agg #[.pointer (some ⟨H + 5, 3, none⟩), .string ⟨#[115, 101, 110, 100, 101, 114]⟩, .pointer (some ⟨H + 5, 4, none⟩), .string ⟨#[101, 110, 99, 114, 121, 112, 116, 105, 111, 110]⟩, .pointer (some ⟨H + 5, 5, none⟩), .string ⟨#[101, 120, 112, 111, 114, 116, 101, 114]⟩, .pointer (some ⟨H + 5, 6, none⟩), .string ⟨#[99, 111, 110, 102, 105, 114, 109]⟩, .pointer (some ⟨H + 5, 7, none⟩), .string ⟨#[109, 101, 109, 98, 101, 114, 115, 104, 105, 112]⟩, .pointer (some ⟨H + 5, 8, none⟩), .string ⟨#[114, 101, 115, 117, 109, 112, 116, 105, 111, 110]⟩, .pointer (some ⟨H + 5, 10, none⟩), .string ⟨#[105, 110, 105, 116]⟩, .pointer (some ⟨H + 8, 0, none⟩), .string ⟨#[101, 120, 116, 101, 114, 110, 97, 108]⟩]) (.int .i64 7)).run Tryz.prog w = .ok (.agg #[.pointer (some ⟨H + 8, 0, none⟩), .string ⟨#[101, 120, 116, 101, 114, 110, 97, 108]⟩]) w :=
  ⟨by kernel_rfl, by kernel_rfl, by kernel_rfl, by kernel_rfl, by kernel_rfl, by kernel_rfl, by kernel_rfl, by kernel_rfl⟩
theorem lm_set {w0 W U : World} {Z Zr : Nat → Prop} {sa b o : Nat} {X : List ND} {v : Value} (h : LA w0 U Zr sa X ∧ Mv Z W Zr U) (hz : ¬ Zr b) (hb : W.heap.size ≤ b) (hw : w0.heap.size ≤ W.heap.size) : LA w0 (U.setCell ⟨b, o, none⟩ v) Zr sa X ∧ Mv Z W Zr (U.setCell ⟨b, o, none⟩ v) :=
  ⟨h.1.put1 v hz (Nat.le_trans hw hb), h.2.step (H := W.heap.size) (Turn.setCell v (.inl (.inr hb))) (fun _ h => .inl h) (Nat.le_refl _)⟩
theorem lm_drew {w0 W U : World} {Z Zr : Nat → Prop} {sa : Nat} {X : List ND} (h : LA w0 U Zr sa X ∧ Mv Z W Zr U) : LA w0 U.drew Zr sa X ∧ Mv Z W Zr U.drew :=
  ⟨h.1.ext (below_drew (Below.refl _ _)), h.2.trans (Mv.below (below_drew (Below.refl _ _)))⟩
theorem BgI.alloc {w0 W wr : World} {Z Zr : Nat → Prop} {sa : Nat} {j p x : Int} {R : List ND × List Int × Int} {ep : List Int} {mem ext : Int} (h : BgI w0 W Z sa j p x R wr Zr ep mem ext) (o : Obj) : BgI w0 W Z sa j p x R (wr.alloc o) Zr ep mem ext :=
  ⟨h.la.alloc o, h.mv.trans (Mv.alloc Zr wr o), h.bg.mv (Mv.alloc Zr wr o), h.l11, h.i64, h.ok⟩
section
variable {w0 W : World} {Z : Nat → Prop} {sa : Nat} {xs : List ND}
set_option maxHeartbeats 4000000 in
set_option maxRecDepth 100000 in
theorem beg_any (h : LA w0 W Z sa xs) (hT : Tb w0.heap.size w0) {j p x : Int} (hj : I64 j) (hp : I64 p) (hx : I64 x) :
    Calls Tryz.prog 19 #[.pointer (some ⟨sa, 0, none⟩), .int .i64 j, .int .i64 p, .int .i64 x] W (EpS w0 W Z sa (begF xs j p x)) := by
  have HT := hid hT
  have HB := hid h.bl.size
  have HI0 := hid (show ∃ Zr ep mem ext, BgI w0 W Z sa j p x (bgR xs j p x 0) _ Zr ep mem ext from ⟨Z, epL j [], 0, 0, (((((((((h.alloc _).alloc _).alloc _).alloc _).alloc _).alloc _).alloc _).alloc _).alloc _), ((((((((Mv.alloc Z W _).trans (Mv.alloc Z _ _)).trans (Mv.alloc Z _ _)).trans (Mv.alloc Z _ _)).trans (Mv.alloc Z _ _)).trans (Mv.alloc Z _ _)).trans (Mv.alloc Z _ _)).trans (Mv.alloc Z _ _)).trans (Mv.alloc Z _ _), bg_new h, rfl, fun _ a ha => absurd (show a ∈ ([] : List Int) from ha) (by simp), fun _ => ⟨rfl, rfl, rfl⟩⟩)
  clear h hT
  go_enter Tryz.func19, Tryz.ntmps19
  go_upto_region 5 with fail
  simp only [Nat.add_assoc, Nat.reduceAdd]
  refine forget (R := fun V => ∃ Zr ep mem ext, BgI w0 W Z sa j p x (bgR xs j p x 0) V Zr ep mem ext) ?_ HI0.out
  clear HI0
  rintro V ⟨Zr, ep, mem, ext, hI⟩
  have HI := hid hI
  clear hI
  go_wp2_with fail
  refine (st_0 HT.out HB.out hj hp HI.out).mono ?_
  rintro e V0 ⟨rfl, Z0, ep, mem, ext, hI⟩
  clear HI
  have HI := hid hI
  clear hI
  go_wp2_with fail
  refine (st_1 HT.out HB.out HI.out).mono ?_
  rintro e V1 ⟨rfl, Z1, ep, mem, ext, hI⟩
  clear HI
  have HI := hid hI
  clear hI
  go_wp2_with fail
  refine (st_2 HT.out HB.out hx HI.out).mono ?_
  rintro e V2 ⟨rfl, Z2, ep, mem, ext, hI⟩
  clear HI
  have HI := hid hI
  clear hI
  go_wp2_with fail
  go_loopw [47] (fun v wr => ∃ k : Nat, v = .int .i64 k ∧ k ≤ 8 ∧ ∃ Zr ep mem ext, BgI w0 W Z sa j p x (bgR xs j p x (3 + k)) wr Zr ep mem ext) (fun v _ => 8 - (intOf v).toNat)
  case atStart => exact ⟨0, rfl, by omega, Z2, ep, mem, ext, HI.out⟩
  case round =>
    clear HI
    obtain ⟨k, hv, hk, Zr, ep, mem, ext, hI⟩ := hrel
    have HI := hid hI
    clear hI
    have hkc : k = 0 ∨ k = 1 ∨ k = 2 ∨ k = 3 ∨ k = 4 ∨ k = 5 ∨ k = 6 ∨ k = 7 ∨ k = 8 := by omega
    clear hk
    rcases hkc with rfl | rfl | rfl | rfl | rfl | rfl | rfl | rfl | rfl
    · have hv' : u47 = .int .i64 0 := hv
      clear hv
      subst hv'
      have HA := hid (HI.out.alloc (.cells #[.pointer (some ⟨W.heap.size + 5, 3, none⟩), .string lbSender] 95))
      have ct : (wr.alloc (.cells #[.pointer (some ⟨W.heap.size + 5, 3, none⟩), .string lbSender] 95)).cell? ⟨wr.heap.size, 1, none⟩ = some (.string lbSender) := by rw [World.cell?_alloc_at _ _ _ _ rfl]; rfl
      have HC := hid ct
      clear ct HI
      have hix := fun w => (idx8 W.heap.size w).1
      go_wp2_with fail
      refine (st_3 HT.out HB.out HA.out HC.out).mono ?_
      rintro e V3 ⟨rfl, Z3, ep, mem, ext, hI⟩
      have HI := hid hI
      clear hI HA HC
      go_wp2_with fail
      go_roundw
      case rel => exact ⟨1, rfl, by omega, Z3, ep, mem, ext, HI.out⟩
      case measure => simp [intOf]
    · have hv' : u47 = .int .i64 1 := hv
      clear hv
      subst hv'
      have HA := hid (HI.out.alloc (.cells #[.pointer (some ⟨W.heap.size + 5, 4, none⟩), .string lbEncryption] 95))
      have ct : (wr.alloc (.cells #[.pointer (some ⟨W.heap.size + 5, 4, none⟩), .string lbEncryption] 95)).cell? ⟨wr.heap.size, 1, none⟩ = some (.string lbEncryption) := by rw [World.cell?_alloc_at _ _ _ _ rfl]; rfl
      have HC := hid ct
      clear ct HI
      have hix := fun w => (idx8 W.heap.size w).2.1
      go_wp2_with fail
      refine (st_4 HT.out HB.out HA.out HC.out).mono ?_
      rintro e V4 ⟨rfl, Z4, ep, mem, ext, hI⟩
      have HI := hid hI
      clear hI HA HC
      go_wp2_with fail
      go_roundw
      case rel => exact ⟨2, rfl, by omega, Z4, ep, mem, ext, HI.out⟩
      case measure => simp [intOf]
    · have hv' : u47 = .int .i64 2 := hv
      clear hv
      subst hv'
      have HA := hid (HI.out.alloc (.cells #[.pointer (some ⟨W.heap.size + 5, 5, none⟩), .string lbExporter] 95))
      have ct : (wr.alloc (.cells #[.pointer (some ⟨W.heap.size + 5, 5, none⟩), .string lbExporter] 95)).cell? ⟨wr.heap.size, 1, none⟩ = some (.string lbExporter) := by rw [World.cell?_alloc_at _ _ _ _ rfl]; rfl
      have HC := hid ct
      clear ct HI
      have hix := fun w => (idx8 W.heap.size w).2.2.1
      go_wp2_with fail
      refine (st_5 HT.out HB.out HA.out HC.out).mono ?_
      rintro e V5 ⟨rfl, Z5, ep, mem, ext, hI⟩
      have HI := hid hI
      clear hI HA HC
      go_wp2_with fail
      go_roundw
      case rel => exact ⟨3, rfl, by omega, Z5, ep, mem, ext, HI.out⟩
      case measure => simp [intOf]
    · have hv' : u47 = .int .i64 3 := hv
      clear hv
      subst hv'
      have HA := hid (HI.out.alloc (.cells #[.pointer (some ⟨W.heap.size + 5, 6, none⟩), .string lbConfirm] 95))
      have ct : (wr.alloc (.cells #[.pointer (some ⟨W.heap.size + 5, 6, none⟩), .string lbConfirm] 95)).cell? ⟨wr.heap.size, 1, none⟩ = some (.string lbConfirm) := by rw [World.cell?_alloc_at _ _ _ _ rfl]; rfl
      have HC := hid ct
      clear ct HI
      have hix := fun w => (idx8 W.heap.size w).2.2.2.1
      go_wp2_with fail
      refine (st_6 HT.out HB.out HA.out HC.out).mono ?_
      rintro e V6 ⟨rfl, Z6, ep, mem, ext, hI⟩
      have HI := hid hI
      clear hI HA HC
      go_wp2_with fail
      go_roundw
      case rel => exact ⟨4, rfl, by omega, Z6, ep, mem, ext, HI.out⟩
      case measure => simp [intOf]
    · have hv' : u47 = .int .i64 4 := hv
      clear hv
      subst hv'
      have HA := hid (HI.out.alloc (.cells #[.pointer (some ⟨W.heap.size + 5, 7, none⟩), .string lbMembership] 95))
      have ct : (wr.alloc (.cells #[.pointer (some ⟨W.heap.size + 5, 7, none⟩), .string lbMembership] 95)).cell? ⟨wr.heap.size, 1, none⟩ = some (.string lbMembership) := by rw [World.cell?_alloc_at _ _ _ _ rfl]; rfl
      have HC := hid ct
      clear ct HI
      have hix := fun w => (idx8 W.heap.size w).2.2.2.2.1
      go_wp2_with fail
      refine (st_7 HT.out HB.out HA.out HC.out).mono ?_
      rintro e V7 ⟨rfl, Z7, ep, mem, ext, hI⟩
      have HI := hid hI
      clear hI HA HC
      go_wp2_with fail
      go_roundw
      case rel => exact ⟨5, rfl, by omega, Z7, ep, mem, ext, HI.out⟩
      case measure => simp [intOf]
    · have hv' : u47 = .int .i64 5 := hv
      clear hv
      subst hv'
      have HA := hid (HI.out.alloc (.cells #[.pointer (some ⟨W.heap.size + 5, 8, none⟩), .string lbResumption] 95))
      have ct : (wr.alloc (.cells #[.pointer (some ⟨W.heap.size + 5, 8, none⟩), .string lbResumption] 95)).cell? ⟨wr.heap.size, 1, none⟩ = some (.string lbResumption) := by rw [World.cell?_alloc_at _ _ _ _ rfl]; rfl
      have HC := hid ct
      clear ct HI
      have hix := fun w => (idx8 W.heap.size w).2.2.2.2.2.1
      go_wp2_with fail
      refine (st_8 HT.out HB.out HA.out HC.out).mono ?_
      rintro e V8 ⟨rfl, Z8, ep, mem, ext, hI⟩
      have HI := hid hI
      clear hI HA HC
      go_wp2_with fail
      go_roundw
      case rel => exact ⟨6, rfl, by omega, Z8, ep, mem, ext, HI.out⟩
      case measure => simp [intOf]
    · have hv' : u47 = .int .i64 6 := hv
      clear hv
      subst hv'
      have HA := hid (HI.out.alloc (.cells #[.pointer (some ⟨W.heap.size + 5, 10, none⟩), .string lbInit] 95))
      have ct : (wr.alloc (.cells #[.pointer (some ⟨W.heap.size + 5, 10, none⟩), .string lbInit] 95)).cell? ⟨wr.heap.size, 1, none⟩ = some (.string lbInit) := by rw [World.cell?_alloc_at _ _ _ _ rfl]; rfl
      have HC := hid ct
      clear ct HI
      have hix := fun w => (idx8 W.heap.size w).2.2.2.2.2.2.1
      go_wp2_with fail
      refine (st_9 HT.out HB.out HA.out HC.out).mono ?_
      rintro e V9 ⟨rfl, Z9, ep, mem, ext, hI⟩
      have HI := hid hI
      clear hI HA HC
      go_wp2_with fail
      go_roundw
      case rel => exact ⟨7, rfl, by omega, Z9, ep, mem, ext, HI.out⟩
      case measure => simp [intOf]
    · have hv' : u47 = .int .i64 7 := hv
      clear hv
      subst hv'
      have HA := hid (HI.out.alloc (.cells #[.pointer (some ⟨W.heap.size + 8, 0, none⟩), .string lbExternal] 95))
      have ct : (wr.alloc (.cells #[.pointer (some ⟨W.heap.size + 8, 0, none⟩), .string lbExternal] 95)).cell? ⟨wr.heap.size, 1, none⟩ = some (.string lbExternal) := by rw [World.cell?_alloc_at _ _ _ _ rfl]; rfl
      have HC := hid ct
      clear ct HI
      have hix := fun w => (idx8 W.heap.size w).2.2.2.2.2.2.2
      go_wp2_with fail
      refine (st_10 HT.out HB.out HA.out HC.out).mono ?_
      rintro e V10 ⟨rfl, Z10, ep, mem, ext, hI⟩
      have HI := hid hI
      clear hI HA HC
      go_wp2_with fail
      go_roundw
      case rel => exact ⟨8, rfl, by omega, Z10, ep, mem, ext, HI.out⟩
      case measure => simp [intOf]
    · have hv' : u47 = .int .i64 8 := hv
      clear hv
      subst hv'
      go_wp2_with fail
      refine (st_11 HT.out HB.out HI.out).mono ?_
      rintro e V11 ⟨rfl, Z11, ep2, mem2, ext2, hI⟩
      clear HI
      have HI := hid hI
      clear hI ep mem ext
      have cf := HI.out.bg.cell (k := 6) (o := 0) (v := .int .i64 (bgR xs j p x 12).2.2) (by omega) rfl
      have r0 := HI.out.bg.cell (k := 4) (o := 0) (v := .int .i64 0) (by omega) rfl
      have f0 := HI.out.bg.frozen (k := 4) (o := 0) (by omega)
      have r1 := HI.out.bg.cell (k := 4) (o := 1) (v := .int .i64 0) (by omega) rfl
      have f1 := HI.out.bg.frozen (k := 4) (o := 1) (by omega)
      have r2 := HI.out.bg.cell (k := 4) (o := 2) (v := .int .i64 0) (by omega) rfl
      have f2 := HI.out.bg.frozen (k := 4) (o := 2) (by omega)
      have r3 := HI.out.bg.cell (k := 4) (o := 3) (v := .int .i64 0) (by omega) rfl
      have f3 := HI.out.bg.frozen (k := 4) (o := 3) (by omega)
      have r4 := HI.out.bg.cell (k := 4) (o := 4) (v := .int .i64 0) (by omega) rfl
      have f4 := HI.out.bg.frozen (k := 4) (o := 4) (by omega)
      have r5 := HI.out.bg.cell (k := 4) (o := 5) (v := .int .i64 0) (by omega) rfl
      have f5 := HI.out.bg.frozen (k := 4) (o := 5) (by omega)
      have r6 := HI.out.bg.cell (k := 4) (o := 6) (v := .int .i64 0) (by omega) rfl
      have f6 := HI.out.bg.frozen (k := 4) (o := 6) (by omega)
      have r7 := HI.out.bg.cell (k := 4) (o := 7) (v := .int .i64 0) (by omega) rfl
      have f7 := HI.out.bg.frozen (k := 4) (o := 7) (by omega)
      have r8 := HI.out.bg.cell (k := 4) (o := 8) (v := .int .i64 0) (by omega) rfl
      have f8 := HI.out.bg.frozen (k := 4) (o := 8) (by omega)
      have r9 := HI.out.bg.cell (k := 4) (o := 9) (v := .int .i64 0) (by omega) rfl
      have f9 := HI.out.bg.frozen (k := 4) (o := 9) (by omega)
      have r10 := HI.out.bg.cell (k := 4) (o := 10) (v := .int .i64 0) (by omega) rfl
      have f10 := HI.out.bg.frozen (k := 4) (o := 10) (by omega)
      by_cases h0 : (bgR xs j p x 12).2.2 = 0
      · obtain ⟨e0, e1, e2, e3, e4, e5, e6, e7, e8, e9, e10, rfl⟩ := len11 HI.out.l11
        rw [h0] at cf
        have o0 := HI.out.bg.cell (k := 5) (o := 0) (v := .int .i64 e0) (by omega) rfl
        have o1 := HI.out.bg.cell (k := 5) (o := 1) (v := .int .i64 e1) (by omega) rfl
        have o2 := HI.out.bg.cell (k := 5) (o := 2) (v := .int .i64 e2) (by omega) rfl
        have o3 := HI.out.bg.cell (k := 5) (o := 3) (v := .int .i64 e3) (by omega) rfl
        have o4 := HI.out.bg.cell (k := 5) (o := 4) (v := .int .i64 e4) (by omega) rfl
        have o5 := HI.out.bg.cell (k := 5) (o := 5) (v := .int .i64 e5) (by omega) rfl
        have o6 := HI.out.bg.cell (k := 5) (o := 6) (v := .int .i64 e6) (by omega) rfl
        have o7 := HI.out.bg.cell (k := 5) (o := 7) (v := .int .i64 e7) (by omega) rfl
        have o8 := HI.out.bg.cell (k := 5) (o := 8) (v := .int .i64 e8) (by omega) rfl
        have o9 := HI.out.bg.cell (k := 5) (o := 9) (v := .int .i64 e9) (by omega) rfl
        have o10 := HI.out.bg.cell (k := 5) (o := 10) (v := .int .i64 e10) (by omega) rfl
        have HBE := hid (show begF xs j p x = ((bgR xs j p x 12).1, [e0, e1, e2, e3, e4, e5, e6, e7, e8, e9, e10], 0) by
          have hk := (HI.out.ok h0).1
          unfold begF
          rw [if_pos (show (bgF xs j p x).2.2 = 0 from h0)]
          rw [hk]; rfl)
        have HX := hid (And.intro HI.out.la HI.out.mv)
        have HNZ := hid (HI.out.bg.nz 4 (by omega))
        clear HI h0
        go_wp2_with fail
        refine bodyPost_ret (v := .tuple #[.agg #[.int .i64 e0, .int .i64 e1, .int .i64 e2, .int .i64 e3, .int .i64 e4, .int .i64 e5, .int .i64 e6, .int .i64 e7, .int .i64 e8, .int .i64 e9, .int .i64 e10], .int .i64 0]) ?_ rfl (show EpS _ _ _ _ _ _ _ from ⟨Z11, by rw [HBE.out]; rfl, ?_⟩)
        · rw [results_cell_tmp rfl]
          go_simp
        · rw [HBE.out]
          iterate 11 refine lm_set ?_ HNZ.out (Nat.le_add_right _ _) HB.out
          exact HX.out
      · have hne : ((bgR xs j p x 12).2.2 != 0) = true := bne_iff_ne.2 h0
        have HBE := hid (show begF xs j p x = ((bgR xs j p x 12).1, epZ, (bgR xs j p x 12).2.2) by
          unfold begF
          rw [if_neg (show ¬ (bgF xs j p x).2.2 = 0 from h0)]; rfl)
        have HX := hid (And.intro HI.out.la HI.out.mv)
        have HNZ := hid (HI.out.bg.nz 4 (by omega))
        clear HI h0
        generalize (bgR xs j p x 12).2.2 = er at *
        go_upto_region 15 with fail
        have d0 : V11.drew.cell? ⟨W.heap.size + 4, 0, none⟩ = some (.int .i64 0) := r0
        have g0 : V11.drew.frozen? ⟨W.heap.size + 4, 0, none⟩ = false := f0
        have d1 : V11.drew.cell? ⟨W.heap.size + 4, 1, none⟩ = some (.int .i64 0) := r1
        have g1 : V11.drew.frozen? ⟨W.heap.size + 4, 1, none⟩ = false := f1
        have d2 : V11.drew.cell? ⟨W.heap.size + 4, 2, none⟩ = some (.int .i64 0) := r2
        have g2 : V11.drew.frozen? ⟨W.heap.size + 4, 2, none⟩ = false := f2
        have d3 : V11.drew.cell? ⟨W.heap.size + 4, 3, none⟩ = some (.int .i64 0) := r3
        have g3 : V11.drew.frozen? ⟨W.heap.size + 4, 3, none⟩ = false := f3
        have d4 : V11.drew.cell? ⟨W.heap.size + 4, 4, none⟩ = some (.int .i64 0) := r4
        have g4 : V11.drew.frozen? ⟨W.heap.size + 4, 4, none⟩ = false := f4
        have d5 : V11.drew.cell? ⟨W.heap.size + 4, 5, none⟩ = some (.int .i64 0) := r5
        have g5 : V11.drew.frozen? ⟨W.heap.size + 4, 5, none⟩ = false := f5
        have d6 : V11.drew.cell? ⟨W.heap.size + 4, 6, none⟩ = some (.int .i64 0) := r6
        have g6 : V11.drew.frozen? ⟨W.heap.size + 4, 6, none⟩ = false := f6
        have d7 : V11.drew.cell? ⟨W.heap.size + 4, 7, none⟩ = some (.int .i64 0) := r7
        have g7 : V11.drew.frozen? ⟨W.heap.size + 4, 7, none⟩ = false := f7
        have d8 : V11.drew.cell? ⟨W.heap.size + 4, 8, none⟩ = some (.int .i64 0) := r8
        have g8 : V11.drew.frozen? ⟨W.heap.size + 4, 8, none⟩ = false := f8
        have d9 : V11.drew.cell? ⟨W.heap.size + 4, 9, none⟩ = some (.int .i64 0) := r9
        have g9 : V11.drew.frozen? ⟨W.heap.size + 4, 9, none⟩ = false := f9
        have d10 : V11.drew.cell? ⟨W.heap.size + 4, 10, none⟩ = some (.int .i64 0) := r10
        have g10 : V11.drew.frozen? ⟨W.heap.size + 4, 10, none⟩ = false := f10
        go_region
        all_goals
          go_wp2_with fail
          refine bodyPost_ret (v := .tuple #[.agg #[.int .i64 0, .int .i64 0, .int .i64 0, .int .i64 0, .int .i64 0, .int .i64 0, .int .i64 0, .int .i64 0, .int .i64 0, .int .i64 0, .int .i64 0], .int .i64 er]) ?_ rfl (show EpS _ _ _ _ _ _ _ from ⟨Z11, by rw [HBE.out]; rfl, ?_⟩)
          · rw [results_cell_tmp rfl]
            go_simp
          · rw [HBE.out]
            refine lm_drew ?_
            iterate 11 refine lm_set ?_ HNZ.out (Nat.le_add_right _ _) HB.out
            exact HX.out
end
end Go.Proofs.YtkgobglmkhkbbaaGreatDoor

/- schedule: Inner, Next. -/
namespace Go.Proofs.YtkgobglmkhkbbaaGreatDoor
open Go.RowKit Go.KK Go.Shelf Go.Maps
set_option linter.unusedVariables false
set_option linter.unusedSimpArgs false

theorem beg_len (xs : List ND) (j p x : Int) : (begF xs j p x).2.1.length = 11 := by
  unfold begF
  split <;> rfl
theorem nx_elen (xs : List ND) (i c x : Int) (l : List Int) : (nxF xs i c x l).2.1.length = 11 := by
  unfold nxF
  split
  · split
    · exact beg_len _ _ _ _
    · rfl
  · rfl
set_option maxHeartbeats 2000000 in
set_option maxRecDepth 100000 in
theorem inner_any (ep : List Int) (W : World) (h11 : ep.length = 11) :
    Calls Tryz.prog 21 #[epV ep] W fun e w' => ∃ b, e = .returned (.slice (some ⟨b, 0, none⟩) 10 10) ∧ W.heap.size ≤ b ∧ b < w'.heap.size ∧ SlA w' 1 (some ⟨b, 0, none⟩) 10 10 ((inL ep).map (.int .i64)) ∧ Below W.heap.size W w' := by
  obtain ⟨e0, e1, e2, e3, e4, e5, e6, e7, e8, e9, e10, rfl⟩ := len11 h11
  clear h11
  show Calls Tryz.prog 21 #[.agg #[.int .i64 e0, .int .i64 e1, .int .i64 e2, .int .i64 e3, .int .i64 e4, .int .i64 e5, .int .i64 e6, .int .i64 e7, .int .i64 e8, .int .i64 e9, .int .i64 e10]] W _
  have HS := hid (show SlA ((W.alloc (.cells #[.int .i64 e0, .int .i64 e1, .int .i64 e2, .int .i64 e3, .int .i64 e4, .int .i64 e5, .int .i64 e6, .int .i64 e7, .int .i64 e8, .int .i64 e9, .int .i64 e10] 30)).alloc (.cells #[.int .i64 e0, .int .i64 e1, .int .i64 e2, .int .i64 e3, .int .i64 e4, .int .i64 e5, .int .i64 e6, .int .i64 e7, .int .i64 e8, .int .i64 e10] 3)) 1 (some ⟨W.heap.size + 1, 0, none⟩) 10 10 ((inL [e0, e1, e2, e3, e4, e5, e6, e7, e8, e9, e10]).map (.int .i64)) from by
    have := sla_row (w := W.alloc (.cells #[.int .i64 e0, .int .i64 e1, .int .i64 e2, .int .i64 e3, .int .i64 e4, .int .i64 e5, .int .i64 e6, .int .i64 e7, .int .i64 e8, .int .i64 e9, .int .i64 e10] 30)) (T := 3) #[.int .i64 e0, .int .i64 e1, .int .i64 e2, .int .i64 e3, .int .i64 e4, .int .i64 e5, .int .i64 e6, .int .i64 e7, .int .i64 e8, .int .i64 e10] (by unfold maxLen; simp)
    rw [show (W.alloc (.cells #[.int .i64 e0, .int .i64 e1, .int .i64 e2, .int .i64 e3, .int .i64 e4, .int .i64 e5, .int .i64 e6, .int .i64 e7, .int .i64 e8, .int .i64 e9, .int .i64 e10] 30)).heap.size = W.heap.size + 1 by simp] at this
    exact this)
  have HB := hid (show Below W.heap.size W ((W.alloc (.cells #[.int .i64 e0, .int .i64 e1, .int .i64 e2, .int .i64 e3, .int .i64 e4, .int .i64 e5, .int .i64 e6, .int .i64 e7, .int .i64 e8, .int .i64 e9, .int .i64 e10] 30)).alloc (.cells #[.int .i64 e0, .int .i64 e1, .int .i64 e2, .int .i64 e3, .int .i64 e4, .int .i64 e5, .int .i64 e6, .int .i64 e7, .int .i64 e8, .int .i64 e10] 3)) from ((Below.refl _ _).alloc (Nat.le_refl _) _).alloc (by simp) _)
  go_enter Tryz.func21, Tryz.ntmps21
  go_wp2_with fail
  go_ret
  exact ⟨W.heap.size + 1, by simp, by omega, by simp, HS.out, HB.out⟩
section
variable {w0 W : World} {Z : Nat → Prop} {sa : Nat} {xs : List ND}
theorem Mv.cellE {Z Z1 : Nat → Prop} {V W1 : World} {b : Nat} {cs : Array Value} {T : TypeId} (hb : V.heap[b]? = some (.cells cs T (0, 0))) (m : Mv Z V Z1 W1) (hz : ¬ Z b) : W1.heap[b]? = some (.cells cs T (0, 0)) :=
  (m.t.block b (Array.getElem?_eq_some_iff.1 hb).1 hz).trans hb
set_option maxHeartbeats 4000000 in
set_option maxRecDepth 100000 in
theorem nx_any (h : LA w0 W Z sa xs) (hT : Tb w0.heap.size w0) {i c x : Int} (hi : I64 i) (hc : I64 c) (hx : I64 x) {A : Option Addr} {n cc : Nat} {l : List Int} (hl : SlM W Z A n cc l) (hn : n ≤ 100000) (hli : ∀ i ∈ l, I64 i) :
    Calls Tryz.prog 17 #[.pointer (some ⟨sa, 0, none⟩), .int .i64 i, .int .i64 c, .int .i64 x, .slice A n cc] W (EpS w0 W Z sa (nxF xs i c x l)) := by
  have HT := hid hT
  have HW := hid h.bl.size
  have H0 := hid (h.alloc (.cells #[.int .i64 0, .int .i64 0, .int .i64 0, .int .i64 0, .int .i64 0, .int .i64 0, .int .i64 0, .int .i64 0, .int .i64 0, .int .i64 0, .int .i64 0] 30))
  have HM0 := hid (Mv.alloc Z W (.cells #[.int .i64 0, .int .i64 0, .int .i64 0, .int .i64 0, .int .i64 0, .int .i64 0, .int .i64 0, .int .i64 0, .int .i64 0, .int .i64 0, .int .i64 0] 30))
  have HE0 := hid (heap_alloc_new W (.cells #[.int .i64 0, .int .i64 0, .int .i64 0, .int .i64 0, .int .i64 0, .int .i64 0, .int .i64 0, .int .i64 0, .int .i64 0, .int .i64 0, .int .i64 0] 30))
  have HL0 := hid (hl.mv HM0.out)
  have HJ := hid (l_jn H0.out hT hi hc hx)
  have HZ0 := hid (show ¬ Z W.heap.size from fun hz => by have := h.ar.zlt _ hz; omega)
  clear h hT hl
  go_enter Tryz.func17, Tryz.ntmps17
  go_wp2_with fail
  refine HJ.out.mono ?_
  rintro e w1 ⟨Z1, rfl, l1, m1⟩
  have L1 := hid l1; have M1 := hid m1
  have HE1 := hid (Mv.cellE HE0.out m1 HZ0.out)
  have HZ1 := hid (show ¬ Z1 W.heap.size from fun hz => (m1.n _ hz).elim HZ0.out fun h => by simp at h; omega)
  have HL1 := hid (HL0.out.mv m1)
  clear l1 m1 HJ HE0 H0 HL0
  by_cases hj : (jnF xs i c x).2.2 = 0
  rotate_left
  · have hne : ((jnF xs i c x).2.2 != 0) = true := bne_iff_ne.2 hj
    have HQ := hid (show nxF xs i c x l = ((jnF xs i c x).1, epZ, (jnF xs i c x).2.2) by unfold nxF; rw [if_neg hj])
    have HZ := HZ1
    have r0 : w1.cell? ⟨W.heap.size, 0, none⟩ = some (.int .i64 0) := by rw [cell_of_row w1 W.heap.size 0 _ _ (0, 0) HE1.out]; rfl
    have f0 : w1.frozen? ⟨W.heap.size, 0, none⟩ = false := frozen_of_row w1 W.heap.size 0 _ _ HE1.out
    have r1 : w1.cell? ⟨W.heap.size, 1, none⟩ = some (.int .i64 0) := by rw [cell_of_row w1 W.heap.size 1 _ _ (0, 0) HE1.out]; rfl
    have f1 : w1.frozen? ⟨W.heap.size, 1, none⟩ = false := frozen_of_row w1 W.heap.size 1 _ _ HE1.out
    have r2 : w1.cell? ⟨W.heap.size, 2, none⟩ = some (.int .i64 0) := by rw [cell_of_row w1 W.heap.size 2 _ _ (0, 0) HE1.out]; rfl
    have f2 : w1.frozen? ⟨W.heap.size, 2, none⟩ = false := frozen_of_row w1 W.heap.size 2 _ _ HE1.out
    have r3 : w1.cell? ⟨W.heap.size, 3, none⟩ = some (.int .i64 0) := by rw [cell_of_row w1 W.heap.size 3 _ _ (0, 0) HE1.out]; rfl
    have f3 : w1.frozen? ⟨W.heap.size, 3, none⟩ = false := frozen_of_row w1 W.heap.size 3 _ _ HE1.out
    have r4 : w1.cell? ⟨W.heap.size, 4, none⟩ = some (.int .i64 0) := by rw [cell_of_row w1 W.heap.size 4 _ _ (0, 0) HE1.out]; rfl
    have f4 : w1.frozen? ⟨W.heap.size, 4, none⟩ = false := frozen_of_row w1 W.heap.size 4 _ _ HE1.out
    have r5 : w1.cell? ⟨W.heap.size, 5, none⟩ = some (.int .i64 0) := by rw [cell_of_row w1 W.heap.size 5 _ _ (0, 0) HE1.out]; rfl
    have f5 : w1.frozen? ⟨W.heap.size, 5, none⟩ = false := frozen_of_row w1 W.heap.size 5 _ _ HE1.out
    have r6 : w1.cell? ⟨W.heap.size, 6, none⟩ = some (.int .i64 0) := by rw [cell_of_row w1 W.heap.size 6 _ _ (0, 0) HE1.out]; rfl
    have f6 : w1.frozen? ⟨W.heap.size, 6, none⟩ = false := frozen_of_row w1 W.heap.size 6 _ _ HE1.out
    have r7 : w1.cell? ⟨W.heap.size, 7, none⟩ = some (.int .i64 0) := by rw [cell_of_row w1 W.heap.size 7 _ _ (0, 0) HE1.out]; rfl
    have f7 : w1.frozen? ⟨W.heap.size, 7, none⟩ = false := frozen_of_row w1 W.heap.size 7 _ _ HE1.out
    have r8 : w1.cell? ⟨W.heap.size, 8, none⟩ = some (.int .i64 0) := by rw [cell_of_row w1 W.heap.size 8 _ _ (0, 0) HE1.out]; rfl
    have f8 : w1.frozen? ⟨W.heap.size, 8, none⟩ = false := frozen_of_row w1 W.heap.size 8 _ _ HE1.out
    have r9 : w1.cell? ⟨W.heap.size, 9, none⟩ = some (.int .i64 0) := by rw [cell_of_row w1 W.heap.size 9 _ _ (0, 0) HE1.out]; rfl
    have f9 : w1.frozen? ⟨W.heap.size, 9, none⟩ = false := frozen_of_row w1 W.heap.size 9 _ _ HE1.out
    have r10 : w1.cell? ⟨W.heap.size, 10, none⟩ = some (.int .i64 0) := by rw [cell_of_row w1 W.heap.size 10 _ _ (0, 0) HE1.out]; rfl
    have f10 : w1.frozen? ⟨W.heap.size, 10, none⟩ = false := frozen_of_row w1 W.heap.size 10 _ _ HE1.out
    clear hj
    generalize jnF xs i c x = r at *
    obtain ⟨Y, jj, er⟩ := r
    go_wp2_with fail
    refine bodyPost_ret (v := .tuple #[.agg #[.int .i64 0, .int .i64 0, .int .i64 0, .int .i64 0, .int .i64 0, .int .i64 0, .int .i64 0, .int .i64 0, .int .i64 0, .int .i64 0, .int .i64 0], .int .i64 er]) ?_ rfl (show EpS _ _ _ _ _ _ _ from ⟨Z1, by rw [HQ.out]; rfl, ?_⟩)
    · rw [results_cell_tmp rfl]
      go_simp
    · rw [HQ.out]
      iterate 11 refine lm_set ?_ HZ.out (Nat.le_refl _) HW.out
      exact ⟨L1.out, HM0.out.trans M1.out⟩
  · have hji : I64 (jnF xs i c x).2.1 := by
      have a := has_iff.1 ((sb_jn i c x).has xs hj)
      have b := L1.out.ar.ok.len
      try dsimp only at a b
      exact ⟨by omega, by omega⟩
    have HP := hid (l_psk L1.out HT.out HL1.out hn hli)
    by_cases hp : (pskF (jnF xs i c x).1 l).2.2 = 0
    rotate_left
    · have hne : ((pskF (jnF xs i c x).1 l).2.2 != 0) = true := bne_iff_ne.2 hp
      have HQ := hid (show nxF xs i c x l = ((pskF (jnF xs i c x).1 l).1, epZ, (pskF (jnF xs i c x).1 l).2.2) by unfold nxF; rw [if_pos hj, if_neg hp])
      rw [hj]
      clear hj hp
      generalize pskF (jnF xs i c x).1 l = r at *
      obtain ⟨Y, pp, er⟩ := r
      go_wp2_with fail
      refine HP.out.mono ?_
      rintro e w2 ⟨Z2, rfl, l2, m2⟩
      have HE2 := hid (Mv.cellE HE1.out m2 HZ1.out)
      have HZ := hid (show ¬ Z2 W.heap.size from fun hz => (m2.n _ hz).elim HZ1.out fun h => by have := (Array.getElem?_eq_some_iff.1 HE1.out).1; omega)
      have HX := hid (And.intro l2 ((HM0.out.trans M1.out).trans m2))
      clear l2 m2 HP
      have r0 : w2.cell? ⟨W.heap.size, 0, none⟩ = some (.int .i64 0) := by rw [cell_of_row w2 W.heap.size 0 _ _ (0, 0) HE2.out]; rfl
      have f0 : w2.frozen? ⟨W.heap.size, 0, none⟩ = false := frozen_of_row w2 W.heap.size 0 _ _ HE2.out
      have r1 : w2.cell? ⟨W.heap.size, 1, none⟩ = some (.int .i64 0) := by rw [cell_of_row w2 W.heap.size 1 _ _ (0, 0) HE2.out]; rfl
      have f1 : w2.frozen? ⟨W.heap.size, 1, none⟩ = false := frozen_of_row w2 W.heap.size 1 _ _ HE2.out
      have r2 : w2.cell? ⟨W.heap.size, 2, none⟩ = some (.int .i64 0) := by rw [cell_of_row w2 W.heap.size 2 _ _ (0, 0) HE2.out]; rfl
      have f2 : w2.frozen? ⟨W.heap.size, 2, none⟩ = false := frozen_of_row w2 W.heap.size 2 _ _ HE2.out
      have r3 : w2.cell? ⟨W.heap.size, 3, none⟩ = some (.int .i64 0) := by rw [cell_of_row w2 W.heap.size 3 _ _ (0, 0) HE2.out]; rfl
      have f3 : w2.frozen? ⟨W.heap.size, 3, none⟩ = false := frozen_of_row w2 W.heap.size 3 _ _ HE2.out
      have r4 : w2.cell? ⟨W.heap.size, 4, none⟩ = some (.int .i64 0) := by rw [cell_of_row w2 W.heap.size 4 _ _ (0, 0) HE2.out]; rfl
      have f4 : w2.frozen? ⟨W.heap.size, 4, none⟩ = false := frozen_of_row w2 W.heap.size 4 _ _ HE2.out
      have r5 : w2.cell? ⟨W.heap.size, 5, none⟩ = some (.int .i64 0) := by rw [cell_of_row w2 W.heap.size 5 _ _ (0, 0) HE2.out]; rfl
      have f5 : w2.frozen? ⟨W.heap.size, 5, none⟩ = false := frozen_of_row w2 W.heap.size 5 _ _ HE2.out
      have r6 : w2.cell? ⟨W.heap.size, 6, none⟩ = some (.int .i64 0) := by rw [cell_of_row w2 W.heap.size 6 _ _ (0, 0) HE2.out]; rfl
      have f6 : w2.frozen? ⟨W.heap.size, 6, none⟩ = false := frozen_of_row w2 W.heap.size 6 _ _ HE2.out
      have r7 : w2.cell? ⟨W.heap.size, 7, none⟩ = some (.int .i64 0) := by rw [cell_of_row w2 W.heap.size 7 _ _ (0, 0) HE2.out]; rfl
      have f7 : w2.frozen? ⟨W.heap.size, 7, none⟩ = false := frozen_of_row w2 W.heap.size 7 _ _ HE2.out
      have r8 : w2.cell? ⟨W.heap.size, 8, none⟩ = some (.int .i64 0) := by rw [cell_of_row w2 W.heap.size 8 _ _ (0, 0) HE2.out]; rfl
      have f8 : w2.frozen? ⟨W.heap.size, 8, none⟩ = false := frozen_of_row w2 W.heap.size 8 _ _ HE2.out
      have r9 : w2.cell? ⟨W.heap.size, 9, none⟩ = some (.int .i64 0) := by rw [cell_of_row w2 W.heap.size 9 _ _ (0, 0) HE2.out]; rfl
      have f9 : w2.frozen? ⟨W.heap.size, 9, none⟩ = false := frozen_of_row w2 W.heap.size 9 _ _ HE2.out
      have r10 : w2.cell? ⟨W.heap.size, 10, none⟩ = some (.int .i64 0) := by rw [cell_of_row w2 W.heap.size 10 _ _ (0, 0) HE2.out]; rfl
      have f10 : w2.frozen? ⟨W.heap.size, 10, none⟩ = false := frozen_of_row w2 W.heap.size 10 _ _ HE2.out
      go_wp2_with fail
      refine bodyPost_ret (v := .tuple #[.agg #[.int .i64 0, .int .i64 0, .int .i64 0, .int .i64 0, .int .i64 0, .int .i64 0, .int .i64 0, .int .i64 0, .int .i64 0, .int .i64 0, .int .i64 0], .int .i64 er]) ?_ rfl (show EpS _ _ _ _ _ _ _ from ⟨Z2, by rw [HQ.out]; rfl, ?_⟩)
      · rw [results_cell_tmp rfl]
        go_simp
      · rw [HQ.out]
        iterate 11 refine lm_set ?_ HZ.out (Nat.le_refl _) HW.out
        exact HX.out
    · have HQ := hid (show nxF xs i c x l = begF (pskF (jnF xs i c x).1 l).1 (jnF xs i c x).2.1 (pskF (jnF xs i c x).1 l).2.1 x by unfold nxF; rw [if_pos hj, if_pos hp])
      have hpi : (∀ U Zq, LA w0 U Zq sa (pskF (jnF xs i c x).1 l).1 → I64 (pskF (jnF xs i c x).1 l).2.1) := fun U Zq hla => by
        have a := has_iff.1 ((sb_psk l).has (jnF xs i c x).1 hp)
        have b := hla.ar.ok.len
        try dsimp only at a b
        exact ⟨by omega, by omega⟩
      have HPI := hid hpi
      rw [hj]
      unfold LrS at HP
      rw [hp] at HP
      clear hj hp hpi
      generalize pskF (jnF xs i c x).1 l = r at *
      obtain ⟨Y, pp, er⟩ := r
      generalize (jnF xs i c x).2.1 = jj at *
      obtain ⟨ep, hep⟩ : ∃ ep, ep = begF Y jj pp x := ⟨_, rfl⟩
      have h11 : ep.2.1.length = 11 := by rw [hep]; exact beg_len _ _ _ _
      have HEP := hid hep
      have HQ2 := hid (show nxF xs i c x l = ep by rw [HQ.out, hep])
      clear hep HQ
      obtain ⟨Ye, el, ee⟩ := ep
      obtain ⟨e0, e1, e2, e3, e4, e5, e6, e7, e8, e9, e10, rfl⟩ := len11 h11
      clear h11
      go_wp2_with fail
      refine HP.out.mono ?_
      rintro e w2 ⟨Z2, rfl, l2, m2⟩
      have HE2 := hid (Mv.cellE HE1.out m2 HZ1.out)
      have HZ2 := hid (show ¬ Z2 W.heap.size from fun hz => (m2.n _ hz).elim HZ1.out fun h => by have := (Array.getElem?_eq_some_iff.1 HE1.out).1; omega)
      have HBG := hid (beg_any l2 HT.out hji (HPI.out _ _ l2) hx)
      rw [← HEP.out] at HBG
      have M2 := hid ((HM0.out.trans M1.out).trans m2)
      clear l2 m2 HP
      go_wp2_with fail
      refine HBG.out.mono ?_
      rintro e w3 ⟨Z3, rfl, l3, m3⟩
      have HE3 := hid (Mv.cellE HE2.out m3 HZ2.out)
      have HZ := hid (show ¬ Z3 W.heap.size from fun hz => (m3.n _ hz).elim HZ2.out fun h => by have := (Array.getElem?_eq_some_iff.1 HE2.out).1; omega)
      have HX := hid (And.intro l3 (M2.out.trans m3))
      clear l3 m3 HBG
      have r0 : w3.cell? ⟨W.heap.size, 0, none⟩ = some (.int .i64 0) := by rw [cell_of_row w3 W.heap.size 0 _ _ (0, 0) HE3.out]; rfl
      have f0 : w3.frozen? ⟨W.heap.size, 0, none⟩ = false := frozen_of_row w3 W.heap.size 0 _ _ HE3.out
      have r1 : w3.cell? ⟨W.heap.size, 1, none⟩ = some (.int .i64 0) := by rw [cell_of_row w3 W.heap.size 1 _ _ (0, 0) HE3.out]; rfl
      have f1 : w3.frozen? ⟨W.heap.size, 1, none⟩ = false := frozen_of_row w3 W.heap.size 1 _ _ HE3.out
      have r2 : w3.cell? ⟨W.heap.size, 2, none⟩ = some (.int .i64 0) := by rw [cell_of_row w3 W.heap.size 2 _ _ (0, 0) HE3.out]; rfl
      have f2 : w3.frozen? ⟨W.heap.size, 2, none⟩ = false := frozen_of_row w3 W.heap.size 2 _ _ HE3.out
      have r3 : w3.cell? ⟨W.heap.size, 3, none⟩ = some (.int .i64 0) := by rw [cell_of_row w3 W.heap.size 3 _ _ (0, 0) HE3.out]; rfl
      have f3 : w3.frozen? ⟨W.heap.size, 3, none⟩ = false := frozen_of_row w3 W.heap.size 3 _ _ HE3.out
      have r4 : w3.cell? ⟨W.heap.size, 4, none⟩ = some (.int .i64 0) := by rw [cell_of_row w3 W.heap.size 4 _ _ (0, 0) HE3.out]; rfl
      have f4 : w3.frozen? ⟨W.heap.size, 4, none⟩ = false := frozen_of_row w3 W.heap.size 4 _ _ HE3.out
      have r5 : w3.cell? ⟨W.heap.size, 5, none⟩ = some (.int .i64 0) := by rw [cell_of_row w3 W.heap.size 5 _ _ (0, 0) HE3.out]; rfl
      have f5 : w3.frozen? ⟨W.heap.size, 5, none⟩ = false := frozen_of_row w3 W.heap.size 5 _ _ HE3.out
      have r6 : w3.cell? ⟨W.heap.size, 6, none⟩ = some (.int .i64 0) := by rw [cell_of_row w3 W.heap.size 6 _ _ (0, 0) HE3.out]; rfl
      have f6 : w3.frozen? ⟨W.heap.size, 6, none⟩ = false := frozen_of_row w3 W.heap.size 6 _ _ HE3.out
      have r7 : w3.cell? ⟨W.heap.size, 7, none⟩ = some (.int .i64 0) := by rw [cell_of_row w3 W.heap.size 7 _ _ (0, 0) HE3.out]; rfl
      have f7 : w3.frozen? ⟨W.heap.size, 7, none⟩ = false := frozen_of_row w3 W.heap.size 7 _ _ HE3.out
      have r8 : w3.cell? ⟨W.heap.size, 8, none⟩ = some (.int .i64 0) := by rw [cell_of_row w3 W.heap.size 8 _ _ (0, 0) HE3.out]; rfl
      have f8 : w3.frozen? ⟨W.heap.size, 8, none⟩ = false := frozen_of_row w3 W.heap.size 8 _ _ HE3.out
      have r9 : w3.cell? ⟨W.heap.size, 9, none⟩ = some (.int .i64 0) := by rw [cell_of_row w3 W.heap.size 9 _ _ (0, 0) HE3.out]; rfl
      have f9 : w3.frozen? ⟨W.heap.size, 9, none⟩ = false := frozen_of_row w3 W.heap.size 9 _ _ HE3.out
      have r10 : w3.cell? ⟨W.heap.size, 10, none⟩ = some (.int .i64 0) := by rw [cell_of_row w3 W.heap.size 10 _ _ (0, 0) HE3.out]; rfl
      have f10 : w3.frozen? ⟨W.heap.size, 10, none⟩ = false := frozen_of_row w3 W.heap.size 10 _ _ HE3.out
      unfold epV
      go_wp2_with fail
      refine bodyPost_ret (v := .tuple #[.agg #[.int .i64 e0, .int .i64 e1, .int .i64 e2, .int .i64 e3, .int .i64 e4, .int .i64 e5, .int .i64 e6, .int .i64 e7, .int .i64 e8, .int .i64 e9, .int .i64 e10], .int .i64 ee]) ?_ rfl (show EpS _ _ _ _ _ _ _ from ⟨Z3, by rw [HQ2.out]; rfl, ?_⟩)
      · rw [results_cell_tmp rfl]
        go_simp
      · rw [HQ2.out]
        iterate 11 refine lm_set ?_ HZ.out (Nat.le_refl _) HW.out
        exact HX.out
end
end Go.Proofs.YtkgobglmkhkbbaaGreatDoor

/- transcript over the law's arena: Context. -/
namespace Go.Proofs.YtkgobglmkhkbbaaGreatDoor
open Go.RowKit Go.KK Go.Shelf Go.Maps
set_option linter.unusedVariables false
set_option linter.unusedSimpArgs false

theorem idx2 (D : ByteArray) (w : World) : (Instr.index 116 (.agg #[.string ⟨#[103, 114, 111, 117, 112]⟩, .string D]) (.int .i64 0)).run Tryz.prog w = .ok (.string ⟨#[103, 114, 111, 117, 112]⟩) w ∧ (Instr.index 116 (.agg #[.string ⟨#[103, 114, 111, 117, 112]⟩, .string D]) (.int .i64 1)).run Tryz.prog w = .ok (.string D) w :=
  ⟨by kernel_rfl, by kernel_rfl⟩
theorem i64_at {w0 U : World} {Zq : Nat → Prop} {sa : Nat} {X Y : List ND} (la : LA w0 U Zq sa Y) (hp : ∃ m, Y = X ++ m) {i : Int} (h : hasB X i = true) : I64 i := by
  obtain ⟨m, rfl⟩ := hp
  have a := has_iff.1 h
  have b := la.ar.ok.len
  rw [List.length_append] at b
  exact ⟨by omega, by omega⟩
section
variable {w0 W : World} {Z : Nat → Prop} {sa : Nat} {xs : List ND}
set_option maxHeartbeats 4000000 in
set_option maxRecDepth 100000 in
theorem l_ct (h : LA w0 W Z sa xs) (hT : Tb w0.heap.size w0) {id ep tr cf ex : Int} (hid' : I64 id) (hep : I64 ep) (htr : I64 tr) (hcf : I64 cf) (hex : I64 ex) :
    Calls Tryz.prog 34 #[.pointer (some ⟨sa, 0, none⟩), .int .i64 id, .int .i64 ep, .int .i64 tr, .int .i64 cf, .int .i64 ex] W (LrS w0 W Z sa (ctF xs id ep tr cf ex)) := by
  have HT := hid hT
  have HW := hid h.bl.size
  have H0 := hid h
  by_cases hp : 0 ≤ ep
  rotate_left
  · have HF := hid (show ctF xs id ep tr cf ex = (xs, 0, 1) by unfold ctF; rw [if_neg hp])
    rw [HF.out]
    have hn : ep < 0 := by omega
    clear h hT hp
    go_enter Tryz.func34, Tryz.ntmps34
    go_wp2_with fail
    go_ret2
    exact (show LrS _ _ _ _ _ _ _ from ⟨Z, rfl, H0.out, Mv.below (Below.refl _ _)⟩)
  have hn : ¬ ep < 0 := by omega
  have HF := hid (ct_pos (xs := xs) (id := id) (tr := tr) (cf := cf) (ex := ex) hp)
  have L0 := hid (h.alloc (.cells #[.int .i64 0, .int .i64 0] 101))
  have HE0 := hid (heap_alloc_new W (.cells #[.int .i64 0, .int .i64 0] 101))
  have HZ0 := hid (show ¬ Z W.heap.size from fun hz => by have := h.ar.zlt _ hz; omega)
  have HIT := hid (itoa_any ep hep (W.alloc (.cells #[.int .i64 0, .int .i64 0] 101)) (Tb.up (HT.out.on L0.out.bl) L0.out.sz))
  clear h hT hp
  go_enter Tryz.func34, Tryz.ntmps34
  go_wp2_with fail
  refine HIT.out.mono ?_
  rintro e w1 ⟨D, rfl, hD, b1⟩
  have HDG := hid (show D = digB ep from hD)
  have L1 := hid (L0.out.ext b1)
  have M1 := hid ((Mv.alloc Z W (.cells #[.int .i64 0, .int .i64 0] 101)).trans (Mv.below b1))
  have HE1 := hid ((b1.block _ (Array.getElem?_eq_some_iff.1 HE0.out).1).trans HE0.out)
  clear b1 HIT L0 HE0 H0 hD
  have hi0 := fun w => (idx2 D w).1
  have hi1 := fun w => (idx2 D w).2
  obtain ⟨R1, hR1⟩ : ∃ R1 : Rs, R1 = mk xs (txN lbGroup) := ⟨_, rfl⟩
  obtain ⟨R2, hR2⟩ : ∃ R2 : Rs, R2 = mk R1.1 (txN (digB ep)) := ⟨_, rfl⟩
  have HR1 := hid hR1; have HR2 := hid hR2
  clear hR1 hR2
  have HFE1 := hid (show R1.2.2 ≠ 0 → ctF xs id ep tr cf ex = (R1.1, 0, R1.2.2) from fun e => by rw [HF.out, ← HR1.out]; unfold bdF; rw [if_neg e])
  have HFE2 := hid (show R1.2.2 = 0 → R2.2.2 ≠ 0 → ctF xs id ep tr cf ex = (R2.1, 0, R2.2.2) from fun e f => by rw [HF.out, ← HR1.out]; unfold bdF; rw [if_pos e]; show (if (mk R1.1 (txN (digB ep))).2.2 = 0 then mk (mk R1.1 (txN (digB ep))).1 (ndN 3 [R1.2.1, id, (mk R1.1 (txN (digB ep))).2.1, tr, cf, ex]) else ((mk R1.1 (txN (digB ep))).1, 0, (mk R1.1 (txN (digB ep))).2.2)) = _; rw [← HR2.out, if_neg f])
  have HFE3 := hid (show R1.2.2 = 0 → R2.2.2 = 0 → ctF xs id ep tr cf ex = mk R2.1 (ndN 3 [R1.2.1, id, R2.2.1, tr, cf, ex]) from fun e f => by rw [HF.out, ← HR1.out]; unfold bdF; rw [if_pos e]; show (if (mk R1.1 (txN (digB ep))).2.2 = 0 then mk (mk R1.1 (txN (digB ep))).1 (ndN 3 [R1.2.1, id, (mk R1.1 (txN (digB ep))).2.1, tr, cf, ex]) else ((mk R1.1 (txN (digB ep))).1, 0, (mk R1.1 (txN (digB ep))).2.2)) = _; rw [← HR2.out, if_pos f])
  clear HF
  go_wp2_with fail
  go_loopw [24] (fun v U => ∃ k : Nat, v = .int .i64 k ∧ ((k = 0 ∧ Hid (LA w0 U Z sa xs ∧ Mv Z W Z U ∧ U.heap[W.heap.size]? = some (.cells #[.int .i64 0, .int .i64 0] 101 (0, 0)))) ∨
    (k = 1 ∧ ∃ Zq, Hid (R1.2.2 = 0 ∧ LA w0 U Zq sa R1.1 ∧ Mv Z W Zq U ∧ ¬ Zq W.heap.size ∧ U.heap[W.heap.size]? = some (.cells #[.int .i64 R1.2.1, .int .i64 0] 101 (0, 0)))) ∨
    (k = 2 ∧ ∃ Zq, Hid (R1.2.2 = 0 ∧ R2.2.2 = 0 ∧ LA w0 U Zq sa R2.1 ∧ Mv Z W Zq U ∧ U.heap[W.heap.size]? = some (.cells #[.int .i64 R1.2.1, .int .i64 R2.2.1] 101 (0, 0)))))) (fun v _ => 2 - (intOf v).toNat)
  case atStart => exact ⟨0, rfl, .inl ⟨rfl, hid ⟨L1.out, M1.out, HE1.out⟩⟩⟩
  case round =>
    clear L1 M1 HE1
    obtain ⟨k, hv, hk⟩ := hrel
    rcases hk with ⟨rfl, HQ⟩ | ⟨rfl, Zq, HQ⟩ | ⟨rfl, Zq, HQ⟩
    · have hv' : u24 = .int .i64 0 := hv
      clear hv
      subst hv'
      have HTX := hid (l_text HQ.out.1 HT.out lbGroup)
      rw [← HR1.out] at HTX
      unfold lbGroup at HTX
      by_cases e1 : R1.2.2 = 0
      · unfold LrS at HTX
        rw [e1] at HTX
        go_wp2_with fail
        refine HTX.out.mono ?_
        rintro e w2 ⟨Z2, rfl, l2, m2⟩
        have HE2 := hid (Mv.cellE HQ.out.2.2 m2 HZ0.out)
        have HZ2 := hid (show ¬ Z2 W.heap.size from fun hz => (m2.n _ hz).elim HZ0.out fun h => by have := (Array.getElem?_eq_some_iff.1 HQ.out.2.2).1; omega)
        have HP := hid (lm_set (o := 0) (v := .int .i64 R1.2.1) ⟨l2, HQ.out.2.1.trans m2⟩ HZ2.out (Nat.le_refl _) HW.out)
        have c0 : w2.cell? ⟨W.heap.size, 0, none⟩ = some (.int .i64 0) := by rw [cell_of_row w2 W.heap.size 0 _ _ (0, 0) HE2.out]; rfl
        have z0 : w2.frozen? ⟨W.heap.size, 0, none⟩ = false := frozen_of_row w2 W.heap.size 0 _ _ HE2.out
        have HS := hid (show (w2.setCell ⟨W.heap.size, 0, none⟩ (.int .i64 R1.2.1)).heap[W.heap.size]? = some (.cells #[.int .i64 R1.2.1, .int .i64 0] 101 (0, 0)) from by rw [heap_setCell_same w2 W.heap.size 0 _ _ _ HE2.out]; rfl)
        have HE1 := hid e1
        clear l2 m2 HTX HQ HE2 e1
        go_wp2_with fail
        go_roundw
        case rel => exact ⟨1, rfl, .inr (.inl ⟨rfl, Z2, hid ⟨HE1.out, HP.out.1, HP.out.2, HZ2.out, HS.out⟩⟩)⟩
        case measure => simp [intOf]
      · have hne : (R1.2.2 != 0) = true := bne_iff_ne.2 e1
        have HG := hid (HFE1.out e1)
        unfold LrS at HTX
        clear e1
        go_wp2_with fail
        refine HTX.out.mono ?_
        rintro e w2 ⟨Z2, rfl, l2, m2⟩
        have HP := hid (And.intro l2 (HQ.out.2.1.trans m2))
        clear l2 m2 HTX
        go_wp2_with fail
        go_ret2
        exact (show LrS _ _ _ _ _ _ _ from ⟨Z2, by rw [HG.out]; rfl, by rw [HG.out]; exact HP.out.1, HP.out.2⟩)
    · have hv' : u24 = .int .i64 1 := hv
      clear hv
      subst hv'
      have HTX := hid (l_text HQ.out.2.1 HT.out (digB ep))
      rw [← HR2.out, ← HDG.out] at HTX
      by_cases e2 : R2.2.2 = 0
      · unfold LrS at HTX
        rw [e2] at HTX
        go_wp2_with fail
        refine HTX.out.mono ?_
        rintro e w2 ⟨Z2, rfl, l2, m2⟩
        have HE2 := hid (Mv.cellE HQ.out.2.2.2.2 m2 HQ.out.2.2.2.1)
        have HZ2 := hid (show ¬ Z2 W.heap.size from fun hz => (m2.n _ hz).elim HQ.out.2.2.2.1 fun h => by have := (Array.getElem?_eq_some_iff.1 HQ.out.2.2.2.2).1; omega)
        have HP := hid (lm_set (o := 1) (v := .int .i64 R2.2.1) ⟨l2, HQ.out.2.2.1.trans m2⟩ HZ2.out (Nat.le_refl _) HW.out)
        have c0 : w2.cell? ⟨W.heap.size, 1, none⟩ = some (.int .i64 0) := by rw [cell_of_row w2 W.heap.size 1 _ _ (0, 0) HE2.out]; rfl
        have z0 : w2.frozen? ⟨W.heap.size, 1, none⟩ = false := frozen_of_row w2 W.heap.size 1 _ _ HE2.out
        have HS := hid (show (w2.setCell ⟨W.heap.size, 1, none⟩ (.int .i64 R2.2.1)).heap[W.heap.size]? = some (.cells #[.int .i64 R1.2.1, .int .i64 R2.2.1] 101 (0, 0)) from by rw [heap_setCell_same w2 W.heap.size 1 _ _ _ HE2.out]; rfl)
        have HE1 := hid (And.intro HQ.out.1 e2)
        clear l2 m2 HTX HQ HE2 e2
        go_wp2_with fail
        go_roundw
        case rel => exact ⟨2, rfl, .inr (.inr ⟨rfl, Z2, hid ⟨HE1.out.1, HE1.out.2, HP.out.1, HP.out.2, HS.out⟩⟩)⟩
        case measure => simp [intOf]
      · have hne : (R2.2.2 != 0) = true := bne_iff_ne.2 e2
        have HG := hid (HFE2.out HQ.out.1 e2)
        unfold LrS at HTX
        clear e2
        go_wp2_with fail
        refine HTX.out.mono ?_
        rintro e w2 ⟨Z2, rfl, l2, m2⟩
        have HP := hid (And.intro l2 (HQ.out.2.2.1.trans m2))
        clear l2 m2 HTX
        go_wp2_with fail
        go_ret2
        exact (show LrS _ _ _ _ _ _ _ from ⟨Z2, by rw [HG.out]; rfl, by rw [HG.out]; exact HP.out.1, HP.out.2⟩)
    · have hv' : u24 = .int .i64 2 := hv
      clear hv
      subst hv'
      have HG := hid (HFE3.out HQ.out.1 HQ.out.2.1)
      have ig : I64 R1.2.1 := by
        have a := (sb_tx lbGroup).has xs (by show (mk xs (txN lbGroup)).2.2 = 0; rw [← HR1.out]; exact HQ.out.1)
        obtain ⟨m, hm⟩ := mak_pre R1.1 (txN (digB ep))
        have e : R2.1 = R1.1 ++ m := by rw [HR2.out]; exact hm
        exact i64_at HQ.out.2.2.1 ⟨m, e⟩ (by rw [HR1.out]; exact a)
      have ig2 : I64 R2.2.1 := by
        have a := (sb_tx (digB ep)).has R1.1 (by show (mk R1.1 (txN (digB ep))).2.2 = 0; rw [← HR2.out]; exact HQ.out.2.1)
        exact i64_at (X := R2.1) HQ.out.2.2.1 ⟨[], by simp⟩ (by rw [HR2.out]; exact a)
      have HO := hid (l_all (HQ.out.2.2.1.alloc (.cells #[.int .i64 R1.2.1, .int .i64 id, .int .i64 R2.2.1, .int .i64 tr, .int .i64 cf, .int .i64 ex] 3)) HT.out (l := [R1.2.1, id, R2.2.1, tr, cf, ex]) (sla_row #[.int .i64 R1.2.1, .int .i64 id, .int .i64 R2.2.1, .int .i64 tr, .int .i64 cf, .int .i64 ex] (by unfold maxLen; simp)) (fun y hy => by
        simp only [List.mem_cons, List.mem_nil_iff, or_false] at hy
        rcases hy with rfl | rfl | rfl | rfl | rfl | rfl
        · exact ig
        · exact hid'
        · exact ig2
        · exact htr
        · exact hcf
        · exact hex))
      rw [← HG.out] at HO
      have c0 : wr.cell? ⟨W.heap.size, 0, none⟩ = some (.int .i64 R1.2.1) := by rw [cell_of_row wr W.heap.size 0 _ _ (0, 0) HQ.out.2.2.2.2]; rfl
      have c1 : wr.cell? ⟨W.heap.size, 1, none⟩ = some (.int .i64 R2.2.1) := by rw [cell_of_row wr W.heap.size 1 _ _ (0, 0) HQ.out.2.2.2.2]; rfl
      unfold LrS at HO
      go_wp2_with fail
      refine HO.out.mono ?_
      rintro e w2 ⟨Z2, rfl, l2, m2⟩
      have HP := hid (And.intro l2 ((HQ.out.2.2.2.1.trans (Mv.alloc Zq wr (.cells #[.int .i64 R1.2.1, .int .i64 id, .int .i64 R2.2.1, .int .i64 tr, .int .i64 cf, .int .i64 ex] 3))).trans m2))
      clear l2 m2 HO
      go_wp2_with fail
      go_ret2
      exact (show LrS _ _ _ _ _ _ _ from ⟨Z2, rfl, HP.out.1, HP.out.2⟩)
end
end Go.Proofs.YtkgobglmkhkbbaaGreatDoor

/- transcript's law: its two arenas; Start. -/
namespace Go.Proofs.YtkgobglmkhkbbaaGreatDoor
open Go.RowKit Go.KK Go.Shelf Go.Maps
set_option linter.unusedVariables false
set_option linter.unusedSimpArgs false

set_option maxHeartbeats 2000000 in
theorem two12_any (w : World) (hT : Tb w.heap.size w) : Calls Tryz.prog 33 #[] w (TwoS w) := by
  have HT := hid hT
  clear hT
  go_enter Tryz.func33, Tryz.ntmps33
  go_wp2_with fail
  refine (new_any _).mono ?_
  rintro e1 w1 ⟨Z1, sa, rfl, a1, z1, b1⟩
  go_wp2_with fail
  refine (rnew_any _).mono ?_
  rintro e2 w2 ⟨Z2, sb, rfl, a2, z2, b2⟩
  have HI := hid (show Tw w w2 sa sb Z1 Z2 (atoms 0) from ⟨a1.ext b2, a2, fun b h1 h2 => by have := a1.zlt b h1; have := z2 b h2; omega, z1, fun b h => Nat.le_trans b1.size (z2 b h), b1.trans (b2.mono b1.size)⟩)
  clear a2 z2 b2 a1 z1 b1
  go_wp2_with fail
  go_loopw [7] (fun i wr => ∃ (j : Nat) (Z Z' : Nat → Prop), i = .int .i64 j ∧ j ≤ 10 ∧ Tw w wr sa sb Z Z' (atoms j)) (fun i _ => 10 - (intOf i).toNat)
  case atStart => exact ⟨0, Z1, Z2, rfl, by omega, HI.out⟩
  case round =>
    clear HI
    obtain ⟨j, Z, Z', hi, hj, hI⟩ := hrel
    subst hi
    have HJ := hid hI
    clear hI
    by_cases hlt : j < 10
    · have hj64 : I64 (j : Int) := ⟨by omega, by omega⟩
      have HST := hid (atoms_step (n := j) (by omega))
      have HZB := hid HJ.out.zb
      have hlt' : (j : Int) < 10 := by omega
      go_wp2_with fail
      refine (mke_any Z sa _ w.heap.size _ (atN (j : Int)) none 0 HJ.out.a (SlA.nil _ _) (HT.out.on HJ.out.bl) HJ.out.bl.size (ndI_at hj64)).mono ?_
      rintro e3 w3 ⟨rfl, s3⟩
      obtain ⟨Z3, a3, q3, d3, z3, -, -, b3⟩ := HJ.out.mkA s3
      have A3 := hid a3; have Q3 := hid q3; have D3 := hid d3; have ZZ3 := hid z3; have B3 := hid b3
      clear a3 q3 d3 z3 b3 s3 HJ
      go_wp2_with fail
      refine (ratom_any Z' sb _ _ (j : Int) Q3.out hj64).mono ?_
      rintro e4 w4 ⟨rfl, s4⟩
      obtain ⟨Z4, t4, -, -⟩ := Tw.mkB A3.out Q3.out D3.out ZZ3.out HZB.out B3.out s4
      rw [HST.out] at t4
      have T4 := hid t4
      clear t4 s4 A3 Q3 D3 ZZ3 B3 HZB
      go_wp2_with fail
      go_roundw
      case rel => exact ⟨j + 1, Z3, Z4, by go_num, by omega, T4.out⟩
      case measure => simp [intOf]; omega
    · have : j = 10 := by omega
      subst this
      go_wp2_with fail
      go_ret2
      exact ⟨sa, sb, Z, Z', rfl, HJ.out⟩
section
variable {w0 W : World} {Z : Nat → Prop} {sa : Nat} {xs : List ND}
theorem l_start (h : LA w0 W Z sa xs) (hT : Tb w0.heap.size w0) :
    Calls Tryz.prog 52 #[.pointer (some ⟨sa, 0, none⟩)] W (LrS w0 W Z sa (mk xs (txN ⟨#[]⟩))) := by
  have HM := hid (l_text h hT ⟨#[]⟩)
  clear h hT
  generalize mk xs (txN ⟨#[]⟩) = r at *
  unfold LrS at HM ⊢
  go_enter Tryz.func52, Tryz.ntmps52
  go_wp2_with fail
  refine HM.out.mono ?_
  rintro e w' ⟨Z', rfl, h1, h2⟩
  have H1 := hid h1; have H2 := hid h2
  clear h1 h2
  go_wp2_with fail
  go_ret2
  exact ⟨Z', rfl, H1.out, H2.out⟩
end
end Go.Proofs.YtkgobglmkhkbbaaGreatDoor

/- transcript: a text's bytes. -/
namespace Go.Proofs.YtkgobglmkhkbbaaGreatDoor
open Go.RowKit Go.KK Go.Shelf Go.Maps
set_option linter.unusedVariables false
set_option linter.unusedSimpArgs false

set_option maxHeartbeats 1000000 in
theorem ttext_any (sa : Nat) (xs : List ND) (t : Int) (w : World) (h : ArV w 124 sa xs) :
    Calls Tryz.prog 78 #[.pointer (some ⟨sa, 0, none⟩), .int .i64 t] w fun e w' => e = .returned (.tuple #[.string (nodeF xs t).s, .bool (hasB xs t && (nodeF xs t).o == 2)]) ∧ Below w.heap.size w w' := by
  have HN := hid (node_any sa xs t w h)
  have hE : nodeE xs t = if hasB xs t then 0 else 4 := rfl
  rcases hh : hasB xs t with _ | _
  · have hE4 : nodeE xs t = 4 := by rw [hE, hh]; rfl
    rw [hE4] at HN
    clear h hE hE4 hh
    generalize nodeF xs t = x at *
    go_enter Tryz.func78, Tryz.ntmps78
    go_wp2_with fail
    refine HN.out.mono ?_
    rintro e w2 ⟨A, c, rfl, -, hb⟩
    have HB := hid (hb.alloc hb.size (.cells #[.int .i64 x.o, .int .i64 x.n, .string x.s, .slice A x.l.length c] 88))
    clear hb HN
    go_wp2_with fail
    go_quiet (fail)
    go_wp2_with fail
    go_ret2
    exact ⟨by first | rfl | simp, HB.out.trans (below_drewN (Below.refl _ _) _ |>.mono HB.out.size)⟩
  · have hE0 : nodeE xs t = 0 := by rw [hE, hh]; rfl
    rw [hE0] at HN
    clear h hE hE0 hh
    generalize nodeF xs t = x at *
    go_enter Tryz.func78, Tryz.ntmps78
    go_wp2_with fail
    refine HN.out.mono ?_
    rintro e w2 ⟨A, c, rfl, -, hb⟩
    have HB := hid (hb.alloc hb.size (.cells #[.int .i64 x.o, .int .i64 x.n, .string x.s, .slice A x.l.length c] 88))
    clear hb HN
    go_wp2_with fail
    go_quiet (fail)
    go_wp2_with fail
    go_ret2
    exact ⟨by first | rfl | simp, HB.out.trans (below_drewN (Below.refl _ _) _ |>.mono HB.out.size)⟩
end Go.Proofs.YtkgobglmkhkbbaaGreatDoor

