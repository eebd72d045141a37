import Derived.Test.YtfmkniakfgpgjaaGreatDoorY06
import Derived.RegionTactic
/- schedule: Begin walked. -/
namespace Go.Proofs.YtfmkniakfgpgjaaGreatDoor
open Go.RowKit Go.KK Go.Shelf Go.Maps
set_option linter.unusedVariables false
set_option linter.unusedSimpArgs false

section
variable {w0 W : World} {Z : Nat → Prop} {sa : Nat} {xs : List ND} {j p x : Int}
/-- The steps of Begin one by one. -/
abbrev bgR (xs : List ND) (j p x : Int) (n : Nat) : List ND × List Int × Int := runF xs [] ((bgS j p x).take n)
theorem st_0 (hT : Tb w0.heap.size w0) (hB : w0.heap.size ≤ W.heap.size) (hj : I64 j) (hp : I64 p) {wr : World} {Zr : Nat → Prop} {ep : List Int} {mem ext : Int} (hI : BgI w0 W Z sa j p x (bgR xs j p x 0) wr Zr ep mem ext) :
    Calls Tryz.prog 108 #[.pointer (some ⟨W.heap.size + 7, 0, none⟩), .func (.func 109) #[] #[.pointer (some ⟨W.heap.size, 0, none⟩), .pointer (some ⟨W.heap.size + 1, 0, none⟩), .pointer (some ⟨W.heap.size + 2, 0, none⟩)], .pointer (some ⟨W.heap.size + 6, 0, none⟩)] wr fun e w' => e = .returned (.tuple #[]) ∧ ∃ Z' ep2 mem2 ext2, BgI w0 W Z sa j p x (bgR xs j p x 1) w' Z' ep2 mem2 ext2 := by
  refine (do_2 (R := bgR xs j p x 0) (f := fun _ ys => exF ys j p) hI.la hI.bg hB (i := 7) (q := 0) (by omega) (by omega) rfl (fun _ => ep) (fun a => a) (fun _ => ext) (fun a e k _ h1 h2 => bgb_mem h1 h2) (fun a e => rfl) (fun _ => cl_2 hI.la hT hI.bg hj hp)).mono ?_
  intro e w' hd
  have := hI.next hd (sb_ex j p) (fun a => by exact hI.l11) (fun h0 a => by
    obtain ⟨e1, e2, e3⟩ := hI.ok h0
    have hl : (bgR xs j p x 0).2.1.length = 0 := run_len ((bgS j p x).take 0) xs [] h0
    clear hd hI
    generalize (bgR xs j p x 0).2.1 = acc at *
    refine ⟨?_, ?_, ?_⟩
    · try dsimp only
      rw [e1]; simp [epL, getD_snoc hl, -List.getD_eq_getElem?_getD]
    · try dsimp only
      rw [getD_snoc hl]; rfl
    · try dsimp only
      rw [e3, getD_snoc hl]; rfl)
  rwa [← run_take (fs := bgS j p x) (k := 0) rfl] at this
theorem st_1 (hT : Tb w0.heap.size w0) (hB : w0.heap.size ≤ W.heap.size) {wr : World} {Zr : Nat → Prop} {ep : List Int} {mem ext : Int} (hI : BgI w0 W Z sa j p x (bgR xs j p x 1) wr Zr ep mem ext) :
    Calls Tryz.prog 108 #[.pointer (some ⟨W.heap.size + 5, 1, none⟩), .func (.func 110) #[] #[.pointer (some ⟨W.heap.size, 0, none⟩), .pointer (some ⟨W.heap.size + 7, 0, none⟩)], .pointer (some ⟨W.heap.size + 6, 0, none⟩)] wr fun e w' => e = .returned (.tuple #[]) ∧ ∃ Z' ep2 mem2 ext2, BgI w0 W Z sa j p x (bgR xs j p x 2) w' Z' ep2 mem2 ext2 := by
  refine (do_3 (R := bgR xs j p x 1) (f := fun a ys => dvF ys (a.getD 0 0) lbWelcome) hI.la hI.bg hB (i := 5) (q := 1) (by omega) (by omega) (bgb_at (by rw [hI.l11]; omega)) (fun a => ep.set 1 a) (fun _ => mem) (fun _ => ext) (fun a e k _ h1 h2 => bgb_ep h1 h2) (fun a e => bgb_set 1) (fun h0 => by have hk := hI.ok h0; have := cl_3 hI.la hT hI.bg (by rw [hk.2.1]; exact i64_getD (hI.i64 h0) 0); rw [hk.2.1] at this; exact this)).mono ?_
  intro e w' hd
  have := hI.next hd (sb_dv _ _) (fun a => by rw [List.length_set]; exact hI.l11) (fun h0 a => by
    obtain ⟨e1, e2, e3⟩ := hI.ok h0
    have hl : (bgR xs j p x 1).2.1.length = 1 := run_len ((bgS j p x).take 1) xs [] h0
    clear hd hI
    generalize (bgR xs j p x 1).2.1 = acc at *
    refine ⟨?_, ?_, ?_⟩
    · try dsimp only
      rw [e1]; simp [epL, getD_snoc hl, -List.getD_eq_getElem?_getD]
    · try dsimp only
      rw [e2, getD_snoc hl]; rfl
    · try dsimp only
      rw [e3, getD_snoc hl]; rfl)
  rwa [← run_take (fs := bgS j p x) (k := 1) rfl] at this
theorem st_2 (hT : Tb w0.heap.size w0) (hB : w0.heap.size ≤ W.heap.size) (hx : I64 x) {wr : World} {Zr : Nat → Prop} {ep : List Int} {mem ext : Int} (hI : BgI w0 W Z sa j p x (bgR xs j p x 2) wr Zr ep mem ext) :
    Calls Tryz.prog 108 #[.pointer (some ⟨W.heap.size + 5, 2, none⟩), .func (.func 112) #[] #[.pointer (some ⟨W.heap.size, 0, none⟩), .pointer (some ⟨W.heap.size + 7, 0, none⟩), .pointer (some ⟨W.heap.size + 3, 0, none⟩)], .pointer (some ⟨W.heap.size + 6, 0, none⟩)] wr fun e w' => e = .returned (.tuple #[]) ∧ ∃ Z' ep2 mem2 ext2, BgI w0 W Z sa j p x (bgR xs j p x 3) w' Z' ep2 mem2 ext2 := by
  refine (do_4 (R := bgR xs j p x 2) (f := fun a ys => exdF ys (a.getD 0 0) lbEpoch x) hI.la hI.bg hB (i := 5) (q := 2) (by omega) (by omega) (bgb_at (by rw [hI.l11]; omega)) (fun a => ep.set 2 a) (fun _ => mem) (fun _ => ext) (fun a e k _ h1 h2 => bgb_ep h1 h2) (fun a e => bgb_set 2) (fun h0 => by have hk := hI.ok h0; have := cl_4 hI.la hT hI.bg (by rw [hk.2.1]; exact i64_getD (hI.i64 h0) 0) hx; rw [hk.2.1] at this; exact this)).mono ?_
  intro e w' hd
  have := hI.next hd (sb_exd _ _ _) (fun a => by rw [List.length_set]; exact hI.l11) (fun h0 a => by
    obtain ⟨e1, e2, e3⟩ := hI.ok h0
    have hl : (bgR xs j p x 2).2.1.length = 2 := run_len ((bgS j p x).take 2) xs [] h0
    clear hd hI
    generalize (bgR xs j p x 2).2.1 = acc at *
    refine ⟨?_, ?_, ?_⟩
    · try dsimp only
      rw [e1]; simp [epL, getD_snoc hl, -List.getD_eq_getElem?_getD]
    · try dsimp only
      rw [e2, getD_snoc hl]; rfl
    · try dsimp only
      rw [e3, getD_snoc hl]; rfl)
  rwa [← run_take (fs := bgS j p x) (k := 2) rfl] at this
theorem st_3 (hT : Tb w0.heap.size w0) (hB : w0.heap.size ≤ W.heap.size) {wr : World} {Zr : Nat → Prop} {ep : List Int} {mem ext : Int} (hI : BgI w0 W Z sa j p x (bgR xs j p x 3) wr Zr ep mem ext) {tb : Nat} (ht : wr.cell? ⟨tb, 1, none⟩ = some (.string lbSender)) :
    Calls Tryz.prog 108 #[.pointer (some ⟨W.heap.size + 5, 3, none⟩), .func (.func 113) #[] #[.pointer (some ⟨W.heap.size, 0, none⟩), .pointer (some ⟨W.heap.size + 5, 0, none⟩), .pointer (some ⟨tb, 0, none⟩)], .pointer (some ⟨W.heap.size + 6, 0, none⟩)] wr fun e w' => e = .returned (.tuple #[]) ∧ ∃ Z' ep2 mem2 ext2, BgI w0 W Z sa j p x (bgR xs j p x 4) w' Z' ep2 mem2 ext2 := by
  refine (do_5 (R := bgR xs j p x 3) (f := fun a ys => dvF ys (a.getD 2 0) lbSender) hI.la hI.bg hB (i := 5) (q := 3) (by omega) (by omega) (bgb_at (by rw [hI.l11]; omega)) (fun a => ep.set 3 a) (fun _ => mem) (fun _ => ext) (fun a e k _ h1 h2 => bgb_ep h1 h2) (fun a e => bgb_set 3) (fun h0 => by have hk := hI.ok h0; have := cl_5 hI.la hT hI.bg (by rw [hk.1]; exact i64_getD (hI.i64 h0) 2) hI.l11 ht; rw [hk.1] at this; exact this)).mono ?_
  intro e w' hd
  have := hI.next hd (sb_dv _ _) (fun a => by rw [List.length_set]; exact hI.l11) (fun h0 a => by
    obtain ⟨e1, e2, e3⟩ := hI.ok h0
    have hl : (bgR xs j p x 3).2.1.length = 3 := run_len ((bgS j p x).take 3) xs [] h0
    clear hd hI
    generalize (bgR xs j p x 3).2.1 = acc at *
    refine ⟨?_, ?_, ?_⟩
    · try dsimp only
      rw [e1]; simp [epL, getD_snoc hl, -List.getD_eq_getElem?_getD]
    · try dsimp only
      rw [e2, getD_snoc hl]; rfl
    · try dsimp only
      rw [e3, getD_snoc hl]; rfl)
  rwa [← run_take (fs := bgS j p x) (k := 3) rfl] at this
theorem st_4 (hT : Tb w0.heap.size w0) (hB : w0.heap.size ≤ W.heap.size) {wr : World} {Zr : Nat → Prop} {ep : List Int} {mem ext : Int} (hI : BgI w0 W Z sa j p x (bgR xs j p x 4) wr Zr ep mem ext) {tb : Nat} (ht : wr.cell? ⟨tb, 1, none⟩ = some (.string lbEncryption)) :
    Calls Tryz.prog 108 #[.pointer (some ⟨W.heap.size + 5, 4, none⟩), .func (.func 113) #[] #[.pointer (some ⟨W.heap.size, 0, none⟩), .pointer (some ⟨W.heap.size + 5, 0, none⟩), .pointer (some ⟨tb, 0, none⟩)], .pointer (some ⟨W.heap.size + 6, 0, none⟩)] wr fun e w' => e = .returned (.tuple #[]) ∧ ∃ Z' ep2 mem2 ext2, BgI w0 W Z sa j p x (bgR xs j p x 5) w' Z' ep2 mem2 ext2 := by
  refine (do_5 (R := bgR xs j p x 4) (f := fun a ys => dvF ys (a.getD 2 0) lbEncryption) hI.la hI.bg hB (i := 5) (q := 4) (by omega) (by omega) (bgb_at (by rw [hI.l11]; omega)) (fun a => ep.set 4 a) (fun _ => mem) (fun _ => ext) (fun a e k _ h1 h2 => bgb_ep h1 h2) (fun a e => bgb_set 4) (fun h0 => by have hk := hI.ok h0; have := cl_5 hI.la hT hI.bg (by rw [hk.1]; exact i64_getD (hI.i64 h0) 2) hI.l11 ht; rw [hk.1] at this; exact this)).mono ?_
  intro e w' hd
  have := hI.next hd (sb_dv _ _) (fun a => by rw [List.length_set]; exact hI.l11) (fun h0 a => by
    obtain ⟨e1, e2, e3⟩ := hI.ok h0
    have hl : (bgR xs j p x 4).2.1.length = 4 := run_len ((bgS j p x).take 4) xs [] h0
    clear hd hI
    generalize (bgR xs j p x 4).2.1 = acc at *
    refine ⟨?_, ?_, ?_⟩
    · try dsimp only
      rw [e1]; simp [epL, getD_snoc hl, -List.getD_eq_getElem?_getD]
    · try dsimp only
      rw [e2, getD_snoc hl]; rfl
    · try dsimp only
      rw [e3, getD_snoc hl]; rfl)
  rwa [← run_take (fs := bgS j p x) (k := 4) rfl] at this
theorem st_5 (hT : Tb w0.heap.size w0) (hB : w0.heap.size ≤ W.heap.size) {wr : World} {Zr : Nat → Prop} {ep : List Int} {mem ext : Int} (hI : BgI w0 W Z sa j p x (bgR xs j p x 5) wr Zr ep mem ext) {tb : Nat} (ht : wr.cell? ⟨tb, 1, none⟩ = some (.string lbExporter)) :
    Calls Tryz.prog 108 #[.pointer (some ⟨W.heap.size + 5, 5, none⟩), .func (.func 113) #[] #[.pointer (some ⟨W.heap.size, 0, none⟩), .pointer (some ⟨W.heap.size + 5, 0, none⟩), .pointer (some ⟨tb, 0, none⟩)], .pointer (some ⟨W.heap.size + 6, 0, none⟩)] wr fun e w' => e = .returned (.tuple #[]) ∧ ∃ Z' ep2 mem2 ext2, BgI w0 W Z sa j p x (bgR xs j p x 6) w' Z' ep2 mem2 ext2 := by
  refine (do_5 (R := bgR xs j p x 5) (f := fun a ys => dvF ys (a.getD 2 0) lbExporter) hI.la hI.bg hB (i := 5) (q := 5) (by omega) (by omega) (bgb_at (by rw [hI.l11]; omega)) (fun a => ep.set 5 a) (fun _ => mem) (fun _ => ext) (fun a e k _ h1 h2 => bgb_ep h1 h2) (fun a e => bgb_set 5) (fun h0 => by have hk := hI.ok h0; have := cl_5 hI.la hT hI.bg (by rw [hk.1]; exact i64_getD (hI.i64 h0) 2) hI.l11 ht; rw [hk.1] at this; exact this)).mono ?_
  intro e w' hd
  have := hI.next hd (sb_dv _ _) (fun a => by rw [List.length_set]; exact hI.l11) (fun h0 a => by
    obtain ⟨e1, e2, e3⟩ := hI.ok h0
    have hl : (bgR xs j p x 5).2.1.length = 5 := run_len ((bgS j p x).take 5) xs [] h0
    clear hd hI
    generalize (bgR xs j p x 5).2.1 = acc at *
    refine ⟨?_, ?_, ?_⟩
    · try dsimp only
      rw [e1]; simp [epL, getD_snoc hl, -List.getD_eq_getElem?_getD]
    · try dsimp only
      rw [e2, getD_snoc hl]; rfl
    · try dsimp only
      rw [e3, getD_snoc hl]; rfl)
  rwa [← run_take (fs := bgS j p x) (k := 5) rfl] at this
theorem st_6 (hT : Tb w0.heap.size w0) (hB : w0.heap.size ≤ W.heap.size) {wr : World} {Zr : Nat → Prop} {ep : List Int} {mem ext : Int} (hI : BgI w0 W Z sa j p x (bgR xs j p x 6) wr Zr ep mem ext) {tb : Nat} (ht : wr.cell? ⟨tb, 1, none⟩ = some (.string lbConfirm)) :
    Calls Tryz.prog 108 #[.pointer (some ⟨W.heap.size + 5, 6, none⟩), .func (.func 113) #[] #[.pointer (some ⟨W.heap.size, 0, none⟩), .pointer (some ⟨W.heap.size + 5, 0, none⟩), .pointer (some ⟨tb, 0, none⟩)], .pointer (some ⟨W.heap.size + 6, 0, none⟩)] wr fun e w' => e = .returned (.tuple #[]) ∧ ∃ Z' ep2 mem2 ext2, BgI w0 W Z sa j p x (bgR xs j p x 7) w' Z' ep2 mem2 ext2 := by
  refine (do_5 (R := bgR xs j p x 6) (f := fun a ys => dvF ys (a.getD 2 0) lbConfirm) hI.la hI.bg hB (i := 5) (q := 6) (by omega) (by omega) (bgb_at (by rw [hI.l11]; omega)) (fun a => ep.set 6 a) (fun _ => mem) (fun _ => ext) (fun a e k _ h1 h2 => bgb_ep h1 h2) (fun a e => bgb_set 6) (fun h0 => by have hk := hI.ok h0; have := cl_5 hI.la hT hI.bg (by rw [hk.1]; exact i64_getD (hI.i64 h0) 2) hI.l11 ht; rw [hk.1] at this; exact this)).mono ?_
  intro e w' hd
  have := hI.next hd (sb_dv _ _) (fun a => by rw [List.length_set]; exact hI.l11) (fun h0 a => by
    obtain ⟨e1, e2, e3⟩ := hI.ok h0
    have hl : (bgR xs j p x 6).2.1.length = 6 := run_len ((bgS j p x).take 6) xs [] h0
    clear hd hI
    generalize (bgR xs j p x 6).2.1 = acc at *
    refine ⟨?_, ?_, ?_⟩
    · try dsimp only
      rw [e1]; simp [epL, getD_snoc hl, -List.getD_eq_getElem?_getD]
    · try dsimp only
      rw [e2, getD_snoc hl]; rfl
    · try dsimp only
      rw [e3, getD_snoc hl]; rfl)
  rwa [← run_take (fs := bgS j p x) (k := 6) rfl] at this
theorem st_7 (hT : Tb w0.heap.size w0) (hB : w0.heap.size ≤ W.heap.size) {wr : World} {Zr : Nat → Prop} {ep : List Int} {mem ext : Int} (hI : BgI w0 W Z sa j p x (bgR xs j p x 7) wr Zr ep mem ext) {tb : Nat} (ht : wr.cell? ⟨tb, 1, none⟩ = some (.string lbMembership)) :
    Calls Tryz.prog 108 #[.pointer (some ⟨W.heap.size + 5, 7, none⟩), .func (.func 113) #[] #[.pointer (some ⟨W.heap.size, 0, none⟩), .pointer (some ⟨W.heap.size + 5, 0, none⟩), .pointer (some ⟨tb, 0, none⟩)], .pointer (some ⟨W.heap.size + 6, 0, none⟩)] wr fun e w' => e = .returned (.tuple #[]) ∧ ∃ Z' ep2 mem2 ext2, BgI w0 W Z sa j p x (bgR xs j p x 8) w' Z' ep2 mem2 ext2 := by
  refine (do_5 (R := bgR xs j p x 7) (f := fun a ys => dvF ys (a.getD 2 0) lbMembership) hI.la hI.bg hB (i := 5) (q := 7) (by omega) (by omega) (bgb_at (by rw [hI.l11]; omega)) (fun a => ep.set 7 a) (fun _ => mem) (fun _ => ext) (fun a e k _ h1 h2 => bgb_ep h1 h2) (fun a e => bgb_set 7) (fun h0 => by have hk := hI.ok h0; have := cl_5 hI.la hT hI.bg (by rw [hk.1]; exact i64_getD (hI.i64 h0) 2) hI.l11 ht; rw [hk.1] at this; exact this)).mono ?_
  intro e w' hd
  have := hI.next hd (sb_dv _ _) (fun a => by rw [List.length_set]; exact hI.l11) (fun h0 a => by
    obtain ⟨e1, e2, e3⟩ := hI.ok h0
    have hl : (bgR xs j p x 7).2.1.length = 7 := run_len ((bgS j p x).take 7) xs [] h0
    clear hd hI
    generalize (bgR xs j p x 7).2.1 = acc at *
    refine ⟨?_, ?_, ?_⟩
    · try dsimp only
      rw [e1]; simp [epL, getD_snoc hl, -List.getD_eq_getElem?_getD]
    · try dsimp only
      rw [e2, getD_snoc hl]; rfl
    · try dsimp only
      rw [e3, getD_snoc hl]; rfl)
  rwa [← run_take (fs := bgS j p x) (k := 7) rfl] at this
theorem st_8 (hT : Tb w0.heap.size w0) (hB : w0.heap.size ≤ W.heap.size) {wr : World} {Zr : Nat → Prop} {ep : List Int} {mem ext : Int} (hI : BgI w0 W Z sa j p x (bgR xs j p x 8) wr Zr ep mem ext) {tb : Nat} (ht : wr.cell? ⟨tb, 1, none⟩ = some (.string lbResumption)) :
    Calls Tryz.prog 108 #[.pointer (some ⟨W.heap.size + 5, 8, none⟩), .func (.func 113) #[] #[.pointer (some ⟨W.heap.size, 0, none⟩), .pointer (some ⟨W.heap.size + 5, 0, none⟩), .pointer (some ⟨tb, 0, none⟩)], .pointer (some ⟨W.heap.size + 6, 0, none⟩)] wr fun e w' => e = .returned (.tuple #[]) ∧ ∃ Z' ep2 mem2 ext2, BgI w0 W Z sa j p x (bgR xs j p x 9) w' Z' ep2 mem2 ext2 := by
  refine (do_5 (R := bgR xs j p x 8) (f := fun a ys => dvF ys (a.getD 2 0) lbResumption) hI.la hI.bg hB (i := 5) (q := 8) (by omega) (by omega) (bgb_at (by rw [hI.l11]; omega)) (fun a => ep.set 8 a) (fun _ => mem) (fun _ => ext) (fun a e k _ h1 h2 => bgb_ep h1 h2) (fun a e => bgb_set 8) (fun h0 => by have hk := hI.ok h0; have := cl_5 hI.la hT hI.bg (by rw [hk.1]; exact i64_getD (hI.i64 h0) 2) hI.l11 ht; rw [hk.1] at this; exact this)).mono ?_
  intro e w' hd
  have := hI.next hd (sb_dv _ _) (fun a => by rw [List.length_set]; exact hI.l11) (fun h0 a => by
    obtain ⟨e1, e2, e3⟩ := hI.ok h0
    have hl : (bgR xs j p x 8).2.1.length = 8 := run_len ((bgS j p x).take 8) xs [] h0
    clear hd hI
    generalize (bgR xs j p x 8).2.1 = acc at *
    refine ⟨?_, ?_, ?_⟩
    · try dsimp only
      rw [e1]; simp [epL, getD_snoc hl, -List.getD_eq_getElem?_getD]
    · try dsimp only
      rw [e2, getD_snoc hl]; rfl
    · try dsimp only
      rw [e3, getD_snoc hl]; rfl)
  rwa [← run_take (fs := bgS j p x) (k := 8) rfl] at this
theorem st_9 (hT : Tb w0.heap.size w0) (hB : w0.heap.size ≤ W.heap.size) {wr : World} {Zr : Nat → Prop} {ep : List Int} {mem ext : Int} (hI : BgI w0 W Z sa j p x (bgR xs j p x 9) wr Zr ep mem ext) {tb : Nat} (ht : wr.cell? ⟨tb, 1, none⟩ = some (.string lbInit)) :
    Calls Tryz.prog 108 #[.pointer (some ⟨W.heap.size + 5, 10, none⟩), .func (.func 113) #[] #[.pointer (some ⟨W.heap.size, 0, none⟩), .pointer (some ⟨W.heap.size + 5, 0, none⟩), .pointer (some ⟨tb, 0, none⟩)], .pointer (some ⟨W.heap.size + 6, 0, none⟩)] wr fun e w' => e = .returned (.tuple #[]) ∧ ∃ Z' ep2 mem2 ext2, BgI w0 W Z sa j p x (bgR xs j p x 10) w' Z' ep2 mem2 ext2 := by
  refine (do_5 (R := bgR xs j p x 9) (f := fun a ys => dvF ys (a.getD 2 0) lbInit) hI.la hI.bg hB (i := 5) (q := 10) (by omega) (by omega) (bgb_at (by rw [hI.l11]; omega)) (fun a => ep.set 10 a) (fun _ => mem) (fun _ => ext) (fun a e k _ h1 h2 => bgb_ep h1 h2) (fun a e => bgb_set 10) (fun h0 => by have hk := hI.ok h0; have := cl_5 hI.la hT hI.bg (by rw [hk.1]; exact i64_getD (hI.i64 h0) 2) hI.l11 ht; rw [hk.1] at this; exact this)).mono ?_
  intro e w' hd
  have := hI.next hd (sb_dv _ _) (fun a => by rw [List.length_set]; exact hI.l11) (fun h0 a => by
    obtain ⟨e1, e2, e3⟩ := hI.ok h0
    have hl : (bgR xs j p x 9).2.1.length = 9 := run_len ((bgS j p x).take 9) xs [] h0
    clear hd hI
    generalize (bgR xs j p x 9).2.1 = acc at *
    refine ⟨?_, ?_, ?_⟩
    · try dsimp only
      rw [e1]; simp [epL, getD_snoc hl, -List.getD_eq_getElem?_getD]
    · try dsimp only
      rw [e2, getD_snoc hl]; rfl
    · try dsimp only
      rw [e3, getD_snoc hl]; rfl)
  rwa [← run_take (fs := bgS j p x) (k := 9) rfl] at this
theorem st_10 (hT : Tb w0.heap.size w0) (hB : w0.heap.size ≤ W.heap.size) {wr : World} {Zr : Nat → Prop} {ep : List Int} {mem ext : Int} (hI : BgI w0 W Z sa j p x (bgR xs j p x 10) wr Zr ep mem ext) {tb : Nat} (ht : wr.cell? ⟨tb, 1, none⟩ = some (.string lbExternal)) :
    Calls Tryz.prog 108 #[.pointer (some ⟨W.heap.size + 8, 0, none⟩), .func (.func 113) #[] #[.pointer (some ⟨W.heap.size, 0, none⟩), .pointer (some ⟨W.heap.size + 5, 0, none⟩), .pointer (some ⟨tb, 0, none⟩)], .pointer (some ⟨W.heap.size + 6, 0, none⟩)] wr fun e w' => e = .returned (.tuple #[]) ∧ ∃ Z' ep2 mem2 ext2, BgI w0 W Z sa j p x (bgR xs j p x 11) w' Z' ep2 mem2 ext2 := by
  refine (do_5 (R := bgR xs j p x 10) (f := fun a ys => dvF ys (a.getD 2 0) lbExternal) hI.la hI.bg hB (i := 8) (q := 0) (by omega) (by omega) rfl (fun _ => ep) (fun _ => mem) (fun a => a) (fun a e k _ h1 h2 => bgb_ext h1 h2) (fun a e => rfl) (fun h0 => by have hk := hI.ok h0; have := cl_5 hI.la hT hI.bg (by rw [hk.1]; exact i64_getD (hI.i64 h0) 2) hI.l11 ht; rw [hk.1] at this; exact this)).mono ?_
  intro e w' hd
  have := hI.next hd (sb_dv _ _) (fun a => by exact hI.l11) (fun h0 a => by
    obtain ⟨e1, e2, e3⟩ := hI.ok h0
    have hl : (bgR xs j p x 10).2.1.length = 10 := run_len ((bgS j p x).take 10) xs [] h0
    clear hd hI
    generalize (bgR xs j p x 10).2.1 = acc at *
    refine ⟨?_, ?_, ?_⟩
    · try dsimp only
      rw [e1]; simp [epL, getD_snoc hl, -List.getD_eq_getElem?_getD]
    · try dsimp only
      rw [e2, getD_snoc hl]; rfl
    · try dsimp only
      rw [getD_snoc hl]; rfl)
  rwa [← run_take (fs := bgS j p x) (k := 10) rfl] at this
theorem st_11 (hT : Tb w0.heap.size w0) (hB : w0.heap.size ≤ W.heap.size) {wr : World} {Zr : Nat → Prop} {ep : List Int} {mem ext : Int} (hI : BgI w0 W Z sa j p x (bgR xs j p x 11) wr Zr ep mem ext) :
    Calls Tryz.prog 108 #[.pointer (some ⟨W.heap.size + 5, 9, none⟩), .func (.func 114) #[] #[.pointer (some ⟨W.heap.size, 0, none⟩), .pointer (some ⟨W.heap.size + 8, 0, none⟩)], .pointer (some ⟨W.heap.size + 6, 0, none⟩)] wr fun e w' => e = .returned (.tuple #[]) ∧ ∃ Z' ep2 mem2 ext2, BgI w0 W Z sa j p x (bgR xs j p x 12) w' Z' ep2 mem2 ext2 := by
  refine (do_6 (R := bgR xs j p x 11) (f := fun a ys => pbF ys (a.getD 10 0)) hI.la hI.bg hB (i := 5) (q := 9) (by omega) (by omega) (bgb_at (by rw [hI.l11]; omega)) (fun a => ep.set 9 a) (fun _ => mem) (fun _ => ext) (fun a e k _ h1 h2 => bgb_ep h1 h2) (fun a e => bgb_set 9) (fun h0 => by have hk := hI.ok h0; have := cl_6 hI.la hT hI.bg (by rw [hk.2.2]; exact i64_getD (hI.i64 h0) 10); rw [hk.2.2] at this; exact this)).mono ?_
  intro e w' hd
  have := hI.next hd (sb_pb _) (fun a => by rw [List.length_set]; exact hI.l11) (fun h0 a => by
    obtain ⟨e1, e2, e3⟩ := hI.ok h0
    have hl : (bgR xs j p x 11).2.1.length = 11 := run_len ((bgS j p x).take 11) xs [] h0
    clear hd hI
    generalize (bgR xs j p x 11).2.1 = acc at *
    refine ⟨?_, ?_, ?_⟩
    · try dsimp only
      rw [e1]; simp [epL, getD_snoc hl, -List.getD_eq_getElem?_getD]
    · try dsimp only
      rw [e2, getD_snoc hl]; rfl
    · try dsimp only
      rw [e3, getD_snoc hl]; rfl)
  rwa [← run_take (fs := bgS j p x) (k := 11) rfl] at this
end
end Go.Proofs.YtfmkniakfgpgjaaGreatDoor

/- schedule: Begin walked whole. -/
namespace Go.Proofs.YtfmkniakfgpgjaaGreatDoor
open Go.RowKit Go.KK Go.Shelf Go.Maps
set_option linter.unusedVariables false
set_option linter.unusedSimpArgs false

theorem len11 {l : List Int} (h : l.length = 11) : ∃ e0 e1 e2 e3 e4 e5 e6 e7 e8 e9 e10 : Int, l = [e0, e1, e2, e3, e4, e5, e6, e7, e8, e9, e10] := by
  match l, h with
  | [e0, e1, e2, e3, e4, e5, e6, e7, e8, e9, e10], _ => exact ⟨e0, e1, e2, e3, e4, e5, e6, e7, e8, e9, e10, rfl⟩
theorem idx8 (H : Nat) (w : World) : (Instr.index 157 (.agg #[.pointer (some ⟨H + 5, 3, none⟩), .string ⟨#[115, 101, 110, 100, 101, 114]⟩, .pointer (some ⟨H + 5, 4, none⟩), .string ⟨#[101, 110, 99, 114, 121, 112, 116, 105, 111, 110]⟩, .pointer (some ⟨H + 5, 5, none⟩), .string ⟨#[101, 120, 112, 111, 114, 116, 101, 114]⟩, .pointer (some ⟨H + 5, 6, none⟩), .string ⟨#[99, 111, 110, 102, 105, 114, 109]⟩, .pointer (some ⟨H + 5, 7, none⟩), .string ⟨#[109, 101, 109, 98, 101, 114, 115, 104, 105, 112]⟩, .pointer (some ⟨H + 5, 8, none⟩), .string ⟨#[114, 101, 115, 117, 109, 112, 116, 105, 111, 110]⟩, .pointer (some ⟨H + 5, 10, none⟩), .string ⟨#[105, 110, 105, 116]⟩, .pointer (some ⟨H + 8, 0, none⟩), .string ⟨#[101, 120, 116, 101, 114, 110, 97, 108]⟩]) (.int .i64 0)).run Tryz.prog w = .ok (.agg #[.pointer (some ⟨H + 5, 3, none⟩), .string ⟨#[115, 101, 110, 100, 101, 114]⟩]) w ∧ (Instr.index 157 (.agg #[.pointer (some ⟨H + 5, 3, none⟩), .string ⟨#[115, 101, 110, 100, 101, 114]⟩, .pointer (some ⟨H + 5, 4, none⟩), .string ⟨#[101, 110, 99, 114, 121, 112, 116, 105, 111, 110]⟩, .pointer (some ⟨H + 5, 5, none⟩), .string ⟨#[101, 120, 112, 111, 114, 116, 101, 114]⟩, .pointer (some ⟨H + 5, 6, none⟩), .string ⟨#[99, 111, 110, 102, 105, 114, 109]⟩, .pointer (some ⟨H + 5, 7, none⟩), .string ⟨#[109, 101, 109, 98, 101, 114, 115, 104, 105, 112]⟩, .pointer (some ⟨H + 5, 8, none⟩), .string ⟨#[114, 101, 115, 117, 109, 112, 116, 105, 111, 110]⟩, .pointer (some ⟨H + 5, 10, none⟩), .string ⟨#[105, 110, 105, 116]⟩, .pointer (some ⟨H + 8, 0, none⟩), .string ⟨#[101, 120, 116, 101, 114, 110, 97, 108]⟩]) (.int .i64 1)).run Tryz.prog w = .ok (.agg #[.pointer (some ⟨H + 5, 4, none⟩), .string ⟨#[101, 110, 99, 114, 121, 112, 116, 105, 111, 110]⟩]) w ∧ (Instr.index 157 (.agg #[.pointer (some ⟨H + 5, 3, none⟩), .string ⟨#[115, 101, 110, 100, 101, 114]⟩, .pointer (some ⟨H + 5, 4, none⟩), .string ⟨#[101, 110, 99, 114, 121, 112, 116, 105, 111, 110]⟩, .pointer (some ⟨H + 5, 5, none⟩), .string ⟨#[101, 120, 112, 111, 114, 116, 101, 114]⟩, .pointer (some ⟨H + 5, 6, none⟩), .string ⟨#[99, 111, 110, 102, 105, 114, 109]⟩, .pointer (some ⟨H + 5, 7, none⟩), .string ⟨#[109, 101, 109, 98, 101, 114, 115, 104, 105, 112]⟩, .pointer (some ⟨H + 5, 8, none⟩), .string ⟨#[114, 101, 115, 117, 109, 112, 116, 105, 111, 110]⟩, .pointer (some ⟨H + 5, 10, none⟩), .string ⟨#[105, 110, 105, 116]⟩, .pointer (some ⟨H + 8, 0, none⟩), .string ⟨#[101, 120, 116, 101, 114, 110, 97, 108]⟩]) (.int .i64 2)).run Tryz.prog w = .ok (.agg #[.pointer (some ⟨H + 5, 5, none⟩), .string ⟨#[101, 120, 112, 111, 114, 116, 101, 114]⟩]) w ∧ (Instr.index 157 (.agg #[.pointer (some ⟨H + 5, 3, none⟩), .string ⟨#[115, 101, 110, 100, 101, 114]⟩, .pointer (some ⟨H + 5, 4, none⟩), .string ⟨#[101, 110, 99, 114, 121, 112, 116, 105, 111, 110]⟩, .pointer (some ⟨H + 5, 5, none⟩), .string ⟨#[101, 120, 112, 111, 114, 116, 101, 114]⟩, .pointer (some ⟨H + 5, 6, none⟩), .string ⟨#[99, 111, 110, 102, 105, 114, 109]⟩, .pointer (some ⟨H + 5, 7, none⟩), .string ⟨#[109, 101, 109, 98, 101, 114, 115, 104, 105, 112]⟩, .pointer (some ⟨H + 5, 8, none⟩), .string ⟨#[114, 101, 115, 117, 109, 112, 116, 105, 111, 110]⟩, .pointer (some ⟨H + 5, 10, none⟩), .string ⟨#[105, 110, 105, 116]⟩, .pointer (some ⟨H + 8, 0, none⟩), .string ⟨#[101, 120, 116, 101, 114, 110, 97, 108]⟩]) (.int .i64 3)).run Tryz.prog w = .ok (.agg #[.pointer (some ⟨H + 5, 6, none⟩), .string ⟨#[99, 111, 110, 102, 105, 114, 109]⟩]) w ∧ (Instr.index 157 (.agg #[.pointer (some ⟨H + 5, 3, none⟩), .string ⟨#[115, 101, 110, 100, 101, 114]⟩, .pointer (some ⟨H + 5, 4, none⟩), .string ⟨#[101, 110, 99, 114, 121, 112, 116, 105, 111, 110]⟩, .pointer (some ⟨H + 5, 5, none⟩), .string ⟨#[101, 120, 112, 111, 114, 116, 101, 114]⟩, .pointer (some ⟨H + 5, 6, none⟩), .string ⟨#[99, 111, 110, 102, 105, 114, 109]⟩, .pointer (some ⟨H + 5, 7, none⟩), .string ⟨#[109, 101, 109, 98, 101, 114, 115, 104, 105, 112]⟩, .pointer (some ⟨H + 5, 8, none⟩), .string ⟨#[114, 101, 115, 117, 109, 112, 116, 105, 111, 110]⟩, .pointer (some ⟨H + 5, 10, none⟩), .string ⟨#[105, 110, 105, 116]⟩, .pointer (some ⟨H + 8, 0, none⟩), .string ⟨#[101, 120, 116, 101, 114, 110, 97, 108]⟩]) (.int .i64 4)).run Tryz.prog w = .ok (.agg #[.pointer (some ⟨H + 5, 7, none⟩), .string ⟨#[109, 101, 109, 98, 101, 114, 115, 104, 105, 112]⟩]) w ∧ (Instr.index 157 (.agg #[.pointer (some ⟨H + 5, 3, none⟩), .string ⟨#[115, 101, 110, 100, 101, 114]⟩, .pointer (some ⟨H + 5, 4, none⟩), .string ⟨#[101, 110, 99, 114, 121, 112, 116, 105, 111, 110]⟩, .pointer (some ⟨H + 5, 5, none⟩), .string ⟨#[101, 120, 112, 111, 114, 116, 101, 114]⟩, .pointer (some ⟨H + 5, 6, none⟩), .string ⟨#[99, 111, 110, 102, 105, 114, 109]⟩, .pointer (some ⟨H + 5, 7, none⟩), .string ⟨#[109, 101, 109, 98, 101, 114, 115, 104, 105, 112]⟩, .pointer (some ⟨H + 5, 8, none⟩), .string ⟨#[114, 101, 115, 117, 109, 112, 116, 105, 111, 110]⟩, .pointer (some ⟨H + 5, 10, none⟩), .string ⟨#[105, 110, 105, 116]⟩, .pointer (some ⟨H + 8, 0, none⟩), .string ⟨#[101, 120, 116, 101, 114, 110, 97, 108]⟩]) (.int .i64 5)).run Tryz.prog w = .ok (.agg #[.pointer (some ⟨H + 5, 8, none⟩), .string ⟨#[114, 101, 115, 117, 109, 112, 116, 105, 111, 110]⟩]) w ∧ (Instr.index 157 (.agg #[.pointer (some ⟨H + 5, 3, none⟩), .string ⟨#[115, 101, 110, 100, 101, 114]⟩, .pointer (some ⟨H + 5, 4, none⟩), .string ⟨#[101, 110, 99, 114, 121, 112, 116, 105, 111, 110]⟩, .pointer (some ⟨H + 5, 5, none⟩), .string ⟨#[101, 120, 112, 111, 114, 116, 101, 114]⟩, .pointer (some ⟨H + 5, 6, none⟩), .string ⟨#[99, 111, 110, 102, 105, 114, 109]⟩, .pointer (some ⟨H + 5, 7, none⟩), .string ⟨#[109, 101, 109, 98, 101, 114, 115, 104, 105, 112]⟩, .pointer (some ⟨H + 5, 8, none⟩), .string ⟨#[114, 101, 115, 117, 109, 112, 116, 105, 111, 110]⟩, .pointer (some ⟨H + 5, 10, none⟩), .string ⟨#[105, 110, 105, 116]⟩, .pointer (some ⟨H + 8, 0, none⟩), .string ⟨#[101, 120, 116, 101, 114, 110, 97, 108]⟩]) (.int .i64 6)).run Tryz.prog w = .ok (.agg #[.pointer (some ⟨H + 5, 10, none⟩), .string ⟨#[105, 110, 105, 116]⟩]) w ∧ (Instr.index 157 (.agg #[.pointer (some ⟨H + 5, 3, none⟩), .string ⟨#[115, 101, 110, 100, 101, 114]⟩, .pointer (some ⟨H + 5, 4, none⟩), .string ⟨#[101, 110, 99, 114, 121, 112, 116, 105, 111, 110]⟩, .pointer (some ⟨H + 5, 5, none⟩), .string ⟨#[101, 120, 112, 111, 114, 116, 101, 114]⟩, .pointer (some ⟨H + 5, 6, none⟩), .string ⟨#[99, 111, 110, 102, 105, 114, 109]⟩, .pointer (some ⟨H + 5, 7, none⟩), .string ⟨#[109, 101, 109, 98, 101, 114, 115, 104, 105, 112]⟩, .pointer (some ⟨H + 5, 8, none⟩), .string ⟨#[114, 101, 115, 117, 109, 112, 116, 105, 111, 110]⟩, .pointer (some ⟨H + 5, 10, none⟩), .string ⟨#[105, 110, 105, 116]⟩, .pointer (some ⟨H + 8, 0, none⟩), .string ⟨#[101, 120, 116, 101, 114, 110, 97, 108]⟩]) (.int .i64 7)).run Tryz.prog w = .ok (.agg #[.pointer (some ⟨H + 8, 0, none⟩), .string ⟨#[101, 120, 116, 101, 114, 110, 97, 108]⟩]) w :=
  ⟨by kernel_rfl, by kernel_rfl, by kernel_rfl, by kernel_rfl, by kernel_rfl, by kernel_rfl, by kernel_rfl, by kernel_rfl⟩
theorem lm_set {w0 W U : World} {Z Zr : Nat → Prop} {sa b o : Nat} {X : List ND} {v : Value} (h : LA w0 U Zr sa X ∧ Mv Z W Zr U) (hz : ¬ Zr b) (hb : W.heap.size ≤ b) (hw : w0.heap.size ≤ W.heap.size) : LA w0 (U.setCell ⟨b, o, none⟩ v) Zr sa X ∧ Mv Z W Zr (U.setCell ⟨b, o, none⟩ v) :=
  ⟨h.1.put1 v hz (Nat.le_trans hw hb), h.2.step (H := W.heap.size) (Turn.setCell v (.inl (.inr hb))) (fun _ h => .inl h) (Nat.le_refl _)⟩
theorem lm_drew {w0 W U : World} {Z Zr : Nat → Prop} {sa : Nat} {X : List ND} (h : LA w0 U Zr sa X ∧ Mv Z W Zr U) : LA w0 U.drew Zr sa X ∧ Mv Z W Zr U.drew :=
  ⟨h.1.ext (below_drew (Below.refl _ _)), h.2.trans (Mv.below (below_drew (Below.refl _ _)))⟩
theorem BgI.alloc {w0 W wr : World} {Z Zr : Nat → Prop} {sa : Nat} {j p x : Int} {R : List ND × List Int × Int} {ep : List Int} {mem ext : Int} (h : BgI w0 W Z sa j p x R wr Zr ep mem ext) (o : Obj) : BgI w0 W Z sa j p x R (wr.alloc o) Zr ep mem ext :=
  ⟨h.la.alloc o, h.mv.trans (Mv.alloc Zr wr o), h.bg.mv (Mv.alloc Zr wr o), h.l11, h.i64, h.ok⟩
section
variable {w0 W : World} {Z : Nat → Prop} {sa : Nat} {xs : List ND}
set_option maxHeartbeats 4000000 in
set_option maxRecDepth 100000 in
theorem beg_any (h : LA w0 W Z sa xs) (hT : Tb w0.heap.size w0) {j p x : Int} (hj : I64 j) (hp : I64 p) (hx : I64 x) :
    Calls Tryz.prog 65 #[.pointer (some ⟨sa, 0, none⟩), .int .i64 j, .int .i64 p, .int .i64 x] W (EpS w0 W Z sa (begF xs j p x)) := by
  have HT := hid hT
  have HB := hid h.bl.size
  have HI0 := hid (show ∃ Zr ep mem ext, BgI w0 W Z sa j p x (bgR xs j p x 0) _ Zr ep mem ext from ⟨Z, epL j [], 0, 0, (((((((((h.alloc _).alloc _).alloc _).alloc _).alloc _).alloc _).alloc _).alloc _).alloc _), ((((((((Mv.alloc Z W _).trans (Mv.alloc Z _ _)).trans (Mv.alloc Z _ _)).trans (Mv.alloc Z _ _)).trans (Mv.alloc Z _ _)).trans (Mv.alloc Z _ _)).trans (Mv.alloc Z _ _)).trans (Mv.alloc Z _ _)).trans (Mv.alloc Z _ _), bg_new h, rfl, fun _ a ha => absurd (show a ∈ ([] : List Int) from ha) (by simp), fun _ => ⟨rfl, rfl, rfl⟩⟩)
  clear h hT
  go_enter Tryz.func65, Tryz.ntmps65
  go_upto_region 5 with fail
  simp only [Nat.add_assoc, Nat.reduceAdd]
  refine forget (R := fun V => ∃ Zr ep mem ext, BgI w0 W Z sa j p x (bgR xs j p x 0) V Zr ep mem ext) ?_ HI0.out
  clear HI0
  rintro V ⟨Zr, ep, mem, ext, hI⟩
  have HI := hid hI
  clear hI
  go_wp2_with fail
  refine (st_0 HT.out HB.out hj hp HI.out).mono ?_
  rintro e V0 ⟨rfl, Z0, ep, mem, ext, hI⟩
  clear HI
  have HI := hid hI
  clear hI
  go_wp2_with fail
  refine (st_1 HT.out HB.out HI.out).mono ?_
  rintro e V1 ⟨rfl, Z1, ep, mem, ext, hI⟩
  clear HI
  have HI := hid hI
  clear hI
  go_wp2_with fail
  refine (st_2 HT.out HB.out hx HI.out).mono ?_
  rintro e V2 ⟨rfl, Z2, ep, mem, ext, hI⟩
  clear HI
  have HI := hid hI
  clear hI
  go_wp2_with fail
  go_loopw [47] (fun v wr => ∃ k : Nat, v = .int .i64 k ∧ k ≤ 8 ∧ ∃ Zr ep mem ext, BgI w0 W Z sa j p x (bgR xs j p x (3 + k)) wr Zr ep mem ext) (fun v _ => 8 - (intOf v).toNat)
  case atStart => exact ⟨0, rfl, by omega, Z2, ep, mem, ext, HI.out⟩
  case round =>
    clear HI
    obtain ⟨k, hv, hk, Zr, ep, mem, ext, hI⟩ := hrel
    have HI := hid hI
    clear hI
    have hkc : k = 0 ∨ k = 1 ∨ k = 2 ∨ k = 3 ∨ k = 4 ∨ k = 5 ∨ k = 6 ∨ k = 7 ∨ k = 8 := by omega
    clear hk
    rcases hkc with rfl | rfl | rfl | rfl | rfl | rfl | rfl | rfl | rfl
    · have hv' : u47 = .int .i64 0 := hv
      clear hv
      subst hv'
      have HA := hid (HI.out.alloc (.cells #[.pointer (some ⟨W.heap.size + 5, 3, none⟩), .string lbSender] 156))
      have ct : (wr.alloc (.cells #[.pointer (some ⟨W.heap.size + 5, 3, none⟩), .string lbSender] 156)).cell? ⟨wr.heap.size, 1, none⟩ = some (.string lbSender) := by rw [World.cell?_alloc_at _ _ _ _ rfl]; rfl
      have HC := hid ct
      clear ct HI
      have hix := fun w => (idx8 W.heap.size w).1
      go_wp2_with fail
      refine (st_3 HT.out HB.out HA.out HC.out).mono ?_
      rintro e V3 ⟨rfl, Z3, ep, mem, ext, hI⟩
      have HI := hid hI
      clear hI HA HC
      go_wp2_with fail
      go_roundw
      case rel => exact ⟨1, rfl, by omega, Z3, ep, mem, ext, HI.out⟩
      case measure => simp [intOf]
    · have hv' : u47 = .int .i64 1 := hv
      clear hv
      subst hv'
      have HA := hid (HI.out.alloc (.cells #[.pointer (some ⟨W.heap.size + 5, 4, none⟩), .string lbEncryption] 156))
      have ct : (wr.alloc (.cells #[.pointer (some ⟨W.heap.size + 5, 4, none⟩), .string lbEncryption] 156)).cell? ⟨wr.heap.size, 1, none⟩ = some (.string lbEncryption) := by rw [World.cell?_alloc_at _ _ _ _ rfl]; rfl
      have HC := hid ct
      clear ct HI
      have hix := fun w => (idx8 W.heap.size w).2.1
      go_wp2_with fail
      refine (st_4 HT.out HB.out HA.out HC.out).mono ?_
      rintro e V4 ⟨rfl, Z4, ep, mem, ext, hI⟩
      have HI := hid hI
      clear hI HA HC
      go_wp2_with fail
      go_roundw
      case rel => exact ⟨2, rfl, by omega, Z4, ep, mem, ext, HI.out⟩
      case measure => simp [intOf]
    · have hv' : u47 = .int .i64 2 := hv
      clear hv
      subst hv'
      have HA := hid (HI.out.alloc (.cells #[.pointer (some ⟨W.heap.size + 5, 5, none⟩), .string lbExporter] 156))
      have ct : (wr.alloc (.cells #[.pointer (some ⟨W.heap.size + 5, 5, none⟩), .string lbExporter] 156)).cell? ⟨wr.heap.size, 1, none⟩ = some (.string lbExporter) := by rw [World.cell?_alloc_at _ _ _ _ rfl]; rfl
      have HC := hid ct
      clear ct HI
      have hix := fun w => (idx8 W.heap.size w).2.2.1
      go_wp2_with fail
      refine (st_5 HT.out HB.out HA.out HC.out).mono ?_
      rintro e V5 ⟨rfl, Z5, ep, mem, ext, hI⟩
      have HI := hid hI
      clear hI HA HC
      go_wp2_with fail
      go_roundw
      case rel => exact ⟨3, rfl, by omega, Z5, ep, mem, ext, HI.out⟩
      case measure => simp [intOf]
    · have hv' : u47 = .int .i64 3 := hv
      clear hv
      subst hv'
      have HA := hid (HI.out.alloc (.cells #[.pointer (some ⟨W.heap.size + 5, 6, none⟩), .string lbConfirm] 156))
      have ct : (wr.alloc (.cells #[.pointer (some ⟨W.heap.size + 5, 6, none⟩), .string lbConfirm] 156)).cell? ⟨wr.heap.size, 1, none⟩ = some (.string lbConfirm) := by rw [World.cell?_alloc_at _ _ _ _ rfl]; rfl
      have HC := hid ct
      clear ct HI
      have hix := fun w => (idx8 W.heap.size w).2.2.2.1
      go_wp2_with fail
      refine (st_6 HT.out HB.out HA.out HC.out).mono ?_
      rintro e V6 ⟨rfl, Z6, ep, mem, ext, hI⟩
      have HI := hid hI
      clear hI HA HC
      go_wp2_with fail
      go_roundw
      case rel => exact ⟨4, rfl, by omega, Z6, ep, mem, ext, HI.out⟩
      case measure => simp [intOf]
    · have hv' : u47 = .int .i64 4 := hv
      clear hv
      subst hv'
      have HA := hid (HI.out.alloc (.cells #[.pointer (some ⟨W.heap.size + 5, 7, none⟩), .string lbMembership] 156))
      have ct : (wr.alloc (.cells #[.pointer (some ⟨W.heap.size + 5, 7, none⟩), .string lbMembership] 156)).cell? ⟨wr.heap.size, 1, none⟩ = some (.string lbMembership) := by rw [World.cell?_alloc_at _ _ _ _ rfl]; rfl
      have HC := hid ct
      clear ct HI
      have hix := fun w => (idx8 W.heap.size w).2.2.2.2.1
      go_wp2_with fail
      refine (st_7 HT.out HB.out HA.out HC.out).mono ?_
      rintro e V7 ⟨rfl, Z7, ep, mem, ext, hI⟩
      have HI := hid hI
      clear hI HA HC
      go_wp2_with fail
      go_roundw
      case rel => exact ⟨5, rfl, by omega, Z7, ep, mem, ext, HI.out⟩
      case measure => simp [intOf]
    · have hv' : u47 = .int .i64 5 := hv
      clear hv
      subst hv'
      have HA := hid (HI.out.alloc (.cells #[.pointer (some ⟨W.heap.size + 5, 8, none⟩), .string lbResumption] 156))
      have ct : (wr.alloc (.cells #[.pointer (some ⟨W.heap.size + 5, 8, none⟩), .string lbResumption] 156)).cell? ⟨wr.heap.size, 1, none⟩ = some (.string lbResumption) := by rw [World.cell?_alloc_at _ _ _ _ rfl]; rfl
      have HC := hid ct
      clear ct HI
      have hix := fun w => (idx8 W.heap.size w).2.2.2.2.2.1
      go_wp2_with fail
      refine (st_8 HT.out HB.out HA.out HC.out).mono ?_
      rintro e V8 ⟨rfl, Z8, ep, mem, ext, hI⟩
      have HI := hid hI
      clear hI HA HC
      go_wp2_with fail
      go_roundw
      case rel => exact ⟨6, rfl, by omega, Z8, ep, mem, ext, HI.out⟩
      case measure => simp [intOf]
    · have hv' : u47 = .int .i64 6 := hv
      clear hv
      subst hv'
      have HA := hid (HI.out.alloc (.cells #[.pointer (some ⟨W.heap.size + 5, 10, none⟩), .string lbInit] 156))
      have ct : (wr.alloc (.cells #[.pointer (some ⟨W.heap.size + 5, 10, none⟩), .string lbInit] 156)).cell? ⟨wr.heap.size, 1, none⟩ = some (.string lbInit) := by rw [World.cell?_alloc_at _ _ _ _ rfl]; rfl
      have HC := hid ct
      clear ct HI
      have hix := fun w => (idx8 W.heap.size w).2.2.2.2.2.2.1
      go_wp2_with fail
      refine (st_9 HT.out HB.out HA.out HC.out).mono ?_
      rintro e V9 ⟨rfl, Z9, ep, mem, ext, hI⟩
      have HI := hid hI
      clear hI HA HC
      go_wp2_with fail
      go_roundw
      case rel => exact ⟨7, rfl, by omega, Z9, ep, mem, ext, HI.out⟩
      case measure => simp [intOf]
    · have hv' : u47 = .int .i64 7 := hv
      clear hv
      subst hv'
      have HA := hid (HI.out.alloc (.cells #[.pointer (some ⟨W.heap.size + 8, 0, none⟩), .string lbExternal] 156))
      have ct : (wr.alloc (.cells #[.pointer (some ⟨W.heap.size + 8, 0, none⟩), .string lbExternal] 156)).cell? ⟨wr.heap.size, 1, none⟩ = some (.string lbExternal) := by rw [World.cell?_alloc_at _ _ _ _ rfl]; rfl
      have HC := hid ct
      clear ct HI
      have hix := fun w => (idx8 W.heap.size w).2.2.2.2.2.2.2
      go_wp2_with fail
      refine (st_10 HT.out HB.out HA.out HC.out).mono ?_
      rintro e V10 ⟨rfl, Z10, ep, mem, ext, hI⟩
      have HI := hid hI
      clear hI HA HC
      go_wp2_with fail
      go_roundw
      case rel => exact ⟨8, rfl, by omega, Z10, ep, mem, ext, HI.out⟩
      case measure => simp [intOf]
    · have hv' : u47 = .int .i64 8 := hv
      clear hv
      subst hv'
      go_wp2_with fail
      refine (st_11 HT.out HB.out HI.out).mono ?_
      rintro e V11 ⟨rfl, Z11, ep2, mem2, ext2, hI⟩
      clear HI
      have HI := hid hI
      clear hI ep mem ext
      have cf := HI.out.bg.cell (k := 6) (o := 0) (v := .int .i64 (bgR xs j p x 12).2.2) (by omega) rfl
      have r0 := HI.out.bg.cell (k := 4) (o := 0) (v := .int .i64 0) (by omega) rfl
      have f0 := HI.out.bg.frozen (k := 4) (o := 0) (by omega)
      have r1 := HI.out.bg.cell (k := 4) (o := 1) (v := .int .i64 0) (by omega) rfl
      have f1 := HI.out.bg.frozen (k := 4) (o := 1) (by omega)
      have r2 := HI.out.bg.cell (k := 4) (o := 2) (v := .int .i64 0) (by omega) rfl
      have f2 := HI.out.bg.frozen (k := 4) (o := 2) (by omega)
      have r3 := HI.out.bg.cell (k := 4) (o := 3) (v := .int .i64 0) (by omega) rfl
      have f3 := HI.out.bg.frozen (k := 4) (o := 3) (by omega)
      have r4 := HI.out.bg.cell (k := 4) (o := 4) (v := .int .i64 0) (by omega) rfl
      have f4 := HI.out.bg.frozen (k := 4) (o := 4) (by omega)
      have r5 := HI.out.bg.cell (k := 4) (o := 5) (v := .int .i64 0) (by omega) rfl
      have f5 := HI.out.bg.frozen (k := 4) (o := 5) (by omega)
      have r6 := HI.out.bg.cell (k := 4) (o := 6) (v := .int .i64 0) (by omega) rfl
      have f6 := HI.out.bg.frozen (k := 4) (o := 6) (by omega)
      have r7 := HI.out.bg.cell (k := 4) (o := 7) (v := .int .i64 0) (by omega) rfl
      have f7 := HI.out.bg.frozen (k := 4) (o := 7) (by omega)
      have r8 := HI.out.bg.cell (k := 4) (o := 8) (v := .int .i64 0) (by omega) rfl
      have f8 := HI.out.bg.frozen (k := 4) (o := 8) (by omega)
      have r9 := HI.out.bg.cell (k := 4) (o := 9) (v := .int .i64 0) (by omega) rfl
      have f9 := HI.out.bg.frozen (k := 4) (o := 9) (by omega)
      have r10 := HI.out.bg.cell (k := 4) (o := 10) (v := .int .i64 0) (by omega) rfl
      have f10 := HI.out.bg.frozen (k := 4) (o := 10) (by omega)
      by_cases h0 : (bgR xs j p x 12).2.2 = 0
      · obtain ⟨e0, e1, e2, e3, e4, e5, e6, e7, e8, e9, e10, rfl⟩ := len11 HI.out.l11
        rw [h0] at cf
        have o0 := HI.out.bg.cell (k := 5) (o := 0) (v := .int .i64 e0) (by omega) rfl
        have o1 := HI.out.bg.cell (k := 5) (o := 1) (v := .int .i64 e1) (by omega) rfl
        have o2 := HI.out.bg.cell (k := 5) (o := 2) (v := .int .i64 e2) (by omega) rfl
        have o3 := HI.out.bg.cell (k := 5) (o := 3) (v := .int .i64 e3) (by omega) rfl
        have o4 := HI.out.bg.cell (k := 5) (o := 4) (v := .int .i64 e4) (by omega) rfl
        have o5 := HI.out.bg.cell (k := 5) (o := 5) (v := .int .i64 e5) (by omega) rfl
        have o6 := HI.out.bg.cell (k := 5) (o := 6) (v := .int .i64 e6) (by omega) rfl
        have o7 := HI.out.bg.cell (k := 5) (o := 7) (v := .int .i64 e7) (by omega) rfl
        have o8 := HI.out.bg.cell (k := 5) (o := 8) (v := .int .i64 e8) (by omega) rfl
        have o9 := HI.out.bg.cell (k := 5) (o := 9) (v := .int .i64 e9) (by omega) rfl
        have o10 := HI.out.bg.cell (k := 5) (o := 10) (v := .int .i64 e10) (by omega) rfl
        have HBE := hid (show begF xs j p x = ((bgR xs j p x 12).1, [e0, e1, e2, e3, e4, e5, e6, e7, e8, e9, e10], 0) by
          have hk := (HI.out.ok h0).1
          unfold begF
          rw [if_pos (show (bgF xs j p x).2.2 = 0 from h0)]
          rw [hk]; rfl)
        have HX := hid (And.intro HI.out.la HI.out.mv)
        have HNZ := hid (HI.out.bg.nz 4 (by omega))
        clear HI h0
        go_wp2_with fail
        refine bodyPost_ret (v := .tuple #[.agg #[.int .i64 e0, .int .i64 e1, .int .i64 e2, .int .i64 e3, .int .i64 e4, .int .i64 e5, .int .i64 e6, .int .i64 e7, .int .i64 e8, .int .i64 e9, .int .i64 e10], .int .i64 0]) ?_ rfl (show EpS _ _ _ _ _ _ _ from ⟨Z11, by rw [HBE.out]; rfl, ?_⟩)
        · rw [results_cell_tmp rfl]
          go_simp
        · rw [HBE.out]
          iterate 11 refine lm_set ?_ HNZ.out (Nat.le_add_right _ _) HB.out
          exact HX.out
      · have hne : ((bgR xs j p x 12).2.2 != 0) = true := bne_iff_ne.2 h0
        have HBE := hid (show begF xs j p x = ((bgR xs j p x 12).1, epZ, (bgR xs j p x 12).2.2) by
          unfold begF
          rw [if_neg (show ¬ (bgF xs j p x).2.2 = 0 from h0)]; rfl)
        have HX := hid (And.intro HI.out.la HI.out.mv)
        have HNZ := hid (HI.out.bg.nz 4 (by omega))
        clear HI h0
        generalize (bgR xs j p x 12).2.2 = er at *
        go_upto_region 15 with fail
        have d0 : V11.drew.cell? ⟨W.heap.size + 4, 0, none⟩ = some (.int .i64 0) := r0
        have g0 : V11.drew.frozen? ⟨W.heap.size + 4, 0, none⟩ = false := f0
        have d1 : V11.drew.cell? ⟨W.heap.size + 4, 1, none⟩ = some (.int .i64 0) := r1
        have g1 : V11.drew.frozen? ⟨W.heap.size + 4, 1, none⟩ = false := f1
        have d2 : V11.drew.cell? ⟨W.heap.size + 4, 2, none⟩ = some (.int .i64 0) := r2
        have g2 : V11.drew.frozen? ⟨W.heap.size + 4, 2, none⟩ = false := f2
        have d3 : V11.drew.cell? ⟨W.heap.size + 4, 3, none⟩ = some (.int .i64 0) := r3
        have g3 : V11.drew.frozen? ⟨W.heap.size + 4, 3, none⟩ = false := f3
        have d4 : V11.drew.cell? ⟨W.heap.size + 4, 4, none⟩ = some (.int .i64 0) := r4
        have g4 : V11.drew.frozen? ⟨W.heap.size + 4, 4, none⟩ = false := f4
        have d5 : V11.drew.cell? ⟨W.heap.size + 4, 5, none⟩ = some (.int .i64 0) := r5
        have g5 : V11.drew.frozen? ⟨W.heap.size + 4, 5, none⟩ = false := f5
        have d6 : V11.drew.cell? ⟨W.heap.size + 4, 6, none⟩ = some (.int .i64 0) := r6
        have g6 : V11.drew.frozen? ⟨W.heap.size + 4, 6, none⟩ = false := f6
        have d7 : V11.drew.cell? ⟨W.heap.size + 4, 7, none⟩ = some (.int .i64 0) := r7
        have g7 : V11.drew.frozen? ⟨W.heap.size + 4, 7, none⟩ = false := f7
        have d8 : V11.drew.cell? ⟨W.heap.size + 4, 8, none⟩ = some (.int .i64 0) := r8
        have g8 : V11.drew.frozen? ⟨W.heap.size + 4, 8, none⟩ = false := f8
        have d9 : V11.drew.cell? ⟨W.heap.size + 4, 9, none⟩ = some (.int .i64 0) := r9
        have g9 : V11.drew.frozen? ⟨W.heap.size + 4, 9, none⟩ = false := f9
        have d10 : V11.drew.cell? ⟨W.heap.size + 4, 10, none⟩ = some (.int .i64 0) := r10
        have g10 : V11.drew.frozen? ⟨W.heap.size + 4, 10, none⟩ = false := f10
        go_region
        all_goals
          go_wp2_with fail
          refine bodyPost_ret (v := .tuple #[.agg #[.int .i64 0, .int .i64 0, .int .i64 0, .int .i64 0, .int .i64 0, .int .i64 0, .int .i64 0, .int .i64 0, .int .i64 0, .int .i64 0, .int .i64 0], .int .i64 er]) ?_ rfl (show EpS _ _ _ _ _ _ _ from ⟨Z11, by rw [HBE.out]; rfl, ?_⟩)
          · rw [results_cell_tmp rfl]
            go_simp
          · rw [HBE.out]
            refine lm_drew ?_
            iterate 11 refine lm_set ?_ HNZ.out (Nat.le_add_right _ _) HB.out
            exact HX.out
end
end Go.Proofs.YtfmkniakfgpgjaaGreatDoor

