/- schedule: Begin walked. -/
import Derived.Test.YtkgobglmkhkbbaaGreatDoorUA
namespace Go.Proofs.YtkgobglmkhkbbaaGreatDoor
open Go.RowKit Go.KK Go.Shelf Go.Maps
set_option linter.unusedVariables false
set_option linter.unusedSimpArgs false

section
variable {w0 W : World} {Z : Nat → Prop} {sa : Nat} {xs : List ND} {j p x : Int}
/-- The steps of Begin one by one. -/
abbrev bgR (xs : List ND) (j p x : Int) (n : Nat) : List ND × List Int × Int := runF xs [] ((bgS j p x).take n)
theorem st_0 (hT : Tb w0.heap.size w0) (hB : w0.heap.size ≤ W.heap.size) (hj : I64 j) (hp : I64 p) {wr : World} {Zr : Nat → Prop} {ep : List Int} {mem ext : Int} (hI : BgI w0 W Z sa j p x (bgR xs j p x 0) wr Zr ep mem ext) :
    Calls Tryz.prog 60 #[.pointer (some ⟨W.heap.size + 7, 0, none⟩), .func (.func 61) #[] #[.pointer (some ⟨W.heap.size, 0, none⟩), .pointer (some ⟨W.heap.size + 1, 0, none⟩), .pointer (some ⟨W.heap.size + 2, 0, none⟩)], .pointer (some ⟨W.heap.size + 6, 0, none⟩)] wr fun e w' => e = .returned (.tuple #[]) ∧ ∃ Z' ep2 mem2 ext2, BgI w0 W Z sa j p x (bgR xs j p x 1) w' Z' ep2 mem2 ext2 := by
  refine (do_2 (R := bgR xs j p x 0) (f := fun _ ys => exF ys j p) hI.la hI.bg hB (i := 7) (q := 0) (by omega) (by omega) rfl (fun _ => ep) (fun a => a) (fun _ => ext) (fun a e k _ h1 h2 => bgb_mem h1 h2) (fun a e => rfl) (fun _ => cl_2 hI.la hT hI.bg hj hp)).mono ?_
  intro e w' hd
  have := hI.next hd (sb_ex j p) (fun a => by exact hI.l11) (fun h0 a => by
    obtain ⟨e1, e2, e3⟩ := hI.ok h0
    have hl : (bgR xs j p x 0).2.1.length = 0 := run_len ((bgS j p x).take 0) xs [] h0
    clear hd hI
    generalize (bgR xs j p x 0).2.1 = acc at *
    refine ⟨?_, ?_, ?_⟩
    · try dsimp only
      rw [e1]; simp [epL, getD_snoc hl, -List.getD_eq_getElem?_getD]
    · try dsimp only
      rw [getD_snoc hl]; rfl
    · try dsimp only
      rw [e3, getD_snoc hl]; rfl)
  rwa [← run_take (fs := bgS j p x) (k := 0) rfl] at this
theorem st_1 (hT : Tb w0.heap.size w0) (hB : w0.heap.size ≤ W.heap.size) {wr : World} {Zr : Nat → Prop} {ep : List Int} {mem ext : Int} (hI : BgI w0 W Z sa j p x (bgR xs j p x 1) wr Zr ep mem ext) :
    Calls Tryz.prog 60 #[.pointer (some ⟨W.heap.size + 5, 1, none⟩), .func (.func 62) #[] #[.pointer (some ⟨W.heap.size, 0, none⟩), .pointer (some ⟨W.heap.size + 7, 0, none⟩)], .pointer (some ⟨W.heap.size + 6, 0, none⟩)] wr fun e w' => e = .returned (.tuple #[]) ∧ ∃ Z' ep2 mem2 ext2, BgI w0 W Z sa j p x (bgR xs j p x 2) w' Z' ep2 mem2 ext2 := by
  refine (do_3 (R := bgR xs j p x 1) (f := fun a ys => dvF ys (a.getD 0 0) lbWelcome) hI.la hI.bg hB (i := 5) (q := 1) (by omega) (by omega) (bgb_at (by rw [hI.l11]; omega)) (fun a => ep.set 1 a) (fun _ => mem) (fun _ => ext) (fun a e k _ h1 h2 => bgb_ep h1 h2) (fun a e => bgb_set 1) (fun h0 => by have hk := hI.ok h0; have := cl_3 hI.la hT hI.bg (by rw [hk.2.1]; exact i64_getD (hI.i64 h0) 0); rw [hk.2.1] at this; exact this)).mono ?_
  intro e w' hd
  have := hI.next hd (sb_dv _ _) (fun a => by rw [List.length_set]; exact hI.l11) (fun h0 a => by
    obtain ⟨e1, e2, e3⟩ := hI.ok h0
    have hl : (bgR xs j p x 1).2.1.length = 1 := run_len ((bgS j p x).take 1) xs [] h0
    clear hd hI
    generalize (bgR xs j p x 1).2.1 = acc at *
    refine ⟨?_, ?_, ?_⟩
    · try dsimp only
      rw [e1]; simp [epL, getD_snoc hl, -List.getD_eq_getElem?_getD]
    · try dsimp only
      rw [e2, getD_snoc hl]; rfl
    · try dsimp only
      rw [e3, getD_snoc hl]; rfl)
  rwa [← run_take (fs := bgS j p x) (k := 1) rfl] at this
theorem st_2 (hT : Tb w0.heap.size w0) (hB : w0.heap.size ≤ W.heap.size) (hx : I64 x) {wr : World} {Zr : Nat → Prop} {ep : List Int} {mem ext : Int} (hI : BgI w0 W Z sa j p x (bgR xs j p x 2) wr Zr ep mem ext) :
    Calls Tryz.prog 60 #[.pointer (some ⟨W.heap.size + 5, 2, none⟩), .func (.func 64) #[] #[.pointer (some ⟨W.heap.size, 0, none⟩), .pointer (some ⟨W.heap.size + 7, 0, none⟩), .pointer (some ⟨W.heap.size + 3, 0, none⟩)], .pointer (some ⟨W.heap.size + 6, 0, none⟩)] wr fun e w' => e = .returned (.tuple #[]) ∧ ∃ Z' ep2 mem2 ext2, BgI w0 W Z sa j p x (bgR xs j p x 3) w' Z' ep2 mem2 ext2 := by
  refine (do_4 (R := bgR xs j p x 2) (f := fun a ys => exdF ys (a.getD 0 0) lbEpoch x) hI.la hI.bg hB (i := 5) (q := 2) (by omega) (by omega) (bgb_at (by rw [hI.l11]; omega)) (fun a => ep.set 2 a) (fun _ => mem) (fun _ => ext) (fun a e k _ h1 h2 => bgb_ep h1 h2) (fun a e => bgb_set 2) (fun h0 => by have hk := hI.ok h0; have := cl_4 hI.la hT hI.bg (by rw [hk.2.1]; exact i64_getD (hI.i64 h0) 0) hx; rw [hk.2.1] at this; exact this)).mono ?_
  intro e w' hd
  have := hI.next hd (sb_exd _ _ _) (fun a => by rw [List.length_set]; exact hI.l11) (fun h0 a => by
    obtain ⟨e1, e2, e3⟩ := hI.ok h0
    have hl : (bgR xs j p x 2).2.1.length = 2 := run_len ((bgS j p x).take 2) xs [] h0
    clear hd hI
    generalize (bgR xs j p x 2).2.1 = acc at *
    refine ⟨?_, ?_, ?_⟩
    · try dsimp only
      rw [e1]; simp [epL, getD_snoc hl, -List.getD_eq_getElem?_getD]
    · try dsimp only
      rw [e2, getD_snoc hl]; rfl
    · try dsimp only
      rw [e3, getD_snoc hl]; rfl)
  rwa [← run_take (fs := bgS j p x) (k := 2) rfl] at this
theorem st_3 (hT : Tb w0.heap.size w0) (hB : w0.heap.size ≤ W.heap.size) {wr : World} {Zr : Nat → Prop} {ep : List Int} {mem ext : Int} (hI : BgI w0 W Z sa j p x (bgR xs j p x 3) wr Zr ep mem ext) {tb : Nat} (ht : wr.cell? ⟨tb, 1, none⟩ = some (.string lbSender)) :
    Calls Tryz.prog 60 #[.pointer (some ⟨W.heap.size + 5, 3, none⟩), .func (.func 66) #[] #[.pointer (some ⟨W.heap.size, 0, none⟩), .pointer (some ⟨W.heap.size + 5, 0, none⟩), .pointer (some ⟨tb, 0, none⟩)], .pointer (some ⟨W.heap.size + 6, 0, none⟩)] wr fun e w' => e = .returned (.tuple #[]) ∧ ∃ Z' ep2 mem2 ext2, BgI w0 W Z sa j p x (bgR xs j p x 4) w' Z' ep2 mem2 ext2 := by
  refine (do_5 (R := bgR xs j p x 3) (f := fun a ys => dvF ys (a.getD 2 0) lbSender) hI.la hI.bg hB (i := 5) (q := 3) (by omega) (by omega) (bgb_at (by rw [hI.l11]; omega)) (fun a => ep.set 3 a) (fun _ => mem) (fun _ => ext) (fun a e k _ h1 h2 => bgb_ep h1 h2) (fun a e => bgb_set 3) (fun h0 => by have hk := hI.ok h0; have := cl_5 hI.la hT hI.bg (by rw [hk.1]; exact i64_getD (hI.i64 h0) 2) hI.l11 ht; rw [hk.1] at this; exact this)).mono ?_
  intro e w' hd
  have := hI.next hd (sb_dv _ _) (fun a => by rw [List.length_set]; exact hI.l11) (fun h0 a => by
    obtain ⟨e1, e2, e3⟩ := hI.ok h0
    have hl : (bgR xs j p x 3).2.1.length = 3 := run_len ((bgS j p x).take 3) xs [] h0
    clear hd hI
    generalize (bgR xs j p x 3).2.1 = acc at *
    refine ⟨?_, ?_, ?_⟩
    · try dsimp only
      rw [e1]; simp [epL, getD_snoc hl, -List.getD_eq_getElem?_getD]
    · try dsimp only
      rw [e2, getD_snoc hl]; rfl
    · try dsimp only
      rw [e3, getD_snoc hl]; rfl)
  rwa [← run_take (fs := bgS j p x) (k := 3) rfl] at this
theorem st_4 (hT : Tb w0.heap.size w0) (hB : w0.heap.size ≤ W.heap.size) {wr : World} {Zr : Nat → Prop} {ep : List Int} {mem ext : Int} (hI : BgI w0 W Z sa j p x (bgR xs j p x 4) wr Zr ep mem ext) {tb : Nat} (ht : wr.cell? ⟨tb, 1, none⟩ = some (.string lbEncryption)) :
    Calls Tryz.prog 60 #[.pointer (some ⟨W.heap.size + 5, 4, none⟩), .func (.func 66) #[] #[.pointer (some ⟨W.heap.size, 0, none⟩), .pointer (some ⟨W.heap.size + 5, 0, none⟩), .pointer (some ⟨tb, 0, none⟩)], .pointer (some ⟨W.heap.size + 6, 0, none⟩)] wr fun e w' => e = .returned (.tuple #[]) ∧ ∃ Z' ep2 mem2 ext2, BgI w0 W Z sa j p x (bgR xs j p x 5) w' Z' ep2 mem2 ext2 := by
  refine (do_5 (R := bgR xs j p x 4) (f := fun a ys => dvF ys (a.getD 2 0) lbEncryption) hI.la hI.bg hB (i := 5) (q := 4) (by omega) (by omega) (bgb_at (by rw [hI.l11]; omega)) (fun a => ep.set 4 a) (fun _ => mem) (fun _ => ext) (fun a e k _ h1 h2 => bgb_ep h1 h2) (fun a e => bgb_set 4) (fun h0 => by have hk := hI.ok h0; have := cl_5 hI.la hT hI.bg (by rw [hk.1]; exact i64_getD (hI.i64 h0) 2) hI.l11 ht; rw [hk.1] at this; exact this)).mono ?_
  intro e w' hd
  have := hI.next hd (sb_dv _ _) (fun a => by rw [List.length_set]; exact hI.l11) (fun h0 a => by
    obtain ⟨e1, e2, e3⟩ := hI.ok h0
    have hl : (bgR xs j p x 4).2.1.length = 4 := run_len ((bgS j p x).take 4) xs [] h0
    clear hd hI
    generalize (bgR xs j p x 4).2.1 = acc at *
    refine ⟨?_, ?_, ?_⟩
    · try dsimp only
      rw [e1]; simp [epL, getD_snoc hl, -List.getD_eq_getElem?_getD]
    · try dsimp only
      rw [e2, getD_snoc hl]; rfl
    · try dsimp only
      rw [e3, getD_snoc hl]; rfl)
  rwa [← run_take (fs := bgS j p x) (k := 4) rfl] at this
theorem st_5 (hT : Tb w0.heap.size w0) (hB : w0.heap.size ≤ W.heap.size) {wr : World} {Zr : Nat → Prop} {ep : List Int} {mem ext : Int} (hI : BgI w0 W Z sa j p x (bgR xs j p x 5) wr Zr ep mem ext) {tb : Nat} (ht : wr.cell? ⟨tb, 1, none⟩ = some (.string lbExporter)) :
    Calls Tryz.prog 60 #[.pointer (some ⟨W.heap.size + 5, 5, none⟩), .func (.func 66) #[] #[.pointer (some ⟨W.heap.size, 0, none⟩), .pointer (some ⟨W.heap.size + 5, 0, none⟩), .pointer (some ⟨tb, 0, none⟩)], .pointer (some ⟨W.heap.size + 6, 0, none⟩)] wr fun e w' => e = .returned (.tuple #[]) ∧ ∃ Z' ep2 mem2 ext2, BgI w0 W Z sa j p x (bgR xs j p x 6) w' Z' ep2 mem2 ext2 := by
  refine (do_5 (R := bgR xs j p x 5) (f := fun a ys => dvF ys (a.getD 2 0) lbExporter) hI.la hI.bg hB (i := 5) (q := 5) (by omega) (by omega) (bgb_at (by rw [hI.l11]; omega)) (fun a => ep.set 5 a) (fun _ => mem) (fun _ => ext) (fun a e k _ h1 h2 => bgb_ep h1 h2) (fun a e => bgb_set 5) (fun h0 => by have hk := hI.ok h0; have := cl_5 hI.la hT hI.bg (by rw [hk.1]; exact i64_getD (hI.i64 h0) 2) hI.l11 ht; rw [hk.1] at this; exact this)).mono ?_
  intro e w' hd
  have := hI.next hd (sb_dv _ _) (fun a => by rw [List.length_set]; exact hI.l11) (fun h0 a => by
    obtain ⟨e1, e2, e3⟩ := hI.ok h0
    have hl : (bgR xs j p x 5).2.1.length = 5 := run_len ((bgS j p x).take 5) xs [] h0
    clear hd hI
    generalize (bgR xs j p x 5).2.1 = acc at *
    refine ⟨?_, ?_, ?_⟩
    · try dsimp only
      rw [e1]; simp [epL, getD_snoc hl, -List.getD_eq_getElem?_getD]
    · try dsimp only
      rw [e2, getD_snoc hl]; rfl
    · try dsimp only
      rw [e3, getD_snoc hl]; rfl)
  rwa [← run_take (fs := bgS j p x) (k := 5) rfl] at this
theorem st_6 (hT : Tb w0.heap.size w0) (hB : w0.heap.size ≤ W.heap.size) {wr : World} {Zr : Nat → Prop} {ep : List Int} {mem ext : Int} (hI : BgI w0 W Z sa j p x (bgR xs j p x 6) wr Zr ep mem ext) {tb : Nat} (ht : wr.cell? ⟨tb, 1, none⟩ = some (.string lbConfirm)) :
    Calls Tryz.prog 60 #[.pointer (some ⟨W.heap.size + 5, 6, none⟩), .func (.func 66) #[] #[.pointer (some ⟨W.heap.size, 0, none⟩), .pointer (some ⟨W.heap.size + 5, 0, none⟩), .pointer (some ⟨tb, 0, none⟩)], .pointer (some ⟨W.heap.size + 6, 0, none⟩)] wr fun e w' => e = .returned (.tuple #[]) ∧ ∃ Z' ep2 mem2 ext2, BgI w0 W Z sa j p x (bgR xs j p x 7) w' Z' ep2 mem2 ext2 := by
  refine (do_5 (R := bgR xs j p x 6) (f := fun a ys => dvF ys (a.getD 2 0) lbConfirm) hI.la hI.bg hB (i := 5) (q := 6) (by omega) (by omega) (bgb_at (by rw [hI.l11]; omega)) (fun a => ep.set 6 a) (fun _ => mem) (fun _ => ext) (fun a e k _ h1 h2 => bgb_ep h1 h2) (fun a e => bgb_set 6) (fun h0 => by have hk := hI.ok h0; have := cl_5 hI.la hT hI.bg (by rw [hk.1]; exact i64_getD (hI.i64 h0) 2) hI.l11 ht; rw [hk.1] at this; exact this)).mono ?_
  intro e w' hd
  have := hI.next hd (sb_dv _ _) (fun a => by rw [List.length_set]; exact hI.l11) (fun h0 a => by
    obtain ⟨e1, e2, e3⟩ := hI.ok h0
    have hl : (bgR xs j p x 6).2.1.length = 6 := run_len ((bgS j p x).take 6) xs [] h0
    clear hd hI
    generalize (bgR xs j p x 6).2.1 = acc at *
    refine ⟨?_, ?_, ?_⟩
    · try dsimp only
      rw [e1]; simp [epL, getD_snoc hl, -List.getD_eq_getElem?_getD]
    · try dsimp only
      rw [e2, getD_snoc hl]; rfl
    · try dsimp only
      rw [e3, getD_snoc hl]; rfl)
  rwa [← run_take (fs := bgS j p x) (k := 6) rfl] at this
theorem st_7 (hT : Tb w0.heap.size w0) (hB : w0.heap.size ≤ W.heap.size) {wr : World} {Zr : Nat → Prop} {ep : List Int} {mem ext : Int} (hI : BgI w0 W Z sa j p x (bgR xs j p x 7) wr Zr ep mem ext) {tb : Nat} (ht : wr.cell? ⟨tb, 1, none⟩ = some (.string lbMembership)) :
    Calls Tryz.prog 60 #[.pointer (some ⟨W.heap.size + 5, 7, none⟩), .func (.func 66) #[] #[.pointer (some ⟨W.heap.size, 0, none⟩), .pointer (some ⟨W.heap.size + 5, 0, none⟩), .pointer (some ⟨tb, 0, none⟩)], .pointer (some ⟨W.heap.size + 6, 0, none⟩)] wr fun e w' => e = .returned (.tuple #[]) ∧ ∃ Z' ep2 mem2 ext2, BgI w0 W Z sa j p x (bgR xs j p x 8) w' Z' ep2 mem2 ext2 := by
  refine (do_5 (R := bgR xs j p x 7) (f := fun a ys => dvF ys (a.getD 2 0) lbMembership) hI.la hI.bg hB (i := 5) (q := 7) (by omega) (by omega) (bgb_at (by rw [hI.l11]; omega)) (fun a => ep.set 7 a) (fun _ => mem) (fun _ => ext) (fun a e k _ h1 h2 => bgb_ep h1 h2) (fun a e => bgb_set 7) (fun h0 => by have hk := hI.ok h0; have := cl_5 hI.la hT hI.bg (by rw [hk.1]; exact i64_getD (hI.i64 h0) 2) hI.l11 ht; rw [hk.1] at this; exact this)).mono ?_
  intro e w' hd
  have := hI.next hd (sb_dv _ _) (fun a => by rw [List.length_set]; exact hI.l11) (fun h0 a => by
    obtain ⟨e1, e2, e3⟩ := hI.ok h0
    have hl : (bgR xs j p x 7).2.1.length = 7 := run_len ((bgS j p x).take 7) xs [] h0
    clear hd hI
    generalize (bgR xs j p x 7).2.1 = acc at *
    refine ⟨?_, ?_, ?_⟩
    · try dsimp only
      rw [e1]; simp [epL, getD_snoc hl, -List.getD_eq_getElem?_getD]
    · try dsimp only
      rw [e2, getD_snoc hl]; rfl
    · try dsimp only
      rw [e3, getD_snoc hl]; rfl)
  rwa [← run_take (fs := bgS j p x) (k := 7) rfl] at this
theorem st_8 (hT : Tb w0.heap.size w0) (hB : w0.heap.size ≤ W.heap.size) {wr : World} {Zr : Nat → Prop} {ep : List Int} {mem ext : Int} (hI : BgI w0 W Z sa j p x (bgR xs j p x 8) wr Zr ep mem ext) {tb : Nat} (ht : wr.cell? ⟨tb, 1, none⟩ = some (.string lbResumption)) :
    Calls Tryz.prog 60 #[.pointer (some ⟨W.heap.size + 5, 8, none⟩), .func (.func 66) #[] #[.pointer (some ⟨W.heap.size, 0, none⟩), .pointer (some ⟨W.heap.size + 5, 0, none⟩), .pointer (some ⟨tb, 0, none⟩)], .pointer (some ⟨W.heap.size + 6, 0, none⟩)] wr fun e w' => e = .returned (.tuple #[]) ∧ ∃ Z' ep2 mem2 ext2, BgI w0 W Z sa j p x (bgR xs j p x 9) w' Z' ep2 mem2 ext2 := by
  refine (do_5 (R := bgR xs j p x 8) (f := fun a ys => dvF ys (a.getD 2 0) lbResumption) hI.la hI.bg hB (i := 5) (q := 8) (by omega) (by omega) (bgb_at (by rw [hI.l11]; omega)) (fun a => ep.set 8 a) (fun _ => mem) (fun _ => ext) (fun a e k _ h1 h2 => bgb_ep h1 h2) (fun a e => bgb_set 8) (fun h0 => by have hk := hI.ok h0; have := cl_5 hI.la hT hI.bg (by rw [hk.1]; exact i64_getD (hI.i64 h0) 2) hI.l11 ht; rw [hk.1] at this; exact this)).mono ?_
  intro e w' hd
  have := hI.next hd (sb_dv _ _) (fun a => by rw [List.length_set]; exact hI.l11) (fun h0 a => by
    obtain ⟨e1, e2, e3⟩ := hI.ok h0
    have hl : (bgR xs j p x 8).2.1.length = 8 := run_len ((bgS j p x).take 8) xs [] h0
    clear hd hI
    generalize (bgR xs j p x 8).2.1 = acc at *
    refine ⟨?_, ?_, ?_⟩
    · try dsimp only
      rw [e1]; simp [epL, getD_snoc hl, -List.getD_eq_getElem?_getD]
    · try dsimp only
      rw [e2, getD_snoc hl]; rfl
    · try dsimp only
      rw [e3, getD_snoc hl]; rfl)
  rwa [← run_take (fs := bgS j p x) (k := 8) rfl] at this
theorem st_9 (hT : Tb w0.heap.size w0) (hB : w0.heap.size ≤ W.heap.size) {wr : World} {Zr : Nat → Prop} {ep : List Int} {mem ext : Int} (hI : BgI w0 W Z sa j p x (bgR xs j p x 9) wr Zr ep mem ext) {tb : Nat} (ht : wr.cell? ⟨tb, 1, none⟩ = some (.string lbInit)) :
    Calls Tryz.prog 60 #[.pointer (some ⟨W.heap.size + 5, 10, none⟩), .func (.func 66) #[] #[.pointer (some ⟨W.heap.size, 0, none⟩), .pointer (some ⟨W.heap.size + 5, 0, none⟩), .pointer (some ⟨tb, 0, none⟩)], .pointer (some ⟨W.heap.size + 6, 0, none⟩)] wr fun e w' => e = .returned (.tuple #[]) ∧ ∃ Z' ep2 mem2 ext2, BgI w0 W Z sa j p x (bgR xs j p x 10) w' Z' ep2 mem2 ext2 := by
  refine (do_5 (R := bgR xs j p x 9) (f := fun a ys => dvF ys (a.getD 2 0) lbInit) hI.la hI.bg hB (i := 5) (q := 10) (by omega) (by omega) (bgb_at (by rw [hI.l11]; omega)) (fun a => ep.set 10 a) (fun _ => mem) (fun _ => ext) (fun a e k _ h1 h2 => bgb_ep h1 h2) (fun a e => bgb_set 10) (fun h0 => by have hk := hI.ok h0; have := cl_5 hI.la hT hI.bg (by rw [hk.1]; exact i64_getD (hI.i64 h0) 2) hI.l11 ht; rw [hk.1] at this; exact this)).mono ?_
  intro e w' hd
  have := hI.next hd (sb_dv _ _) (fun a => by rw [List.length_set]; exact hI.l11) (fun h0 a => by
    obtain ⟨e1, e2, e3⟩ := hI.ok h0
    have hl : (bgR xs j p x 9).2.1.length = 9 := run_len ((bgS j p x).take 9) xs [] h0
    clear hd hI
    generalize (bgR xs j p x 9).2.1 = acc at *
    refine ⟨?_, ?_, ?_⟩
    · try dsimp only
      rw [e1]; simp [epL, getD_snoc hl, -List.getD_eq_getElem?_getD]
    · try dsimp only
      rw [e2, getD_snoc hl]; rfl
    · try dsimp only
      rw [e3, getD_snoc hl]; rfl)
  rwa [← run_take (fs := bgS j p x) (k := 9) rfl] at this
theorem st_10 (hT : Tb w0.heap.size w0) (hB : w0.heap.size ≤ W.heap.size) {wr : World} {Zr : Nat → Prop} {ep : List Int} {mem ext : Int} (hI : BgI w0 W Z sa j p x (bgR xs j p x 10) wr Zr ep mem ext) {tb : Nat} (ht : wr.cell? ⟨tb, 1, none⟩ = some (.string lbExternal)) :
    Calls Tryz.prog 60 #[.pointer (some ⟨W.heap.size + 8, 0, none⟩), .func (.func 66) #[] #[.pointer (some ⟨W.heap.size, 0, none⟩), .pointer (some ⟨W.heap.size + 5, 0, none⟩), .pointer (some ⟨tb, 0, none⟩)], .pointer (some ⟨W.heap.size + 6, 0, none⟩)] wr fun e w' => e = .returned (.tuple #[]) ∧ ∃ Z' ep2 mem2 ext2, BgI w0 W Z sa j p x (bgR xs j p x 11) w' Z' ep2 mem2 ext2 := by
  refine (do_5 (R := bgR xs j p x 10) (f := fun a ys => dvF ys (a.getD 2 0) lbExternal) hI.la hI.bg hB (i := 8) (q := 0) (by omega) (by omega) rfl (fun _ => ep) (fun _ => mem) (fun a => a) (fun a e k _ h1 h2 => bgb_ext h1 h2) (fun a e => rfl) (fun h0 => by have hk := hI.ok h0; have := cl_5 hI.la hT hI.bg (by rw [hk.1]; exact i64_getD (hI.i64 h0) 2) hI.l11 ht; rw [hk.1] at this; exact this)).mono ?_
  intro e w' hd
  have := hI.next hd (sb_dv _ _) (fun a => by exact hI.l11) (fun h0 a => by
    obtain ⟨e1, e2, e3⟩ := hI.ok h0
    have hl : (bgR xs j p x 10).2.1.length = 10 := run_len ((bgS j p x).take 10) xs [] h0
    clear hd hI
    generalize (bgR xs j p x 10).2.1 = acc at *
    refine ⟨?_, ?_, ?_⟩
    · try dsimp only
      rw [e1]; simp [epL, getD_snoc hl, -List.getD_eq_getElem?_getD]
    · try dsimp only
      rw [e2, getD_snoc hl]; rfl
    · try dsimp only
      rw [getD_snoc hl]; rfl)
  rwa [← run_take (fs := bgS j p x) (k := 10) rfl] at this
theorem st_11 (hT : Tb w0.heap.size w0) (hB : w0.heap.size ≤ W.heap.size) {wr : World} {Zr : Nat → Prop} {ep : List Int} {mem ext : Int} (hI : BgI w0 W Z sa j p x (bgR xs j p x 11) wr Zr ep mem ext) :
    Calls Tryz.prog 60 #[.pointer (some ⟨W.heap.size + 5, 9, none⟩), .func (.func 67) #[] #[.pointer (some ⟨W.heap.size, 0, none⟩), .pointer (some ⟨W.heap.size + 8, 0, none⟩)], .pointer (some ⟨W.heap.size + 6, 0, none⟩)] wr fun e w' => e = .returned (.tuple #[]) ∧ ∃ Z' ep2 mem2 ext2, BgI w0 W Z sa j p x (bgR xs j p x 12) w' Z' ep2 mem2 ext2 := by
  refine (do_6 (R := bgR xs j p x 11) (f := fun a ys => pbF ys (a.getD 10 0)) hI.la hI.bg hB (i := 5) (q := 9) (by omega) (by omega) (bgb_at (by rw [hI.l11]; omega)) (fun a => ep.set 9 a) (fun _ => mem) (fun _ => ext) (fun a e k _ h1 h2 => bgb_ep h1 h2) (fun a e => bgb_set 9) (fun h0 => by have hk := hI.ok h0; have := cl_6 hI.la hT hI.bg (by rw [hk.2.2]; exact i64_getD (hI.i64 h0) 10); rw [hk.2.2] at this; exact this)).mono ?_
  intro e w' hd
  have := hI.next hd (sb_pb _) (fun a => by rw [List.length_set]; exact hI.l11) (fun h0 a => by
    obtain ⟨e1, e2, e3⟩ := hI.ok h0
    have hl : (bgR xs j p x 11).2.1.length = 11 := run_len ((bgS j p x).take 11) xs [] h0
    clear hd hI
    generalize (bgR xs j p x 11).2.1 = acc at *
    refine ⟨?_, ?_, ?_⟩
    · try dsimp only
      rw [e1]; simp [epL, getD_snoc hl, -List.getD_eq_getElem?_getD]
    · try dsimp only
      rw [e2, getD_snoc hl]; rfl
    · try dsimp only
      rw [e3, getD_snoc hl]; rfl)
  rwa [← run_take (fs := bgS j p x) (k := 11) rfl] at this
end
end Go.Proofs.YtkgobglmkhkbbaaGreatDoor
