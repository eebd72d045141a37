/- Small closers of the readers of one record. -/
import Derived.Test.YtdleikgcgbokmaaA9
namespace Go.Proofs.Ytdleikgcgbokmaa
open Go.RowKit Go.KK
set_option linter.unusedVariables false
set_option linter.unusedSimpArgs false

theorem one_ret {tmps : Array Value} {W : World} {g : Nat} {y0 y1 y2 y3 y4 y5 y6 n : Int} {is : Bool} {R : Ending → World → Prop} (h2 : tmps.getD 2 undef = .pointer (some ⟨g, 0, none⟩)) (h3 : tmps.getD 3 undef = .int .i64 n) (h4 : tmps.getD 4 undef = .bool is)
    (hB : Blk W g 23 [.int .i64 y0, .int .i64 y1, .int .i64 y2, .int .i64 y3, .int .i64 y4, .int .i64 y5, .int .i64 y6]) (hR : R (.returned (.tuple #[.agg #[.int .i64 y0, .int .i64 y1, .int .i64 y2, .int .i64 y3, .int .i64 y4, .int .i64 y5, .int .i64 y6], .int .i64 n, .bool is])) W) :
    bodyPost Try.prog Try.f19 R .ret ⟨tmps, []⟩ W := by
  have d0 := hB.cell 0
  have d1 := hB.cell 1
  have d2 := hB.cell 2
  have d3 := hB.cell 3
  have d4 := hB.cell 4
  have d5 := hB.cell 5
  have d6 := hB.cell 6
  simp only [List.getElem?_cons_zero, List.getElem?_cons_succ] at d0 d1 d2 d3 d4 d5 d6
  simp only [Array.getD_eq_getD_getElem?] at h2 h3 h4
  exact bodyPost_ret (by simp [results, Try.results19, go_sem, h2, h3, h4, d0, d1, d2, d3, d4, d5, d6]) rfl hR
theorem Blk.drew {W : World} {g : Nat} {t : TypeId} {cs : List Value} (h : Blk W g t cs) : Blk W.drew g t cs := h
theorem blk7 {W : World} {g : Nat} {xs : List Value} {T : TypeId} (h : Blk W g T xs) (hx : xs.length = 7) (u0 u1 u2 u3 u4 u5 u6 : Value) :
    Blk (((((((W.setCell ⟨g, 0, none⟩ u0).setCell ⟨g, 1, none⟩ u1).setCell ⟨g, 2, none⟩ u2).setCell ⟨g, 3, none⟩ u3).setCell ⟨g, 4, none⟩ u4).setCell ⟨g, 5, none⟩ u5).setCell ⟨g, 6, none⟩ u6) g T [u0, u1, u2, u3, u4, u5, u6] := by
  have := ((((((h.set_ 0 u0).set_ 1 u1).set_ 2 u2).set_ 3 u3).set_ 4 u4).set_ 5 u5).set_ 6 u6
  match xs, hx with
  | [_, _, _, _, _, _, _], _ => exact this
theorem below7 {B : Nat} {w W : World} {g : Nat} (h : Below B w W) (hg : B ≤ g) (u0 u1 u2 u3 u4 u5 u6 : Value) :
    Below B w (((((((W.setCell ⟨g, 0, none⟩ u0).setCell ⟨g, 1, none⟩ u1).setCell ⟨g, 2, none⟩ u2).setCell ⟨g, 3, none⟩ u3).setCell ⟨g, 4, none⟩ u4).setCell ⟨g, 5, none⟩ u5).setCell ⟨g, 6, none⟩ u6) :=
  ((((((h.setCell (p := ⟨g, 0, none⟩) hg u0).setCell (p := ⟨g, 1, none⟩) hg u1).setCell (p := ⟨g, 2, none⟩) hg u2).setCell (p := ⟨g, 3, none⟩) hg u3).setCell (p := ⟨g, 4, none⟩) hg u4).setCell (p := ⟨g, 5, none⟩) hg u5).setCell (p := ⟨g, 6, none⟩) hg u6
theorem tells_no {t : List Int} {w W : World} (hn : reqAt t = none) (hb : Below w.heap.size w W) : Tells t w (.returned (.tuple #[.agg #[.int .i64 0, .int .i64 0, .int .i64 0, .int .i64 0, .int .i64 0, .int .i64 0, .int .i64 0], .int .i64 0, .bool false])) W :=
  ⟨0, 0, 0, 0, 0, 0, 0, 0, by rw [hn]; rfl, (fun l m h => by rw [hn] at h; cases h), hb⟩
theorem tells_yes {t : List Int} {w W : World} {y0 y1 y2 y3 y4 y5 y6 : Int} {m : Nat} (hn : reqAt t = some ([y0, y1, y2, y3, y4, y5, y6], m)) (hb : Below w.heap.size w W) : Tells t w (.returned (.tuple #[.agg #[.int .i64 y0, .int .i64 y1, .int .i64 y2, .int .i64 y3, .int .i64 y4, .int .i64 y5, .int .i64 y6], .int .i64 m, .bool true])) W :=
  ⟨y0, y1, y2, y3, y4, y5, y6, m, by rw [hn]; rfl, (fun l k h => by rw [hn] at h; injection h with h; injection h with h1 h2; exact ⟨h1.symm, congrArg Int.ofNat h2⟩), hb⟩

end Go.Proofs.Ytdleikgcgbokmaa
