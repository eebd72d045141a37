/- schedule: what the closures of Begin make. -/
import Derived.Test.YtkgobglmkhkbbaaGreatDoorU8
namespace Go.Proofs.YtkgobglmkhkbbaaGreatDoor
open Go.RowKit Go.KK Go.Shelf Go.Maps
set_option linter.unusedVariables false
set_option linter.unusedSimpArgs false

section
variable {w0 W : World} {Z : Nat → Prop} {sa H : Nat} {xs : List ND} {j p x : Int} {ep : List Int} {first mem ext : Int}
theorem cl_2 (h : LA w0 W Z sa xs) (hT : Tb w0.heap.size w0) (hb : BgM W Z H (BgB sa j p x ep first mem ext)) (hj : I64 j) (hp : I64 p) :
    Calls Tryz.prog 61 #[.pointer (some ⟨H, 0, none⟩), .pointer (some ⟨H + 1, 0, none⟩), .pointer (some ⟨H + 2, 0, none⟩)] W (LrS w0 W Z sa (exF xs j p)) := by
  have c0 := hb.cell (k := 0) (o := 0) (by omega) rfl
  rw [Nat.add_zero] at c0
  have c1 := hb.cell (k := 1) (o := 0) (by omega) rfl
  have c2 := hb.cell (k := 2) (o := 0) (by omega) rfl
  have HM := hid (l_ex h hT hj hp)
  clear h hT hb
  unfold LrS at HM ⊢
  generalize exF xs j p = r at *
  go_enter Tryz.func61, Tryz.ntmps61
  go_wp2_with fail
  refine HM.out.mono ?_
  rintro e w2 ⟨Z2, rfl, l2, m2⟩
  have L2 := hid l2; have M2 := hid m2
  clear l2 m2 HM
  go_wp2_with fail
  go_ret2
  exact ⟨Z2, rfl, L2.out, M2.out⟩
theorem cl_3 (h : LA w0 W Z sa xs) (hT : Tb w0.heap.size w0) (hb : BgM W Z H (BgB sa j p x ep first mem ext)) (hm : I64 mem) :
    Calls Tryz.prog 62 #[.pointer (some ⟨H, 0, none⟩), .pointer (some ⟨H + 7, 0, none⟩)] W (LrS w0 W Z sa (dvF xs mem lbWelcome)) := by
  have c0 := hb.cell (k := 0) (o := 0) (by omega) rfl
  rw [Nat.add_zero] at c0
  have c1 := hb.cell (k := 7) (o := 0) (by omega) rfl
  have HM := hid (l_dv h hT hm lbWelcome)
  clear h hT hb
  unfold LrS at HM ⊢
  generalize dvF xs mem lbWelcome = r at *
  unfold lbWelcome at HM
  go_enter Tryz.func62, Tryz.ntmps62
  go_wp2_with fail
  refine HM.out.mono ?_
  rintro e w2 ⟨Z2, rfl, l2, m2⟩
  have L2 := hid l2; have M2 := hid m2
  clear l2 m2 HM
  go_wp2_with fail
  go_ret2
  exact ⟨Z2, rfl, L2.out, M2.out⟩
theorem cl_4 (h : LA w0 W Z sa xs) (hT : Tb w0.heap.size w0) (hb : BgM W Z H (BgB sa j p x ep first mem ext)) (hm : I64 mem) (hx : I64 x) :
    Calls Tryz.prog 64 #[.pointer (some ⟨H, 0, none⟩), .pointer (some ⟨H + 7, 0, none⟩), .pointer (some ⟨H + 3, 0, none⟩)] W (LrS w0 W Z sa (exdF xs mem lbEpoch x)) := by
  have c0 := hb.cell (k := 0) (o := 0) (by omega) rfl
  rw [Nat.add_zero] at c0
  have c1 := hb.cell (k := 7) (o := 0) (by omega) rfl
  have c2 := hb.cell (k := 3) (o := 0) (by omega) rfl
  have HM := hid (l_exd h hT hm hx lbEpoch)
  clear h hT hb
  unfold LrS at HM ⊢
  generalize exdF xs mem lbEpoch x = r at *
  unfold lbEpoch at HM
  go_enter Tryz.func64, Tryz.ntmps64
  go_wp2_with fail
  refine HM.out.mono ?_
  rintro e w2 ⟨Z2, rfl, l2, m2⟩
  have L2 := hid l2; have M2 := hid m2
  clear l2 m2 HM
  go_wp2_with fail
  go_ret2
  exact ⟨Z2, rfl, L2.out, M2.out⟩
theorem cl_5 (h : LA w0 W Z sa xs) (hT : Tb w0.heap.size w0) (hb : BgM W Z H (BgB sa j p x ep first mem ext)) (he : I64 (ep.getD 2 0)) (h11 : ep.length = 11) {tb : Nat} {lab : ByteArray} (ht : W.cell? ⟨tb, 1, none⟩ = some (.string lab)) :
    Calls Tryz.prog 66 #[.pointer (some ⟨H, 0, none⟩), .pointer (some ⟨H + 5, 0, none⟩), .pointer (some ⟨tb, 0, none⟩)] W (LrS w0 W Z sa (dvF xs (ep.getD 2 0) lab)) := by
  have c0 := hb.cell (k := 0) (o := 0) (by omega) rfl
  rw [Nat.add_zero] at c0
  have c1 := hb.cell (k := 5) (o := 2) (v := .int .i64 (ep.getD 2 0)) (by omega) (by
    show ((ep.map (Value.int .i64)).toArray)[2]? = _
    rw [List.getElem?_toArray, List.getElem?_map, List.getD, List.getElem?_eq_getElem (by omega)]; rfl)
  have HM := hid (l_dv h hT he lab)
  clear h hT hb h11
  unfold LrS at HM ⊢
  generalize dvF xs (ep.getD 2 0) lab = r at *
  generalize ep.getD 2 0 = e2 at *
  go_enter Tryz.func66, Tryz.ntmps66
  go_wp2_with fail
  refine HM.out.mono ?_
  rintro e w2 ⟨Z2, rfl, l2, m2⟩
  have L2 := hid l2; have M2 := hid m2
  clear l2 m2 HM
  go_wp2_with fail
  go_ret2
  exact ⟨Z2, rfl, L2.out, M2.out⟩
theorem cl_6 (h : LA w0 W Z sa xs) (hT : Tb w0.heap.size w0) (hb : BgM W Z H (BgB sa j p x ep first mem ext)) (he : I64 ext) :
    Calls Tryz.prog 67 #[.pointer (some ⟨H, 0, none⟩), .pointer (some ⟨H + 8, 0, none⟩)] W (LrS w0 W Z sa (pbF xs ext)) := by
  have c0 := hb.cell (k := 0) (o := 0) (by omega) rfl
  rw [Nat.add_zero] at c0
  have c1 := hb.cell (k := 8) (o := 0) (by omega) rfl
  have HM := hid (l_pb h hT he)
  clear h hT hb
  unfold LrS at HM ⊢
  generalize pbF xs ext = r at *
  go_enter Tryz.func67, Tryz.ntmps67
  go_wp2_with fail
  refine HM.out.mono ?_
  rintro e w2 ⟨Z2, rfl, l2, m2⟩
  have L2 := hid l2; have M2 := hid m2
  clear l2 m2 HM
  go_wp2_with fail
  go_ret2
  exact ⟨Z2, rfl, L2.out, M2.out⟩
end
end Go.Proofs.YtkgobglmkhkbbaaGreatDoor
