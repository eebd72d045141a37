/- []byte(s) as a step of a walk: a row of its own; nothing that was there has turned (of no program). -/
import Derived.Test.YtadbgmfdbahcbaaGreatDoorK1
import Derived.Lib.ConvBytes
import Derived.Laws.AppendOwn
namespace Go.KK
open Go.RowKit
set_option linter.unusedVariables false
set_option linter.unusedSimpArgs false

/-- A text's bytes as cells. -/
def byC (s : ByteArray) : List Value := s.data.toList.map fun b => .int .u8 b.toNat
theorem byC_len (s : ByteArray) : (byC s).length = s.size := by simp [byC]
theorem byC_one (s : ByteArray) : ∀ u ∈ byC s, u.oneCell' = true := by
  intro u hu
  simp only [byC, List.mem_map] at hu
  obtain ⟨b, -, rfl⟩ := hu
  rfl
theorem grown_bytes (w : World) (e : TypeId) (s : ByteArray) : w.grownBy (Lib.bytesWorld w e s) none :=
  ⟨rfl, rfl, rfl, by rw [Lib.bytesWorld_size]; omega, fun i hi _ => Lib.bytesWorld_at_old w e s i hi⟩
theorem sla_bytes (w : World) (e : TypeId) (s : ByteArray) (hs : s.size ≤ maxLen) : SlA (Lib.bytesWorld w e s) 1 (some ⟨w.heap.size, 0, none⟩) s.size (grownCap w s.size 0 e) (byC s) := by
  refine ⟨grownCap_ge w s.size 0 e, grownCap_le_maxLen w s.size 0 e hs, by rw [byC_len, Nat.mul_one], fun j u hj => ⟨w.heap.size, 0, rfl, ?_⟩⟩
  have hl : j < s.size := by
    have := (List.getElem?_eq_some_iff.1 hj).1
    rwa [byC_len] at this
  rw [Nat.zero_add, Lib.bytesWorld_cell w e s j hl]
  have hd : j < s.data.toList.length := by simpa using hl
  simp only [byC, List.getElem?_map, List.getElem?_eq_getElem hd, Option.map_some] at hj
  injection hj with hj
  rw [← hj, List.getD, List.getElem?_eq_getElem hd]
  rfl
theorem wpList_str_bytes {P : Program} {w : World} {ops : Array Oper} {rest : List Oper} {o : Oper} {a : Act} {Q : Exit → Act → World → Prop} (hgd : o.guard = none) (x : Operand) (src dst e : TypeId)
    (hop : o.op = Op.convert src dst x) (hs : P.underlying src = some .string) (hd : P.underlying dst = some (.slice e)) (he : P.underlying e = some (.int .u8)) (s : ByteArray) (hx : a.eval x = .string s) (hm : s.size ≤ maxLen)
    (h : ∀ c w', w.grownBy w' none → w'.heap.size = w.heap.size + 1 → SlA w' 1 (some ⟨w.heap.size, 0, none⟩) s.size c (byC s) → wpList P ops Q rest (a.put o.dst (.slice (some ⟨w.heap.size, 0, none⟩) s.size c)) w') :
    wpList P ops Q (o :: rest) a w := by
  refine wpList_plain hgd fun K hK => ?_
  unfold Oper.wp execOp
  simp only [hop, hx, Sem.run_bind, Sem.run_pure, Lib.run_convert_string_bytes w src dst e s hs hd he, Result.andThen_ok]
  exact hK _ _ (h _ _ (grown_bytes w e s) (Lib.bytesWorld_size w e s) (sla_bytes w e s hm))
end Go.KK
