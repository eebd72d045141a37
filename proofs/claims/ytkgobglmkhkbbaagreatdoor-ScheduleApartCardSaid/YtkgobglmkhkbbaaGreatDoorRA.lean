/- the document's layer 3: SameInts (without Rising). -/
import Derived.Test.YtkgobglmkhkbbaaGreatDoorMA
import Derived.Test.YtkgobglmkhkbbaaGreatDoorK2
import Derived.Test.YtkgobglmkhkbbaaGreatDoorK6
import Derived.Deep.RegionLaw
import Derived.BigQuiet
namespace Go.Proofs.YtkgobglmkhkbbaaGreatDoor
open Go.RowKit Go.KK Go.Shelf Go.Maps
set_option linter.unusedVariables false
set_option linter.unusedSimpArgs false

theorem take_get {α : Type} {l : List α} {k : Nat} {x : α} (h : l[k]? = some x) : l.take (k + 1) = l.take k ++ [x] := by
  obtain ⟨hk, rfl⟩ := List.getElem?_eq_some_iff.1 h
  exact List.take_succ_eq_append_getElem hk
theorem run_cut_to6 {P : Program} {A : Option Addr} {n c sz : Nat} {t e : TypeId} (ht : P.underlying t = some (.slice e)) (hs : ∀ W : World, (sizeOf e).run P W = .ok sz W) {p : Nat} (hp : p ≤ c) :
    ∀ W : World, (Instr.slice t (.slice A n c) none (some (.int .i64 (p : Int))) none).run P W = .ok (.slice A p c) W := by
  intro W
  have he : P.elem t = e := by simp [Program.elem, ht]
  rw [run_slice_h W t A n c (by rw [he]; exact ht) .i64 p (by omega) (by omega), he, hs W]
  have hz : ∀ a : Addr, a.add 0 = a := fun a => by simp [Addr.add]
  simp [Result.andThen, sliced, hz]
theorem take_eq_step {l m : List Int} {j : Nat} {x : Int} (h : l.take j = m.take j) (h1 : l[j]? = some x) (h2 : m[j]? = some x) : l.take (j + 1) = m.take (j + 1) := by
  rw [take_get h1, take_get h2, h]
theorem ne_of_at {l m : List Int} {j : Nat} {x y : Int} (h1 : l[j]? = some x) (h2 : m[j]? = some y) (h : x ≠ y) : (l == m) = false := by
  refine beq_eq_false_iff_ne.2 fun e => h ?_
  rw [e, h2] at h1
  injection h1 with h1
  exact h1.symm
theorem same_ints (A : Option Addr) (n c : Nat) (l : List Int) (B : Option Addr) (m d : Nat) (l' : List Int) (w : World) (h : SlA w 1 A n c (l.map (.int .i64))) (h' : SlA w 1 B m d (l'.map (.int .i64))) (hn : n ≤ 2147483648) (hm : m ≤ 2147483648) :
    Calls Tryz.prog 20 #[.slice A n c, .slice B m d] w fun e w' => e = .returned (.bool (l == l')) ∧ ∃ q, w' = w.drewN q := by
  have HL := hid h.lenI; have HS := hid h; have HL' := hid h'.lenI; have HS' := hid h'
  clear h h'
  by_cases hnm : n = m
  · subst hnm
    go_enter Tryz.func20, Tryz.ntmps20
    go_wp2
    go_loopw [13, 4] (fun i _ wr => ∃ j q : Nat, i = .int .i64 j ∧ j ≤ n ∧ Hid (l.take j = l'.take j) ∧ wr = w.drewN q) (fun i _ _ => n - (intOf i).toNat)
    case atStart => exact ⟨0, 0, rfl, by omega, hid rfl, rfl⟩
    case round =>
      obtain ⟨j, q, hi, hj, HJ, hw⟩ := hrel
      subst hi; subst hw
      by_cases hlt : j < n
      · obtain ⟨b, o, z, rfl, hz, hc⟩ := HS.out.elemI hlt
        obtain ⟨b', o', z', rfl, hz', hc'⟩ := HS'.out.elemI hlt
        have hj0 : (0 : Int) ≤ (j : Int) := by omega
        have hj1 : (j : Int) < (n : Int) := by omega
        have HZ := hid hz; have HZ' := hid hz'
        clear hz hz'
        by_cases hzx : z = z'
        · have HF := hid (take_eq_step HJ.out HZ.out (hzx ▸ HZ'.out))
          have hzx' : (z != z') = false := by rw [hzx]; simp
          clear hzx
          go_wp2
          go_quiet (fail)
          go_wp2
          go_roundw
          case rel => exact ⟨j + 1, _, by go_num, by omega, HF, rfl⟩
          case measure => simp [intOf]; omega
        · have HF := hid (ne_of_at HZ.out HZ'.out hzx)
          have hzx' : (z != z') = true := bne_iff_ne.2 hzx
          clear hzx
          go_wp2
          go_quiet (fail)
          go_wp2
          go_ret
          exact ⟨by rw [HF.out]; rfl, _, World.drewN_drewN _ _ _⟩
      · have HF := hid (show (l == l') = true from beq_iff_eq.2 (by
          have := HJ.out
          rwa [List.take_of_length_le (by have := HL.out; omega), List.take_of_length_le (by have := HL'.out; omega)] at this))
        go_wp2
        go_ret
        exact ⟨by rw [HF.out]; rfl, q, rfl⟩
  · have HF := hid (show (l == l') = false from beq_eq_false_iff_ne.2 fun e => hnm (by rw [← HL.out, ← HL'.out, e]))
    have hnm' : ((n : Int) != (m : Int)) = true := bne_iff_ne.2 (by omega)
    clear hnm
    go_enter Tryz.func20, Tryz.ntmps20
    go_wp2
    go_ret
    exact ⟨by rw [HF.out]; rfl, 0, rfl⟩
/-- Where a number goes in a list: behind all that are not greater, from the end. -/
def posF (acc : List Int) (n : Int) : Nat → Nat
  | 0 => 0
  | k + 1 => if n < acc.getD k 0 then posF acc n k else k + 1
end Go.Proofs.YtkgobglmkhkbbaaGreatDoor
