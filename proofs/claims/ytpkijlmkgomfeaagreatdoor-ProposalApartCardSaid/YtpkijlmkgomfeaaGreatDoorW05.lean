import Derived.Test.YtpkijlmkgomfeaaGreatDoorW04
import Derived.Test.YtpkijlmkgomfeaaGreatDoorW03
import Derived.Test.YtpkijlmkgomfeaaGreatDoorW01
import Derived.RegionTactic
import Derived.Test.YtpkijlmkgomfeaaGreatDoorW02
import Derived.Deep.RegionLaw
import Derived.BigQuiet
import Derived.Deep.RegionHeld3
import Derived.Deep.DeepCutAuto
import Derived.Deep.RegionHeldLaw
import Derived.Deep.QuietTactic
import Derived.Lib.SlicesCompact
/- the document's term: Make told in words, New. -/
namespace Go.Proofs.YtpkijlmkgomfeaaGreatDoor
open Go.RowKit Go.KK Go.Shelf Go.Maps
set_option linter.unusedVariables false
set_option linter.unusedSimpArgs false

/-- The document's arena at block st, all of its blocks in Z. -/
def AQ (w : World) (Z : Nat → Prop) (st : Nat) (xs : List ND) : Prop := ∃ mp v qs, ArR w Z st mp v xs qs
def AqS (w : World) (Z : Nat → Prop) (st : Nat) (xs : List ND) (w' : World) : Prop := ∃ Z', AQ w' Z' st xs ∧ Turn Z w w' ∧ ∀ b, Z' b → Z b ∨ w.heap.size ≤ b
theorem AqS.of {w w' : World} {Z : Nat → Prop} {st mp : Nat} {xs : List ND} (h : MakR w Z st mp xs w') : AqS w Z st xs w' := by
  obtain ⟨Z', v, qs, h1, h2, h3⟩ := h
  exact ⟨Z', ⟨mp, v, qs, h1⟩, h2, h3⟩
theorem AQ.ext {w w' : World} {Z : Nat → Prop} {st : Nat} {xs : List ND} (h : AQ w Z st xs) (hb : Below w.heap.size w w') : AQ w' Z st xs := by
  obtain ⟨mp, v, qs, h1⟩ := h
  exact ⟨mp, v, qs, h1.ext hb⟩
theorem AQ.zlt {w : World} {Z : Nat → Prop} {st : Nat} {xs : List ND} (h : AQ w Z st xs) : ∀ b, Z b → b < w.heap.size := by
  obtain ⟨mp, v, qs, h1⟩ := h
  exact h1.zlt
theorem AQ.ok {w : World} {Z : Nat → Prop} {st : Nat} {xs : List ND} (h : AQ w Z st xs) : Okay xs := by
  obtain ⟨mp, v, qs, h1⟩ := h
  exact h1.ok
theorem AQ.vw {w : World} {Z : Nat → Prop} {st : Nat} {xs : List ND} (h : AQ w Z st xs) : ArV w 117 st xs := by
  obtain ⟨mp, v, qs, h1⟩ := h
  exact Ar.v h1
theorem AQ.turn {F : Nat → Prop} {w w' : World} {Z : Nat → Prop} {st : Nat} {xs : List ND} (h : AQ w Z st xs) (ht : Turn F w w') (hd : ∀ b, Z b → ¬ F b) : AQ w' Z st xs := by
  obtain ⟨mp, v, qs, h1⟩ := h
  exact ⟨mp, v, qs, h1.turn ht hd⟩
theorem AqS.first {w w1 w2 : World} {Z : Nat → Prop} {st : Nat} {xs : List ND} (hb : Below w.heap.size w w1) (h : AqS w1 Z st xs w2) : AqS w Z st xs w2 := by
  obtain ⟨Z', h1, h2, h3⟩ := h
  refine ⟨Z', h1, (Turn.of_below hb).trans h2 (fun _ h => .inl h), fun b hz => (h3 b hz).imp id fun h => Nat.le_trans hb.size h⟩
theorem rmke_any (Z : Nat → Prop) (st : Nat) (xs : List ND) (w : World) (x : ND) (A : Option Addr) (c : Nat) (h : AQ w Z st xs) (hl : SlA w 1 A x.l.length c (x.l.map (.int .i64))) (hx : NdI x) :
    Calls Tryz.prog 69 #[.pointer (some ⟨st, 0, none⟩), .agg #[.int .i64 x.o, .int .i64 x.n, .string x.s, .slice A x.l.length c]] w fun e w' => e = .returned (.tuple #[.int .i64 (makI xs x), .int .i64 (makE xs x)]) ∧ AqS w Z st (makT xs x) w' := by
  obtain ⟨mp, v, qs, h⟩ := h
  exact (rmake_any Z st mp v xs qs x A c w h hl hx).mono fun e w' ⟨h1, h2⟩ => ⟨h1, .of h2⟩
theorem rnew_any (w : World) : Calls Tryz.prog 33 #[] w fun e w' => ∃ Z st, e = .returned (.pointer (some ⟨st, 0, none⟩)) ∧ AQ w' Z st [] ∧ (∀ b, Z b → w.heap.size ≤ b) ∧ Below w.heap.size w w' := by
  have hmm := @run_makeMap Tryz.prog
  go_enter Tryz.func33, Tryz.ntmps33
  go_wp2
  go_ret
  have B1 : Below w.heap.size w (w.alloc (.map #[] 0)) := (Below.refl _ _).alloc (Nat.le_refl _) _
  have hm0 := World.ownsMap_made (H := Unit) w Tryz.prog 9 (plainElem Tryz.prog 3)
  refine ⟨fun b => b = w.heap.size ∨ b = w.heap.size + 1, w.heap.size + 1, by simp, ⟨w.heap.size, .slice none 0 0, [], ?_⟩, fun b hb => by rcases hb with rfl | rfl <;> omega, B1.alloc (by simp) _⟩
  have hsz : (w.alloc (.map #[] 0)).heap.size = w.heap.size + 1 := by simp
  refine ⟨?_, World.ownsRow_nil _ _ _ _, rfl, fun j x q h => by simp at h, fun j x q b h => by simp at h, ⟨.map [], ?_, mapOk_nil _⟩, .inr rfl, ⟨.inl rfl, by omega⟩, fun b h => (by cases h), fun b hb => ?_, okay_nil⟩
  · have := heap_alloc_new (w.alloc (.map #[] 0)) (.cells #[.slice none 0 0, .map (some w.heap.size)] 117)
    rw [hsz] at this
    exact this
  · exact hm0.alloc _
  · have h2 : ((w.alloc (.map #[] 0)).alloc (.cells #[.slice none 0 0, .map (some w.heap.size)] 117)).heap.size = w.heap.size + 1 + 1 := by simp
    rcases hb with rfl | rfl <;> omega
end Go.Proofs.YtpkijlmkgomfeaaGreatDoor

/- term: the program's arena and the document's, of the same nodes. -/
namespace Go.Proofs.YtpkijlmkgomfeaaGreatDoor
open Go.RowKit Go.KK Go.Shelf Go.Maps
set_option linter.unusedVariables false
set_option linter.unusedSimpArgs false

/-- Two arenas of the same nodes. -/
structure Tw (w W : World) (sa sb : Nat) (Z Z' : Nat → Prop) (xs : List ND) : Prop where
  a : AR W Z sa xs
  b : AQ W Z' sb xs
  d : ∀ b, Z b → ¬ Z' b
  za : ∀ b, Z b → w.heap.size ≤ b
  zb : ∀ b, Z' b → w.heap.size ≤ b
  bl : Below w.heap.size w W
section
variable {w W W' : World} {sa sb : Nat} {Z Z' : Nat → Prop} {xs ys : List ND}
theorem Tw.ext (h : Tw w W sa sb Z Z' xs) (hb : Below W.heap.size W W') : Tw w W' sa sb Z Z' xs :=
  ⟨h.a.ext hb, h.b.ext hb, h.d, h.za, h.zb, h.bl.trans (hb.mono h.bl.size)⟩
theorem Tw.sz (h : Tw w W sa sb Z Z' xs) : w.heap.size ≤ W.heap.size := h.bl.size
/-- The program's arena has made one. -/
theorem Tw.mkA (h : Tw w W sa sb Z Z' xs) (hs : ArS W Z sa ys W') : ∃ Z2, AR W' Z2 sa ys ∧ AQ W' Z' sb xs ∧ (∀ b, Z2 b → ¬ Z' b) ∧ (∀ b, Z2 b → w.heap.size ≤ b) ∧ (∀ b, Z2 b → Z b ∨ W.heap.size ≤ b) ∧ Turn Z W W' ∧ Below w.heap.size w W' := by
  obtain ⟨Z2, h1, h2, h3⟩ := hs
  refine ⟨Z2, h1, h.b.turn h2 (fun b h' k => h.d b k h'), fun b h2' h' => ?_, fun b h' => (h3 b h').elim (h.za b) fun h'' => Nat.le_trans h.sz h'', h3, h2, h.bl.trans (h2.below h.za h.sz)⟩
  rcases h3 b h2' with h'' | h''
  · exact h.d b h'' h'
  · have := h.b.zlt b h'; omega
/-- The document's arena has made the same. -/
theorem Tw.mkB {Z2 : Nat → Prop} (ha : AR W Z2 sa ys) (hq : AQ W Z' sb xs) (hd : ∀ b, Z2 b → ¬ Z' b) (hz : ∀ b, Z2 b → w.heap.size ≤ b) (hz' : ∀ b, Z' b → w.heap.size ≤ b) (hb : Below w.heap.size w W) (hs : AqS W Z' sb ys W') : ∃ Z3, Tw w W' sa sb Z2 Z3 ys ∧ Turn Z' W W' ∧ ∀ b, Z3 b → Z' b ∨ W.heap.size ≤ b := by
  obtain ⟨Z3, h1, h2, h3⟩ := hs
  refine ⟨Z3, ⟨ha.turn h2 (fun b h k => hd b h k), h1, fun b h2' h' => ?_, hz, fun b h => (h3 b h).elim (hz' b) fun h => Nat.le_trans hb.size h, hb.trans (h2.below hz' hb.size)⟩, h2, h3⟩
  rcases h3 b h' with h | h
  · exact hd b h2' h
  · have := ha.zlt b h2'; omega
end
end Go.Proofs.YtpkijlmkgomfeaaGreatDoor

/- the law's two arenas of ten secrets; live and more share them. -/
namespace Go.Proofs.YtpkijlmkgomfeaaGreatDoor
open Go.RowKit Go.KK Go.Shelf Go.Maps
set_option linter.unusedVariables false
set_option linter.unusedSimpArgs false

theorem ratom_any (Z : Nat → Prop) (st : Nat) (xs : List ND) (w : World) (n : Int) (h : AQ w Z st xs) (hn : I64 n) :
    Calls Tryz.prog 35 #[.pointer (some ⟨st, 0, none⟩), .int .i64 n] w fun e w' => e = .returned (.tuple #[.int .i64 (makI xs (atN n)), .int .i64 (makE xs (atN n))]) ∧ AqS w Z st (makT xs (atN n)) w' := by
  have HM := hid (rmke_any Z st xs w (atN n) none 0 h (SlA.nil _ _) (ndI_at hn))
  clear h
  go_enter Tryz.func35, Tryz.ntmps35
  go_wp2_with fail
  refine HM.out.mono ?_
  rintro e w' ⟨rfl, hs⟩
  have HS := hid hs
  clear hs
  go_wp2_with fail
  go_ret2
  exact ⟨rfl, HS.out⟩
theorem Tw.la {w W : World} {sa sb : Nat} {Z Z' : Nat → Prop} {xs : List ND} (h : Tw w W sa sb Z Z' xs) : LA w W Z sa xs := ⟨h.a, h.za, h.bl⟩
end Go.Proofs.YtpkijlmkgomfeaaGreatDoor

/- schedule: Psk, Joiner. -/
namespace Go.KK
open Go.RowKit
set_option linter.unusedVariables false
set_option linter.unusedSimpArgs false
end Go.KK
namespace Go.Proofs.YtpkijlmkgomfeaaGreatDoor
open Go.RowKit Go.KK Go.Shelf Go.Maps

/-- A row of numbers that the arena's steps leave alone. -/
def SlM (W : World) (Z : Nat → Prop) (A : Option Addr) (n c : Nat) (l : List Int) : Prop := SlA W 1 A n c (l.map (.int .i64)) ∧ ∀ b o, A = some ⟨b, o, none⟩ → 0 < n → b < W.heap.size ∧ ¬ Z b
theorem SlM.mv {W W' : World} {Z Z' : Nat → Prop} {A : Option Addr} {n c : Nat} {l : List Int} (h : SlM W Z A n c l) (m : Mv Z W Z' W') : SlM W' Z' A n c l := by
  refine ⟨⟨h.1.nc, h.1.cm, h.1.len, fun j u hj => ?_⟩, fun b o e hn => ?_⟩
  · have hjl := (List.getElem?_eq_some_iff.1 hj).1
    have hlen := h.1.len
    obtain ⟨b, off, e, hc⟩ := h.1.cells j u hj
    have hn : 0 < n := by omega
    obtain ⟨h1, h2⟩ := h.2 b off e hn
    refine ⟨b, off, e, ?_⟩
    rw [World.cell?_of_block (a := ⟨b, off + j, none⟩) (show W'.heap[b]? = W.heap[b]? from m.t.block b h1 h2)]
    exact hc
  · obtain ⟨h1, h2⟩ := h.2 b o e hn
    refine ⟨Nat.lt_of_lt_of_le h1 m.t.size, fun hz => ?_⟩
    rcases m.n b hz with h | h
    · exact h2 h
    · omega
theorem SlM.nil (W : World) (Z : Nat → Prop) : SlM W Z none 0 0 [] := ⟨SlA.nil _ _, fun b o e => by cases e⟩
section
variable {w0 W W' : World} {Z Z' : Nat → Prop} {sa : Nat} {xs xs' : List ND}
end
end Go.Proofs.YtpkijlmkgomfeaaGreatDoor

/- schedule: Begin's variables, and what lays a term as long as there is no error. -/
namespace Go.KK
open Go.RowKit
set_option linter.unusedVariables false
set_option linter.unusedSimpArgs false
end Go.KK
namespace Go.Proofs.YtpkijlmkgomfeaaGreatDoor
open Go.RowKit Go.KK Go.Shelf Go.Maps

section
variable {w0 W W' : World} {Z Z' : Nat → Prop} {sa H : Nat} {xs xs' : List ND} {B B' : Nat → Array Value}
theorem LA.put1 (h : LA w0 W Z sa xs) {b o : Nat} (v : Value) (hz : ¬ Z b) (hb : w0.heap.size ≤ b) : LA w0 (W.setCell ⟨b, o, none⟩ v) Z sa xs := by
  have ht : Turn (fun k => k = b) W (W.setCell ⟨b, o, none⟩ v) := Turn.setCell v (.inl rfl)
  exact ⟨h.ar.turn ht fun k hk e => hz (e ▸ hk), h.z, h.bl.trans (ht.below (fun k e => e ▸ hb) h.bl.size)⟩
end
section
variable {w0 W : World} {Z : Nat → Prop} {sa H : Nat} {j p x : Int} {R : List ND × List Int × Int} {f : List Int → List ND → Rs} {ep : List Int} {mem ext : Int}
end
end Go.Proofs.YtpkijlmkgomfeaaGreatDoor

/- schedule: what the closures of Begin make. -/
namespace Go.Proofs.YtpkijlmkgomfeaaGreatDoor
open Go.RowKit Go.KK Go.Shelf Go.Maps
set_option linter.unusedVariables false
set_option linter.unusedSimpArgs false

section
variable {w0 W : World} {Z : Nat → Prop} {sa H : Nat} {xs : List ND} {j p x : Int} {ep : List Int} {first mem ext : Int}
end
end Go.Proofs.YtpkijlmkgomfeaaGreatDoor

/- schedule: Begin. -/
namespace Go.KK
open Go.RowKit
set_option linter.unusedVariables false
set_option linter.unusedSimpArgs false
end Go.KK
namespace Go.Proofs.YtpkijlmkgomfeaaGreatDoor
open Go.RowKit Go.KK Go.Shelf Go.Maps

theorem Mv.step {Z Z1 Z2 : Nat → Prop} {W W1 W2 : World} {H : Nat} (a : Mv Z W Z1 W1) (ht : Turn (fun b => Z1 b ∨ H ≤ b) W1 W2) (hn : ∀ b, Z2 b → Z1 b ∨ W1.heap.size ≤ b) (hH : W.heap.size ≤ H) : Mv Z W Z2 W2 :=
  ⟨a.t.trans ht (fun k hk => hk.elim (a.n k) fun h => .inr (Nat.le_trans hH h)), fun k hk => (hn k hk).elim (a.n k) fun h => .inr (Nat.le_trans a.t.size h)⟩
section
variable {w0 W : World} {Z : Nat → Prop} {sa : Nat} {xs : List ND} {j p x : Int}
end
end Go.Proofs.YtpkijlmkgomfeaaGreatDoor

/- schedule: Begin walked. -/
namespace Go.Proofs.YtpkijlmkgomfeaaGreatDoor
open Go.RowKit Go.KK Go.Shelf Go.Maps
set_option linter.unusedVariables false
set_option linter.unusedSimpArgs false

section
variable {w0 W : World} {Z : Nat → Prop} {sa : Nat} {xs : List ND} {j p x : Int}
end
end Go.Proofs.YtpkijlmkgomfeaaGreatDoor

/- schedule: Begin walked whole. -/
namespace Go.Proofs.YtpkijlmkgomfeaaGreatDoor
open Go.RowKit Go.KK Go.Shelf Go.Maps
set_option linter.unusedVariables false
set_option linter.unusedSimpArgs false

section
variable {w0 W : World} {Z : Nat → Prop} {sa : Nat} {xs : List ND}
end
end Go.Proofs.YtpkijlmkgomfeaaGreatDoor

/- schedule: Inner, Next. -/
namespace Go.Proofs.YtpkijlmkgomfeaaGreatDoor
open Go.RowKit Go.KK Go.Shelf Go.Maps
set_option linter.unusedVariables false
set_option linter.unusedSimpArgs false

section
variable {w0 W : World} {Z : Nat → Prop} {sa : Nat} {xs : List ND}
end
end Go.Proofs.YtpkijlmkgomfeaaGreatDoor

/- the document's layer 3: SameInts (without Rising). -/
namespace Go.Proofs.YtpkijlmkgomfeaaGreatDoor
open Go.RowKit Go.KK Go.Shelf Go.Maps
set_option linter.unusedVariables false
set_option linter.unusedSimpArgs false

theorem take_get {α : Type} {l : List α} {k : Nat} {x : α} (h : l[k]? = some x) : l.take (k + 1) = l.take k ++ [x] := by
  obtain ⟨hk, rfl⟩ := List.getElem?_eq_some_iff.1 h
  exact List.take_succ_eq_append_getElem hk
theorem run_cut_to6 {P : Program} {A : Option Addr} {n c sz : Nat} {t e : TypeId} (ht : P.underlying t = some (.slice e)) (hs : ∀ W : World, (sizeOf e).run P W = .ok sz W) {p : Nat} (hp : p ≤ c) :
    ∀ W : World, (Instr.slice t (.slice A n c) none (some (.int .i64 (p : Int))) none).run P W = .ok (.slice A p c) W := by
  intro W
  have he : P.elem t = e := by simp [Program.elem, ht]
  rw [run_slice_h W t A n c (by rw [he]; exact ht) .i64 p (by omega) (by omega), he, hs W]
  have hz : ∀ a : Addr, a.add 0 = a := fun a => by simp [Addr.add]
  simp [Result.andThen, sliced, hz]
theorem take_eq_step {l m : List Int} {j : Nat} {x : Int} (h : l.take j = m.take j) (h1 : l[j]? = some x) (h2 : m[j]? = some x) : l.take (j + 1) = m.take (j + 1) := by
  rw [take_get h1, take_get h2, h]
theorem ne_of_at {l m : List Int} {j : Nat} {x y : Int} (h1 : l[j]? = some x) (h2 : m[j]? = some y) (h : x ≠ y) : (l == m) = false := by
  refine beq_eq_false_iff_ne.2 fun e => h ?_
  rw [e, h2] at h1
  injection h1 with h1
  exact h1.symm
theorem same_ints (A : Option Addr) (n c : Nat) (l : List Int) (B : Option Addr) (m d : Nat) (l' : List Int) (w : World) (h : SlA w 1 A n c (l.map (.int .i64))) (h' : SlA w 1 B m d (l'.map (.int .i64))) (hn : n ≤ 2147483648) (hm : m ≤ 2147483648) :
    Calls Tryz.prog 32 #[.slice A n c, .slice B m d] w fun e w' => e = .returned (.bool (l == l')) ∧ ∃ q, w' = w.drewN q := by
  have HL := hid h.lenI; have HS := hid h; have HL' := hid h'.lenI; have HS' := hid h'
  clear h h'
  by_cases hnm : n = m
  · subst hnm
    go_enter Tryz.func32, Tryz.ntmps32
    go_wp2
    go_loopw [13, 4] (fun i _ wr => ∃ j q : Nat, i = .int .i64 j ∧ j ≤ n ∧ Hid (l.take j = l'.take j) ∧ wr = w.drewN q) (fun i _ _ => n - (intOf i).toNat)
    case atStart => exact ⟨0, 0, rfl, by omega, hid rfl, rfl⟩
    case round =>
      obtain ⟨j, q, hi, hj, HJ, hw⟩ := hrel
      subst hi; subst hw
      by_cases hlt : j < n
      · obtain ⟨b, o, z, rfl, hz, hc⟩ := HS.out.elemI hlt
        obtain ⟨b', o', z', rfl, hz', hc'⟩ := HS'.out.elemI hlt
        have hj0 : (0 : Int) ≤ (j : Int) := by omega
        have hj1 : (j : Int) < (n : Int) := by omega
        have HZ := hid hz; have HZ' := hid hz'
        clear hz hz'
        by_cases hzx : z = z'
        · have HF := hid (take_eq_step HJ.out HZ.out (hzx ▸ HZ'.out))
          have hzx' : (z != z') = false := by rw [hzx]; simp
          clear hzx
          go_wp2
          go_quiet (fail)
          go_wp2
          go_roundw
          case rel => exact ⟨j + 1, _, by go_num, by omega, HF, rfl⟩
          case measure => simp [intOf]; omega
        · have HF := hid (ne_of_at HZ.out HZ'.out hzx)
          have hzx' : (z != z') = true := bne_iff_ne.2 hzx
          clear hzx
          go_wp2
          go_quiet (fail)
          go_wp2
          go_ret
          exact ⟨by rw [HF.out]; rfl, _, World.drewN_drewN _ _ _⟩
      · have HF := hid (show (l == l') = true from beq_iff_eq.2 (by
          have := HJ.out
          rwa [List.take_of_length_le (by have := HL.out; omega), List.take_of_length_le (by have := HL'.out; omega)] at this))
        go_wp2
        go_ret
        exact ⟨by rw [HF.out]; rfl, q, rfl⟩
  · have HF := hid (show (l == l') = false from beq_eq_false_iff_ne.2 fun e => hnm (by rw [← HL.out, ← HL'.out, e]))
    have hnm' : ((n : Int) != (m : Int)) = true := bne_iff_ne.2 (by omega)
    clear hnm
    go_enter Tryz.func32, Tryz.ntmps32
    go_wp2
    go_ret
    exact ⟨by rw [HF.out]; rfl, 0, rfl⟩
end Go.Proofs.YtpkijlmkgomfeaaGreatDoor

/- schedule's law: live; numbers beyond; what its laws share. -/
namespace Go.Proofs.YtpkijlmkgomfeaaGreatDoor
open Go.RowKit Go.KK Go.Shelf Go.Maps
set_option linter.unusedVariables false
set_option linter.unusedSimpArgs false

theorem SlM.new {w0 W : World} {Z : Nat → Prop} {sa : Nat} {xs : List ND} (la : LA w0 W Z sa xs) (vs : Array Value) (l : List Int) (T : TypeId) (hv : vs.toList = l.map (.int .i64)) (hm : vs.size ≤ maxLen) : SlM (W.alloc (.cells vs T)) Z (some ⟨W.heap.size, 0, none⟩) vs.size vs.size l := by
  refine ⟨by rw [← hv]; exact sla_row vs hm, fun b o e _ => ?_⟩
  injection e with e
  injection e with e1 e2
  subst e1
  exact ⟨by simp, fun hz => by have := la.ar.zlt _ hz; omega⟩
end Go.Proofs.YtpkijlmkgomfeaaGreatDoor

/- schedule: Export. -/
namespace Go.Proofs.YtpkijlmkgomfeaaGreatDoor
open Go.RowKit Go.KK Go.Shelf Go.Maps
set_option linter.unusedVariables false
set_option linter.unusedSimpArgs false

section
variable {w0 W : World} {Z : Nat → Prop} {sa : Nat} {xs : List ND}
end
end Go.Proofs.YtpkijlmkgomfeaaGreatDoor

/- nodes: the locker in memory, and what it does. -/
namespace Go.Proofs.YtpkijlmkgomfeaaGreatDoor
open Go.RowKit Go.KK Go.Shelf Go.Maps
set_option linter.unusedVariables false
set_option linter.unusedSimpArgs false

def Zk (Z : Nat → Prop) (bk : Nat) (b : Nat) : Prop := Z b ∨ b = bk
section
variable {w0 W W' : World} {Z Z' : Nat → Prop} {sa bk : Nat} {S : KS} {ex cx : Int} {X' : List ND}
theorem Mv.set (Z : Nat → Prop) (W : World) (bk o : Nat) (v : Value) : Mv (Zk Z bk) W (Zk Z bk) (W.setCell ⟨bk, o, none⟩ v) :=
  ⟨Turn.setCell v (.inl (.inr rfl)), fun b h => .inl h⟩
end
section
variable {w0 W : World} {Z : Nat → Prop} {sa bk : Nat} {S : KS} {ex cx : Int}
end
end Go.Proofs.YtpkijlmkgomfeaaGreatDoor

/- appends in a region that draws its order, whichever order: words of memory, of no program. -/
namespace Go.KK
open Go.RowKit
set_option linter.unusedVariables false
set_option linter.unusedSimpArgs false

/-- What stands in a block. -/
def HasO (o : Obj) (b : Nat) (W : World) : Prop := W.heap[b]? = some o
section
variable {o o' : Obj} {b g B : Nat} {W V a : World}
theorem HasO.new (o : Obj) (W : World) : HasO o W.heap.size (W.alloc o) := heap_alloc_new W o
theorem HasO.lt (h : HasO o b W) : b < W.heap.size := (Array.getElem?_eq_some_iff.1 h).1
theorem HasO.bel (h : HasO o b W) (hb : Below W.heap.size W V) : HasO o b V := (hb.block b h.lt).trans h
theorem HasO.alloc (h : HasO o b W) : HasO o b (W.alloc o') := h.bel ((Below.refl _ _).alloc (Nat.le_refl _) o')
theorem HasO.drew (h : HasO o b W) : HasO o b W.drew := h
theorem HasO.grown (h : HasO o b W) (hg : W.grownBy V (some g)) (hn : b ≠ g) : HasO o b V := (hg.block b h.lt fun e => hn (Option.some.inj e)).trans h
theorem size_al : (W.alloc o).heap.size = W.heap.size + 1 := by simp
end
section
variable {P : Program} (w : World)
end
section
variable {P : Program} (w : World)
end
end Go.KK

/- nodes: keys, and a node's content. -/
namespace Go.Proofs.YtpkijlmkgomfeaaGreatDoor
open Go.RowKit Go.KK Go.Shelf Go.Maps
set_option linter.unusedVariables false
set_option linter.unusedSimpArgs false

/-- What reads only blocks that Z spares. -/
def Fx (V : World) (Z : Nat → Prop) (P : World → Prop) : Prop := ∃ R : Nat → Prop, (∀ b, R b → ¬ Z b ∧ b < V.heap.size) ∧ ∀ V' : World, (∀ b, R b → V'.heap[b]? = V.heap[b]?) → P V'
section
variable {V V' : World} {Z Z' : Nat → Prop} {P : World → Prop}
theorem Fx.here (h : Fx V Z P) : P V := by obtain ⟨R, h1, h2⟩ := h; exact h2 V fun _ _ => rfl
theorem Fx.mv (h : Fx V Z P) (m : Mv Z V Z' V') : Fx V' Z' P := by
  obtain ⟨R, h1, h2⟩ := h
  have hb : ∀ b, R b → V'.heap[b]? = V.heap[b]? := fun b hr => m.t.block b (h1 b hr).2 (h1 b hr).1
  exact ⟨R, fun b hr => ⟨fun hz => (m.n b hz).elim (h1 b hr).1 fun h' => by have := (h1 b hr).2; omega, Nat.lt_of_lt_of_le (h1 b hr).2 m.t.size⟩, fun V2 hv => h2 V2 fun b hr => (hv b hr).trans (hb b hr)⟩
theorem Fx.ext (h : Fx V Z P) (hb : Below V.heap.size V V') : Fx V' Z P := h.mv (Mv.below hb)
theorem Fx.mono {Q : World → Prop} (h : Fx V Z P) (hq : ∀ V, P V → Q V) : Fx V Z Q := by obtain ⟨R, h1, h2⟩ := h; exact ⟨R, h1, fun V' hv => hq _ (h2 V' hv)⟩
end
theorem i64_0 : I64 0 := i64_lit (by decide) (by decide)
section
variable {S : KS}
theorem do_i {f : List ND → Rs} (hf : I64 (f S.x).2.1) : I64 (doF S f).2 := by
  by_cases he : S.e = 0
  · rw [show doF S f = (⟨(f S.x).1, (f S.x).2.2⟩, (f S.x).2.1) from if_pos he]; exact hf
  · rw [do_no f he]; exact i64_0
theorem tx_i (ok : Okay S.x) (s : ByteArray) : I64 (doF S (txF s)).2 := do_i (idx_i64 ok (txN s))
theorem li_i (ok : Okay S.x) (l : List Int) : I64 (doF S (liF l)).2 := do_i (idx_i64 ok (ndN 3 l))
end
section
variable {w0 W : World} {Z : Nat → Prop} {sa bk : Nat} {S : KS} {ex cx : Int}
end
end Go.Proofs.YtpkijlmkgomfeaaGreatDoor

/- layer 9: the maker in memory, and what it does. -/
namespace Go.Proofs.YtpkijlmkgomfeaaGreatDoor
open Go.RowKit Go.KK Go.Shelf Go.Maps
set_option linter.unusedVariables false
set_option linter.unusedSimpArgs false

/-- The maker, and its arena. -/
structure MK (w0 W : World) (Z : Nat → Prop) (sa bk : Nat) (S : KS) : Prop where
  la : LA w0 W Z sa S.x
  k : W.heap[bk]? = some (.cells #[.pointer (some ⟨sa, 0, none⟩), .int .i64 S.e] 205 (0, 0))
  nz : ¬ Z bk
  lo : w0.heap.size ≤ bk
section
variable {w0 W W' : World} {Z Z' : Nat → Prop} {sa bk : Nat} {S : KS} {X' : List ND}
theorem MK.lt (h : MK w0 W Z sa bk S) : bk < W.heap.size := (Array.getElem?_eq_some_iff.1 h.k).1
theorem MK.c0 (h : MK w0 W Z sa bk S) : W.cell? ⟨bk, 0, none⟩ = some (.pointer (some ⟨sa, 0, none⟩)) := by rw [cell_of_row W bk 0 _ _ (0, 0) h.k]; rfl
theorem MK.c1 (h : MK w0 W Z sa bk S) : W.cell? ⟨bk, 1, none⟩ = some (.int .i64 S.e) := by rw [cell_of_row W bk 1 _ _ (0, 0) h.k]; rfl
theorem MK.fz (h : MK w0 W Z sa bk S) (i : Nat) : W.frozen? ⟨bk, i, none⟩ = false := frozen_of_row W bk i _ _ h.k
theorem MK.ext (h : MK w0 W Z sa bk S) (hb : Below W.heap.size W W') : MK w0 W' Z sa bk S :=
  ⟨h.la.ext hb, (hb.block bk h.lt).trans h.k, h.nz, h.lo⟩
theorem MK.mv (h : MK w0 W Z sa bk S) (l : LA w0 W' Z' sa X') (m : Mv Z W Z' W') : MK w0 W' Z' sa bk ⟨X', S.e⟩ :=
  ⟨l, (m.t.block bk h.lt h.nz).trans h.k, fun hz => (m.n bk hz).elim h.nz fun h' => by have := h.lt; omega, h.lo⟩
theorem MK.put (h : MK w0 W Z sa bk S) (e : Int) : MK w0 (W.setCell ⟨bk, 1, none⟩ (.int .i64 e)) Z sa bk ⟨S.x, e⟩ := by
  refine ⟨h.la.put1 _ h.nz h.lo, ?_, h.nz, h.lo⟩
  rw [heap_setCell_same W bk 1 _ _ _ h.k]; rfl
theorem MK.i64 (h : MK w0 W Z sa bk S) {i : Int} (hi : hasB S.x i = true) : I64 i := by
  have a := has_iff.1 hi
  have b := h.la.ar.ok.len
  exact ⟨by omega, by omega⟩
theorem MK.new (h : MK w0 W Z sa bk S) : ¬ Zk Z bk W.heap.size := fun hz => hz.elim (fun hz => by have := h.la.ar.zlt _ hz; omega) (fun e => by have := h.lt; omega)
end
section
variable {w0 W : World} {Z : Nat → Prop} {sa bk : Nat} {S : KS}
end
end Go.Proofs.YtpkijlmkgomfeaaGreatDoor

/- nodes: a node's content. -/
namespace Go.Proofs.YtpkijlmkgomfeaaGreatDoor
open Go.RowKit Go.KK Go.Shelf Go.Maps
set_option linter.unusedVariables false
set_option linter.unusedSimpArgs false

theorem LA.turn {w0 W W' : World} {Z F : Nat → Prop} {sa : Nat} {xs : List ND} (h : LA w0 W Z sa xs) (ht : Turn F W W') (hd : ∀ b, Z b → ¬ F b) (hf : ∀ b, F b → w0.heap.size ≤ b) : LA w0 W' Z sa xs :=
  ⟨h.ar.turn ht hd, h.z, h.bl.trans (ht.below hf h.bl.size)⟩
/-- A node as a value. -/
def tnV (n : TN) (q : Value) : Value := .agg #[.int .i64 n.k, .int .i64 n.i, .int .i64 n.e, .int .i64 n.s, .int .i64 n.h, q]
section
variable {w0 W V V' : World} {Z Z' Z2 : Nat → Prop} {sa bk b3 : Nat} {S S' S2 : KS} {ex cx : Int} {cs : Array Value} {v v' : Value} {l l' : List Int} {P : World → Prop}
end
section
variable {w0 W : World} {Z : Nat → Prop} {sa bk : Nat} {S : KS} {ex cx : Int}
end
end Go.Proofs.YtpkijlmkgomfeaaGreatDoor

/- layer 9: what a longer walk of the maker's carries. -/
namespace Go.Proofs.YtpkijlmkgomfeaaGreatDoor
open Go.RowKit Go.KK Go.Shelf Go.Maps
set_option linter.unusedVariables false
set_option linter.unusedSimpArgs false

section
variable {w0 W V V' : World} {Z Z' Z2 : Nat → Prop} {sa bk b3 : Nat} {S S' S2 : KS} {v v' : Value} {l l' : List Int} {P : World → Prop} {bs : List (Nat × Obj)} {X : List ND}
/-- A longer walk: boxes of its own, a row of terms, what it reads. -/
structure NM (w0 W V : World) (Z Z' : Nat → Prop) (sa bk : Nat) (bs : List (Nat × Obj)) (v : Value) (l : List Int) (S' : KS) (P : World → Prop) : Prop where
  lk : MK w0 V Z' sa bk S'
  bx : ∀ p ∈ bs, V.heap[p.1]? = some p.2 ∧ ¬ Zk Z' bk p.1 ∧ W.heap.size ≤ p.1
  un : V.ownsRow W.heap.size 3 1 v l.length (l.map (.int .i64))
  nu : ∀ b, v.ownBlock = some b → ¬ Zk Z' bk b ∧ ∀ p ∈ bs, b ≠ p.1
  fu : ∃ R : Nat → Prop, (∀ b, R b → ¬ Zk Z' bk b ∧ b < W.heap.size) ∧ ∀ V', (∀ b, R b → V'.heap[b]? = V.heap[b]?) → P V'
  m : Mv (Zk Z bk) W (Zk Z' bk) V
  m0 : w0.heap.size ≤ W.heap.size
theorem NM.mv (h : NM w0 W V Z Z' sa bk bs v l S' P) (k : MK w0 V' Z2 sa bk S2) (m : Mv (Zk Z' bk) V (Zk Z2 bk) V') : NM w0 W V' Z Z2 sa bk bs v l S2 P := by
  have nz : ∀ b, b < V.heap.size → ¬ Zk Z' bk b → ¬ Zk Z2 bk b := fun b hb hz h2 => (m.n b h2).elim hz fun h' => by omega
  obtain ⟨R, r1, r2⟩ := h.fu
  have sz := h.m.t.size
  exact ⟨k, fun p hp => by
      obtain ⟨a1, a2, a3⟩ := h.bx p hp
      have hlt := (Array.getElem?_eq_some_iff.1 a1).1
      exact ⟨(m.t.block p.1 hlt a2).trans a1, nz p.1 hlt a2, a3⟩, own_block h.un fun b hb => m.t.block b (h.un.lt b hb).2 (h.nu b hb).1, fun b hb => ⟨nz b (h.un.lt b hb).2 (h.nu b hb).1, (h.nu b hb).2⟩,
    ⟨R, fun b hr => ⟨nz b (Nat.lt_of_lt_of_le (r1 b hr).2 sz) (r1 b hr).1, (r1 b hr).2⟩, fun V2 hv => r2 V2 fun b hr => (hv b hr).trans (m.t.block b (Nat.lt_of_lt_of_le (r1 b hr).2 sz) (r1 b hr).1)⟩, h.m.trans m, h.m0⟩
theorem NM.ext (h : NM w0 W V Z Z' sa bk bs v l S' P) (hb : Below V.heap.size V V') : NM w0 W V' Z Z' sa bk bs v l S' P := h.mv (h.lk.ext hb) (Mv.below hb)
theorem NM.app (h : NM w0 W V Z Z' sa bk bs v l S' P) (hn : V'.ownsRow W.heap.size 3 1 v' l'.length (l'.map (.int .i64))) (hg : V.grownBy V' v.ownBlock) (hl : v'.ownBlock = v.ownBlock ∨ v'.ownBlock = some V.heap.size) : NM w0 W V' Z Z' sa bk bs v' l' S' P := by
  have ht : Turn (fun b => v.ownBlock = some b) V V' := Turn.grown hg fun b hb => .inl hb
  have sz := h.m.t.size
  obtain ⟨R, r1, r2⟩ := h.fu
  have new : ∀ b, v'.ownBlock = some b → v.ownBlock = some b ∨ b = V.heap.size := fun b hb => by
    rcases hl with hl | hl
    · exact .inl (hl ▸ hb)
    · rw [hl] at hb; injection hb with hb; exact .inr hb.symm
  refine ⟨⟨h.lk.la.turn ht (fun b hz e => (h.nu b e).1 (.inl hz)) (fun b e => Nat.le_trans (h.m0) (h.un.lt b e).1), (ht.block bk h.lk.lt fun e => (h.nu bk e).1 (.inr rfl)).trans h.lk.k, h.lk.nz, h.lk.lo⟩, fun p hp => ?_, hn, fun b hb => ?_, ⟨R, r1, fun V2 hv => r2 V2 fun b hr => (hv b hr).trans (ht.block b (Nat.lt_of_lt_of_le (r1 b hr).2 sz) fun e => by have := (h.un.lt b e).1; have := (r1 b hr).2; omega)⟩, ⟨h.m.t.trans ht fun b e => .inr (h.un.lt b e).1, h.m.n⟩, h.m0⟩
  · obtain ⟨a1, a2, a3⟩ := h.bx p hp
    exact ⟨(ht.block p.1 (Array.getElem?_eq_some_iff.1 a1).1 fun e => (h.nu _ e).2 p hp rfl).trans a1, a2, a3⟩
  · rcases new b hb with e | e
    · exact h.nu b e
    · subst e
      exact ⟨h.lk.new, fun p hp e => by have := (Array.getElem?_eq_some_iff.1 (h.bx p hp).1).1; omega⟩
/-- A box more. -/
theorem NM.push (h : NM w0 W V Z Z' sa bk bs v l S' P) (o : Obj) : NM w0 W (V.alloc o) Z Z' sa bk ((V.heap.size, o) :: bs) v l S' P := by
  have h2 := h.ext ((Below.refl V.heap.size V).alloc (Nat.le_refl _) o)
  refine ⟨h2.lk, fun p hp => ?_, h2.un, fun b hb => ⟨(h2.nu b hb).1, fun p hp => ?_⟩, h2.fu, h2.m, h2.m0⟩
  · rcases List.mem_cons.1 hp with rfl | hp
    · exact ⟨heap_alloc_new V o, h.lk.new, h.m.t.size⟩
    · exact h2.bx p hp
  · rcases List.mem_cons.1 hp with rfl | hp
    · have := (h.un.lt b hb).2; show b ≠ V.heap.size; omega
    · exact (h2.nu b hb).2 p hp
theorem NM.fx (h : NM w0 W V Z Z' sa bk bs v l S' P) : Fx V (Zk Z' bk) P := by
  obtain ⟨R, r1, r2⟩ := h.fu
  exact ⟨R, fun b hb => ⟨(r1 b hb).1, Nat.lt_of_lt_of_le (r1 b hb).2 h.m.t.size⟩, r2⟩
theorem NM.here (h : NM w0 W V Z Z' sa bk bs v l S' P) : P V := h.fx.here
theorem NM.fz (h : NM w0 W V Z Z' sa bk bs v l S' P) {b : Nat} {cs : Array Value} {T : TypeId} (hp : (b, .cells cs T (0, 0)) ∈ bs) (o : Nat) : V.frozen? ⟨b, o, none⟩ = false := frozen_of_row V b o _ _ (h.bx _ hp).1
theorem NM.cell (h : NM w0 W V Z Z' sa bk bs v l S' P) {b : Nat} {cs : Array Value} {T : TypeId} (hp : (b, .cells cs T (0, 0)) ∈ bs) (o : Nat) : V.cell? ⟨b, o, none⟩ = cs[o]? := cell_of_row V b o _ _ (0, 0) (h.bx _ hp).1
end
end Go.Proofs.YtpkijlmkgomfeaaGreatDoor

/- math: what a tree's numbers are. -/
namespace Go.Proofs.YtpkijlmkgomfeaaGreatDoor
open Go.RowKit Go.KK
set_option linter.unusedVariables false
set_option linter.unusedSimpArgs false

/-- A number of leaves that a tree may have. -/
def fullN (n : Int) : Bool := decide (n = 1 ∨ n = 2 ∨ n = 4 ∨ n = 8 ∨ n = 16 ∨ n = 32 ∨ n = 64 ∨ n = 128 ∨ n = 256)
theorem fullN_and : ∀ n : Nat, n < 256 → (((n + 1) &&& n) = 0 ↔ fullN ((n + 1 : Nat) : Int) = true) := by decide +kernel
theorem fullN_bits {n : Int} (h1 : 1 ≤ n) (h2 : n ≤ 256) : ∃ k : Nat, bits .and .i64 n (n - 1) = (k : Int) ∧ fullN n = decide (k = 0) := by
  refine ⟨_, i64_and _ _ (by omega) (by omega) (by omega) (by omega), ?_⟩
  have hf := fullN_and (n.toNat - 1) (by omega)
  rw [show n.toNat - 1 + 1 = n.toNat by omega, show ((n.toNat : Nat) : Int) = n by omega, show n.toNat - 1 = (n - 1).toNat by omega] at hf
  rcases hc : fullN n with _ | _
  · exact (decide_eq_false fun h => by rw [hf.1 h] at hc; cases hc).symm
  · exact (decide_eq_true (hf.2 hc)).symm
theorem full_any (n : Int) (w : World) :
    Calls Tryz.prog 232 #[.int .i64 n] w fun e w' => e = .returned (.bool (fullN n)) ∧ w' = w := by
  go_enter Tryz.func232, Tryz.ntmps232
  by_cases h1 : 1 ≤ n
  · by_cases h2 : n ≤ 256
    · obtain ⟨k, hb, hf⟩ := fullN_bits h1 h2
      rw [hf]
      clear hf
      by_cases h0 : k = 0
      · subst h0
        go_wp2
        go_ret
        exact ⟨rfl, rfl⟩
      · have hz : ((k : Int) == 0) = false := beq_eq_false_iff_ne.2 (by omega)
        rw [decide_eq_false h0]
        clear h0
        go_wp2
        go_ret
        exact ⟨rfl, rfl⟩
    · have hn : fullN n = false := decide_eq_false (by omega)
      rw [hn]
      go_wp2
      go_ret
      exact ⟨rfl, rfl⟩
  · have hn : fullN n = false := decide_eq_false (by omega)
    rw [hn]
    go_wp2
    go_ret
    exact ⟨rfl, rfl⟩

theorem xor_max (x : Nat) (hx : x < 9223372036854775808) : bits .xor .u64 IntKind.u64.max (x : Int) = ((18446744073709551615 - x : Nat) : Int) := by
  show IntKind.u64.wrap ((BitVec.ofInt 64 IntKind.u64.max ^^^ BitVec.ofInt 64 (x : Int)).toNat : Int) = _
  have h1 : BitVec.ofInt 64 IntKind.u64.max = BitVec.allOnes 64 := by decide
  rw [h1, BitVec.allOnes_xor, BitVec.toNat_not, ofInt_i64 x (by omega), IntKind.wrap_u64]
  omega
/-- A node's level: the ones that it ends in. -/
def lvl (x : Int) : Nat := Lib.ctz 64 (18446744073709551615 - x.toNat)
theorem lvl_y {x : Int} (h0 : 0 ≤ x) (h1 : x < 9223372036854775807) : ∃ y : Nat, bits .xor .u64 IntKind.u64.max x = (y : Int) ∧ Hid (y < 18446744073709551616) ∧ lvl x = Lib.ctz 64 y := by
  obtain ⟨m, rfl⟩ := Int.eq_ofNat_of_zero_le h0
  exact ⟨_, xor_max m (by omega), by show _ < _; omega, rfl⟩
theorem level_any (x : Int) (w : World) (h0 : 0 ≤ x) (h1 : x < 9223372036854775807) (hT : Tab w) :
    Calls Tryz.prog 246 #[.int .i64 x] w fun e w' => e = .returned (.int .i64 (lvl x)) ∧ w' = w := by
  go_enter Tryz.func246, Tryz.ntmps246
  obtain ⟨y, hx, HY, hl⟩ := lvl_y h0 h1
  rw [hl]
  clear hl
  go_wp2_with fail
  refine (Tryz.trailing y HY.out _ hT).mono ?_
  rintro e w' ⟨rfl, rfl⟩
  go_wp2
  go_ret
  exact ⟨rfl, rfl⟩

end Go.Proofs.YtpkijlmkgomfeaaGreatDoor

/- math: the node above, and the way up. -/
namespace Go.Proofs.YtpkijlmkgomfeaaGreatDoor
open Go.RowKit Go.KK
set_option linter.unusedVariables false
set_option linter.unusedSimpArgs false

/-- The node above, in a tree without an end. -/
def upV (x : Int) : Int := bits .andNot .i64 (bits .or .i64 x (wrap64 (2 ^ lvl x))) (wrap64 (2 ^ (lvl x + 1)))
theorem lvl_small : ∀ x : Nat, x < 511 → lvl (x : Int) ≤ 8 := by decide +kernel
theorem lvl_le {x : Int} (h0 : 0 ≤ x) (h1 : x ≤ 510) : lvl x ≤ 8 := by
  obtain ⟨m, rfl⟩ := Int.eq_ofNat_of_zero_le h0
  exact lvl_small m (by omega)
theorem up_any (x : Int) (w : World) (h0 : 0 ≤ x) (h1 : x ≤ 510) (hT : Tab w) :
    Calls Tryz.prog 237 #[.int .i64 x] w fun e w' => e = .returned (.int .i64 (upV x)) ∧ w' = w.drew := by
  have HT := hid hT; clear hT
  have hk0 : (0 : Int) ≤ (lvl x : Int) := by omega
  have hk1 : (lvl x : Int) ≤ 9 := by have := lvl_le h0 h1; omega
  go_enter Tryz.func237, Tryz.ntmps237
  go_wp2_with (go_at_call 246; refine (level_any x _ h0 (by omega) HT.out).mono ?_; rintro e w' ⟨rfl, rfl⟩)
  go_region
  go_wp2
  go_ret
  exact ⟨rfl, rfl⟩

theorem width1_any (n : Int) (b : Nat) (w : World) (h1 : 1 ≤ n) (h2 : n ≤ 256) (hc : w.cell? ⟨b, 0, none⟩ = some (.int .i64 n)) :
    Calls Tryz.prog 233 #[.pointer (some ⟨b, 0, none⟩)] w fun e w' => e = .returned (.int .i64 (2 * n - 1)) ∧ w' = w := by
  go_enter Tryz.func233, Tryz.ntmps233
  go_wp2
  go_ret
  exact ⟨rfl, rfl⟩
theorem whenW_any (ok : Bool) (n : Int) (b : Nat) (w : World) (h1 : ok = true → 1 ≤ n ∧ n ≤ 256) (hc : w.cell? ⟨b, 0, none⟩ = some (.int .i64 n)) :
    Calls Tryz.prog 231 #[.bool ok, .func (.func 233) #[] #[.pointer (some ⟨b, 0, none⟩)]] w fun e w' => e = .returned (.tuple #[.int .i64 (if ok then 2 * n - 1 else 0), .int .i64 (if ok then 0 else 1)]) ∧ w' = w := by
  rcases ok with _ | _
  · go_enter Tryz.func231, Tryz.ntmps231
    go_wp2_with fail
    go_ret2
    exact ⟨rfl, rfl⟩
  · obtain ⟨h2, h3⟩ := h1 rfl
    clear h1
    go_enter Tryz.func231, Tryz.ntmps231
    go_wp2_with (go_at_call 233; refine (width1_any n b _ h2 h3 hc).mono ?_; rintro e w' ⟨rfl, rfl⟩)
    go_ret2
    exact ⟨rfl, rfl⟩
theorem fullN_le {n : Int} (h : fullN n = true) : 1 ≤ n ∧ n ≤ 256 := by
  have := of_decide_eq_true h
  omega
/-- How wide a tree is. -/
theorem width_any (n : Int) (w : World) :
    Calls Tryz.prog 174 #[.int .i64 n] w fun e w' => e = .returned (.tuple #[.int .i64 (if fullN n then 2 * n - 1 else 0), .int .i64 (if fullN n then 0 else 1)]) ∧ Below w.heap.size w w' := by
  have HF := hid (fun h => @fullN_le n h)
  have hcl : (w.alloc (.cells #[.int .i64 n] 3)).cell? ⟨w.heap.size, 0, none⟩ = some (.int .i64 n) := by rw [World.cell?_alloc_new]; rfl
  go_enter Tryz.func174, Tryz.ntmps174
  go_wp2_with (first
    | (go_at_call 232; refine (full_any n _).mono ?_; rintro e w' ⟨rfl, rfl⟩)
    | (go_at_call 231; refine (whenW_any (fullN n) n _ _ HF.out hcl).mono ?_; rintro e w' ⟨rfl, rfl⟩))
  all_goals go_ret2
  all_goals exact ⟨rfl, (Below.refl _ _).alloc (Nat.le_refl _) _⟩

theorem inside_any (x n : Int) (w : World) :
    Calls Tryz.prog 236 #[.int .i64 x, .int .i64 n] w fun e w' => e = .returned (.bool (fullN n && decide (0 ≤ x) && decide (x < 2 * n - 1))) ∧ w' = w := by
  go_enter Tryz.func236, Tryz.ntmps236
  rcases hf : fullN n with _ | _
  · go_wp2_with (go_at_call 232; refine (full_any n _).mono ?_; rintro e w' ⟨rfl, rfl⟩; rw [hf])
    go_ret
    exact ⟨rfl, rfl⟩
  · obtain ⟨h1, h2⟩ := fullN_le hf
    by_cases h0 : 0 ≤ x
    · go_wp2_with (go_at_call 232; refine (full_any n _).mono ?_; rintro e w' ⟨rfl, rfl⟩; rw [hf])
      go_ret
      exact ⟨by simp [h0], rfl⟩
    · go_wp2_with (go_at_call 232; refine (full_any n _).mono ?_; rintro e w' ⟨rfl, rfl⟩; rw [hf])
      go_ret
      exact ⟨by simp; omega, rfl⟩
theorem any1_any (x : Int) (w : World) (h0 : 0 ≤ x) (h1 : x ≤ 510) :
    Calls Tryz.prog 245 #[.int .i64 x] w fun e w' => e = .returned (.bool true) ∧ w' = w := by
  go_enter Tryz.func245, Tryz.ntmps245
  go_wp2_with fail
  go_ret
  exact ⟨by simp [h1], rfl⟩
theorem check_any (w : World) :
    Calls Tryz.prog 244 #[.bool true] w fun e w' => e = .returned (.int .i64 0) ∧ w' = w := by
  go_enter Tryz.func244, Tryz.ntmps244
  go_wp2_with fail
  go_ret
  exact ⟨rfl, rfl⟩
/-- The leaves under a node: from one on up to another one. -/
def lfA (x : Int) : Int := wrap64 ((wrap64 (x - wrap64 (wrap64 (2 ^ lvl x) - 1))).tdiv 2)
def lfB (x : Int) : Int := wrap64 (wrap64 ((wrap64 (x + wrap64 (wrap64 (2 ^ lvl x) - 1))).tdiv 2) + 1)
theorem leaves_any (x : Int) (w : World) (h0 : 0 ≤ x) (h1 : x ≤ 510) (hT : Tab w) :
    Calls Tryz.prog 194 #[.int .i64 x] w fun e w' => e = .returned (.tuple #[.int .i64 (lfA x), .int .i64 (lfB x), .int .i64 0]) ∧ w' = w := by
  have HT := hid hT; clear hT
  have hk0 : (0 : Int) ≤ (lvl x : Int) := by omega
  have hk1 : (lvl x : Int) ≤ 9 := by have := lvl_le h0 h1; omega
  go_enter Tryz.func194, Tryz.ntmps194
  go_wp2_with (first
    | (go_at_call 245; refine (any1_any x _ h0 h1).mono ?_; rintro e w' ⟨rfl, rfl⟩)
    | (go_at_call 244; refine (check_any _).mono ?_; rintro e w' ⟨rfl, rfl⟩)
    | (go_at_call 246; refine (level_any x _ h0 (by omega) HT.out).mono ?_; rintro e w' ⟨rfl, rfl⟩))
  go_ret3
  exact ⟨rfl, rfl⟩

end Go.Proofs.YtpkijlmkgomfeaaGreatDoor

/- layer 6: Left, Right. -/
namespace Go.Proofs.YtpkijlmkgomfeaaGreatDoor
open Go.RowKit Go.KK Go.Shelf
set_option linter.unusedVariables false
set_option linter.unusedSimpArgs false

end Go.Proofs.YtpkijlmkgomfeaaGreatDoor

/- math: the way up. -/
namespace Go.Proofs.YtpkijlmkgomfeaaGreatDoor
open Go.RowKit Go.KK
set_option linter.unusedVariables false
set_option linter.unusedSimpArgs false

def pathF : Nat → Int → Int → List Int
  | 0, _, _ => []
  | f + 1, x, n => if x = n - 1 then [] else upV x :: pathF f (upV x) n
/-- The nodes above one. -/
def pathL (x n : Int) : List Int := pathF 9 x n
theorem up_facts : ((List.range 257).all fun n => !fullN (n : Int) || (List.range (2 * n - 1)).all fun x => x == n - 1 || (decide (0 ≤ upV (x : Int)) && decide (upV (x : Int) < 2 * n - 1) && decide (lvl (upV (x : Int)) = lvl (x : Int) + 1))) = true := by decide +kernel
theorem up_in {x n : Int} (hf : fullN n = true) (h0 : 0 ≤ x) (h1 : x < 2 * n - 1) (h2 : x ≠ n - 1) : 0 ≤ upV x ∧ upV x < 2 * n - 1 ∧ lvl (upV x) = lvl x + 1 := by
  obtain ⟨a, b⟩ := fullN_le hf
  obtain ⟨m, rfl⟩ := Int.eq_ofNat_of_zero_le (show 0 ≤ n by omega)
  obtain ⟨y, rfl⟩ := Int.eq_ofNat_of_zero_le h0
  have h := List.all_eq_true.1 up_facts m (List.mem_range.2 (by omega))
  rw [hf, Bool.not_true, Bool.false_or] at h
  have h' := List.all_eq_true.1 h y (List.mem_range.2 (by omega))
  have hne : (y == m - 1) = false := beq_eq_false_iff_ne.2 (by omega)
  rw [hne, Bool.false_or] at h'
  simp only [Bool.and_eq_true, decide_eq_true_eq] at h'
  exact ⟨h'.1.1, h'.1.2, h'.2⟩

theorem path_any (x n : Int) (w : World) (hf : fullN n = true) (h0 : 0 ≤ x) (h1 : x < 2 * n - 1) (hT : Tab w) :
    Calls Tryz.prog 182 #[.int .i64 x, .int .i64 n] w fun e w' => ∃ v, e = .returned (.tuple #[v, .int .i64 0]) ∧ w'.ownsRow w.heap.size 3 1 v (pathL x n).length ((pathL x n).map (.int .i64)) ∧ Below w.heap.size w w' := by
  have HT := hid hT; clear hT
  have HF := hid hf
  have hin : (fullN n && decide (0 ≤ x) && decide (x < 2 * n - 1)) = true := by simp [hf, h0, h1]
  go_enter Tryz.func182, Tryz.ntmps182
  go_wp2_with (go_at_call 236; refine (inside_any x n _).mono ?_; rintro e w' ⟨rfl, rfl⟩; rw [hin])
  obtain ⟨i0, hi, hz0, hz1, hz2⟩ := info_parts Tryz.infoInt
  have HIN := hid (@up_in x n); clear hin
  go_loopw [0, 6] (fun y v wr => ∃ (j : Nat) (z : Int), y = .int .i64 z ∧ 0 ≤ z ∧ z < 2 * n - 1 ∧ lvl z = lvl x + j ∧ wr.ownsRow w'.heap.size 3 1 v j (((pathL x n).take j).map (.int .i64)) ∧ pathL x n = (pathL x n).take j ++ pathF (9 - j) z n ∧ Below w'.heap.size w' wr) (fun y _ _ => 10 - lvl (intOf y))
  case atStart => exact ⟨0, x, rfl, h0, h1, by omega, World.ownsRow_nil _ _ _ _, rfl, Below.refl _ _⟩
  case round =>
    obtain ⟨j, z, hz, hza, hzb, hlv, hown, hpl, hbr⟩ := hrel
    subst hz
    have hszr := hbr.size
    obtain ⟨f0, f1⟩ := fullN_le HF.out
    have hz8 := lvl_le hza (by omega)
    by_cases he : z = n - 1
    · subst he
      have hle : pathL x n = (pathL x n).take j := by
        rw [show 9 - j = (9 - j - 1) + 1 by omega, pathF, if_pos rfl, List.append_nil] at hpl
        exact hpl
      have HL := hid hle; clear hle hpl
      have hjl := hown.1
      have htst : (n - 1 != n - 1) = false := by simp
      go_wp2
      go_ret2
      refine ⟨_, rfl, ?_, hbr⟩
      rw [HL.out]
      simp only [List.length_map, Nat.mul_one] at hjl
      rw [hjl]
      exact hown
    · obtain ⟨u0, u1, u2⟩ := up_in HF.out hza hzb he
      have htst : (z != n - 1) = true := bne_iff_ne.2 he
      have hcons : pathF (9 - j) z n = upV z :: pathF (9 - (j + 1)) (upV z) n := by
        rw [show 9 - j = (9 - (j + 1)) + 1 by omega, pathF, if_neg he]
      have HC := hid hcons; have HP := hid hpl; clear hcons hpl
      have hup := up_any z wr hza (by omega) (HT.out.ext hbr)
      have HJ := hid (hown.1)
      generalize upV z = u at *
      have hown2 : wr.drew.ownsRow w'.heap.size 3 1 _ j (((pathL x n).take j).map (.int .i64)) := hown
      have hown3 := hown2.alloc (.cells #[.int .i64 u] 3)
      have hlit := SlA.lit1 (w := wr.drew) (T := 3) (.int .i64 u)
      have hj8 : j ≤ 8 := by omega
      have HS := hid (take_step (L := pathL x n) (j := j) (HC.out ▸ HP.out) (by have := HJ.out; simpa using this))
      go_wp2_with (first
        | (go_at_call 237; refine hup.mono ?_; rintro e w2 ⟨rfl, rfl⟩)
        | (at_builtin; refine wpList_append_sl _ rfl _ _ 30 rfl w'.heap.size 3 i0 (.int .i64 0) 1 8 Tryz.underlying30 hi hz0 hz1 hz2 rfl (by decide) _ _ _ rfl hown3 _ 1 1 _ rfl hlit (one_int _ _) (by unfold maxLen; omega) (by omega) (by simp; omega) ?_; intro v3 w3 hown4 hg4 _))
      go_roundw
      case rel =>
        refine ⟨j + 1, u, rfl, u0, u1, by omega, ?_, ?_, below_append (below_drew (hbr.alloc (by omega) _)) hg4 hown3 (Nat.le_refl _) (by simp; omega)⟩
        · rw [HS.out.1, List.map_append]
          exact hown4
        · exact HS.out.2
      case measure => simp [intOf]; omega

end Go.Proofs.YtpkijlmkgomfeaaGreatDoor

/- ratchet: leaves, and which are there. -/
namespace Go.Proofs.YtpkijlmkgomfeaaGreatDoor
open Go.RowKit Go.KK
set_option linter.unusedVariables false
set_option linter.unusedSimpArgs false

theorem leaf_any (k i e s h : Int) (A : Option Addr) (n c : Nat) (w : World) :
    Calls Tryz.prog 111 #[.agg #[.int .i64 k, .int .i64 i, .int .i64 e, .int .i64 s, .int .i64 h, .slice A n c]] w fun e w' => e = .returned (.bool (k == 1 && (n : Int) == 0)) ∧ Below w.heap.size w w' := by
  go_enter Tryz.func111, Tryz.ntmps111
  go_wp2
  all_goals go_ret
  all_goals exact ⟨by simp_all, (Below.refl _ _).alloc (Nat.le_refl _) _⟩
/-- How many leaves a row has. -/
def lvN (n : Nat) : Nat := (n + 1) / 2
theorem lvN_tdiv (n : Nat) : ((lvN n : Nat) : Int).tdiv 2 = ((lvN n / 2 : Nat) : Int) := rfl
theorem leavesT_any (A : Option Addr) (n c : Nat) (w : World) (hn : n ≤ 600) :
    Calls Tryz.prog 115 #[.slice A n c] w fun e w' => e = .returned (.int .i64 (lvN n)) ∧ w' = w := by
  go_enter Tryz.func115, Tryz.ntmps115
  go_wp2
  go_ret
  exact ⟨by unfold lvN; simp, rfl⟩
/-- A node's kind. -/
def kd (xs : List TN) (j : Nat) : Int := match xs[j]? with | some x => x.k | none => 0
/-- Whether a leaf is there. -/
def pres (xs : List TN) (i : Int) : Bool := decide (0 ≤ i) && decide (i < lvN xs.length) && (kd xs (2 * i).toNat == 1)
theorem present_any (A : Option Addr) (n c : Nat) (xs : List TN) (i : Int) (w : World) (h : Tr w A n c xs) (hnm : n ≤ 600) :
    Calls Tryz.prog 114 #[.slice A n c, .int .i64 i] w fun e w' => e = .returned (.bool (pres xs i)) ∧ w' = w := by
  have hn := h.len
  go_enter Tryz.func114, Tryz.ntmps114
  by_cases h0 : 0 ≤ i
  · by_cases h1 : i < lvN n
    · obtain ⟨j, rfl⟩ := Int.eq_ofNat_of_zero_le h0
      have hj : 2 * j < n := by unfold lvN at h1; omega
      obtain ⟨b, o, x, A', c', rfl, hx, c0, -, -, -, -, -, -⟩ := h.at hj
      have hp : pres xs (j : Int) = (x.k == 1) := by unfold pres kd; rw [hn, show (2 * (j : Int)).toNat = 2 * j by omega, hx]; simp [h1]
      rw [hp]
      clear hp hx
      go_wp2_with (go_at_call 115; refine (leavesT_any _ n c _ hnm).mono ?_; rintro e w' ⟨rfl, rfl⟩)
      go_ret
      exact ⟨rfl, rfl⟩
    · have hp : pres xs i = false := by unfold pres; rw [hn]; simp [h1]
      rw [hp]
      go_wp2_with (go_at_call 115; refine (leavesT_any _ n c _ hnm).mono ?_; rintro e w' ⟨rfl, rfl⟩)
      go_ret
      exact ⟨rfl, rfl⟩
  · have hp : pres xs i = false := by unfold pres; simp [h0]
    rw [hp]
    go_wp2_with fail
    go_ret
    exact ⟨rfl, rfl⟩
/-- No leaf is there in the right half. -/
def halfB (xs : List TN) : Bool := (List.range (lvN xs.length)).all fun j => decide (j < lvN xs.length / 2) || !pres xs j
theorem half_any (A : Option Addr) (n c : Nat) (xs : List TN) (w : World) (h : Tr w A n c xs) (hnm : n ≤ 600) :
    Calls Tryz.prog 113 #[.slice A n c] w fun e w' => e = .returned (.bool (halfB xs)) ∧ w' = w := by
  have hn := h.len
  have hN : lvN n ≤ 301 := by unfold lvN; omega
  have htd := lvN_tdiv n
  have hX := hid hn; clear hn
  go_enter Tryz.func113, Tryz.ntmps113
  go_wp2_with (first
    | (go_at_call 115; refine (leavesT_any _ n c _ hnm).mono ?_; rintro e w' ⟨rfl, rfl⟩))
  go_loop [2, 4] (fun _ i => ∃ j : Nat, i = .int .i64 j ∧ lvN n / 2 ≤ j ∧ j ≤ lvN n ∧ ∀ k : Nat, lvN n / 2 ≤ k → k < j → pres xs k = false) (fun _ i => lvN n - (intOf i).toNat)
  case atStart => exact ⟨lvN n / 2, rfl, Nat.le_refl _, by omega, fun k a b => by omega⟩
  case round =>
    obtain ⟨j, hi, h1, h2, h3⟩ := hrel
    subst hi
    have H3 := hid h3; clear h3
    by_cases hlt : j < lvN n
    · rcases hp : pres xs j with _ | _
      · go_wp2_with (go_at_call 114; refine (present_any _ n c xs _ _ h hnm).mono ?_; rintro e w' ⟨rfl, rfl⟩; rw [hp])
        go_round
        case rel => exact ⟨j + 1, by go_num, by omega, by omega, fun k a b => by
          by_cases hk : k < j
          · exact H3.out k a hk
          · rw [show k = j by omega]; exact hp⟩
        case measure => simp [intOf]; omega
      · have hh : halfB xs = false := by
          rcases hh : halfB xs with _ | _
          · rfl
          · have := List.all_eq_true.1 hh j (List.mem_range.2 (by rw [hX.out]; exact hlt))
            rw [hp, hX.out] at this
            simp at this
            omega
        have HH := hid hh; clear hh
        go_wp2_with (go_at_call 114; refine (present_any _ n c xs _ _ h hnm).mono ?_; rintro e w' ⟨rfl, rfl⟩; rw [hp])
        go_ret
        exact ⟨by rw [HH.out]; rfl, rfl⟩
    · have hh : halfB xs = true := by
        refine List.all_eq_true.2 fun k hk => ?_
        rw [hX.out] at hk ⊢
        rw [List.mem_range] at hk
        by_cases hk2 : k < lvN n / 2
        · simp [hk2]
        · rw [H3.out k (by omega) (by omega)]; simp
      have HH := hid hh; clear hh
      go_wp2
      go_ret
      exact ⟨by rw [HH.out]; rfl, rfl⟩

end Go.Proofs.YtpkijlmkgomfeaaGreatDoor

/- ratchet: a node that is zero, and numbers that rise. -/
namespace Go.Proofs.YtpkijlmkgomfeaaGreatDoor
open Go.RowKit Go.KK
set_option linter.unusedVariables false
set_option linter.unusedSimpArgs false

/-- All of a node is zero. -/
def orN (k i e s h : Int) : Int := bits .or .i64 (bits .or .i64 (bits .or .i64 (bits .or .i64 k i) e) s) h
theorem zero_any (k i e s h : Int) (A : Option Addr) (n c : Nat) (w : World) :
    Calls Tryz.prog 175 #[.agg #[.int .i64 k, .int .i64 i, .int .i64 e, .int .i64 s, .int .i64 h, .slice A n c]] w fun r w' => r = .returned (.bool (orN k i e s h == 0 && (n : Int) == 0)) ∧ Below w.heap.size w w' := by
  go_enter Tryz.func175, Tryz.ntmps175
  go_wp2
  all_goals go_ret
  all_goals exact ⟨by unfold orN; simp_all, (Below.refl _ _).alloc (Nat.le_refl _) _⟩

/-- Numbers none of which is less than the one before it. -/
def sortB (l : List Int) : Bool := Lib.downOK (fun x y => decide (x < y)) l.toArray (l.length - 1)
theorem sorted_zero (A : Option Addr) (c : Nat) (w : World) :
    Calls Tryz.prog 234 #[.slice A 0 c] w fun e w' => e = .returned (.bool true) ∧ w' = w := by
  go_enter Tryz.func234, Tryz.ntmps234
  go_wp2
  go_loop [2, 3] (fun _ i => i = .int .i64 (-1)) (fun _ i => (intOf i).toNat + 1)
  case atStart => rfl
  case round =>
    subst hrel
    go_wp2
    go_ret
    exact ⟨rfl, rfl⟩
theorem sorted_any (A : Option Addr) (n c : Nat) (l : List Int) (w : World) (h : SlA w 1 A n c (l.map (.int .i64))) (hn47 : n ≤ 2147483648) :
    Calls Tryz.prog 234 #[.slice A n c] w fun e w' => e = .returned (.bool (sortB l)) ∧ ∃ q, w' = w.drewN q := by
  have hn := h.lenI
  rcases l with _ | ⟨x, l⟩
  · simp at hn
    subst hn
    exact (sorted_zero A c w).mono fun e w' ⟨h1, h2⟩ => ⟨h1, 0, h2⟩
  · obtain ⟨b, o, rfl, _⟩ := h.cells 0 _ rfl
    have := AnyO.slices_IsSorted_int Tryz.laysO10 b o c (x :: l).toArray w (fun i hi => by
      obtain ⟨b', o', e, hc⟩ := h.cells i (.int .i64 ((x :: l)[i]'(by simpa using hi))) (by rw [List.getElem?_map, List.getElem?_eq_getElem (by simpa using hi)]; rfl)
      injection e with e
      injection e with e1 e2
      subst e1; subst e2
      rw [hc, getElem!_pos (x :: l).toArray i hi]
      simp) (by simp at hn ⊢; omega)
    rw [show (x :: l).toArray.size = n by simpa using hn] at this
    unfold sortB
    rw [hn]
    exact this
end Go.Proofs.YtpkijlmkgomfeaaGreatDoor

/- ratchet: a copy of numbers, and how many are left of it, each once. -/
namespace Go.Proofs.YtpkijlmkgomfeaaGreatDoor
open Go.RowKit Go.KK
set_option linter.unusedVariables false
set_option linter.unusedSimpArgs false

theorem below_setCells {B : Nat} {a : World} (b : Nat) (hb : B ≤ b) : ∀ (vs : List Value) (o : Nat) (w : World), Below B a w → Below B a (w.setCells b o vs)
  | [], _, _, h => h
  | v :: r, o, w, h => by
    rw [World.setCells]
    exact below_setCells b hb r (o + 1) _ (h.setCell hb v)
theorem clone_int (A : Option Addr) (n c : Nat) (l : List Int) (w : World) (h : SlA w 1 A n c (l.map (.int .i64))) (hn47 : n ≤ 2147483648) :
    Calls Tryz.prog 99 #[.slice A n c] w fun e w' => ∃ v, e = .returned v ∧ w'.ownsRow w.heap.size 3 1 v n (l.map (.int .i64)) ∧ Below w.heap.size w w' := by
  have hn := h.lenI
  rcases A with _ | a
  · have hl : l = [] := by
      rcases l with _ | ⟨x, l⟩
      · rfl
      · obtain ⟨b, o, e, _⟩ := h.cells 0 _ rfl
        cases e
    subst hl
    simp at hn
    subst hn
    exact (Tryz.slices_Clone_int_nil 0 c w).mono fun e w' ⟨h1, h2⟩ => ⟨_, h1, World.ownsRow_nil _ _ _ _, by rw [h2]; exact Below.refl _ _⟩
  · rcases l with _ | ⟨x, l⟩
    · simp at hn
      subst hn
      exact (Tryz.slices_Clone_int_zero a c w).mono fun e w' ⟨v, h1, h2, _, h3⟩ => ⟨v, h1, h2, h3⟩
    · obtain ⟨b, o, e, _⟩ := h.cells 0 _ rfl
      injection e with e
      subst e
      have := Tryz.slices_Clone_int b o n c (x :: l) w (by omega) (by omega) (sla_getD h)
      rw [List.take_of_length_le (by omega)] at this
      exact this.mono fun e w' ⟨v, h1, h2, _, h3⟩ => ⟨v, h1, h2, h3⟩
theorem compact_own (base : Nat) (v : Value) (n : Nat) (l : List Int) (w : World) (h : w.ownsRow base 3 1 v n (l.map (.int .i64))) (hn47 : n ≤ 2147483648) :
    Calls Tryz.prog 235 #[v] w fun e w' => ∃ A c, e = .returned (.slice A (Lib.compact l).length c) ∧ Below base w w' := by
  have hw := h
  obtain ⟨A, c, rfl, hs⟩ := SlA.owned h
  have hn := hs.lenI
  rcases l with _ | ⟨x, l⟩
  · simp at hn
    subst hn
    refine (Tryz.slices_Compact_int_empty A c w).mono fun e w' ⟨h1, h2⟩ => ⟨A, c, ?_, by rw [h2]; exact Below.refl _ _⟩
    rw [h1]; rfl
  · obtain ⟨b, o, e, _⟩ := hs.cells 0 _ rfl
    subst e
    rcases hw.2 with ⟨e1, _⟩ | ⟨g, cap, cur, e1, hbg, _⟩
    · cases e1
    · injection e1 with e1 e2 e3
      injection e1 with e1
      injection e1 with e4 e5
      subst e4; subst e5; subst e3
      have hnc := hs.nc
      have := Tryz.slices_Compact_int_cells b 0 n c (x :: l) w (by omega) (by omega) hnc (sla_getD hs) (fun j hj => by rw [Nat.zero_add]; exact hw.frozenAt j)
      rw [List.take_of_length_le (by omega)] at this
      exact this.mono fun e w' ⟨h1, q, h2⟩ => ⟨_, _, h1, by rw [h2]; exact below_setCells b hbg _ _ _ (below_drewN (Below.refl _ _) q)⟩
/-- Numbers that rise. -/
def riseB (l : List Int) : Bool := sortB l && ((Lib.compact l).length : Int) == (l.length : Int)
/-- whether a number is in a list -/
theorem contains_any (A : Option Addr) (n c : Nat) (l : List Int) (x : Int) (w : World) (h : SlA w 1 A n c (l.map (.int .i64))) (hn47 : n ≤ 2147483648) :
    Calls Tryz.prog 126 #[.slice A n c, .int .i64 x] w fun e w' => e = .returned (.bool (l.contains x)) ∧ w' = w := by
  have hn := h.lenI
  rcases l with _ | ⟨y, l⟩
  · simp at hn
    subst hn
    exact Tryz.slices_Contains_int_empty A c x w
  · obtain ⟨b, o, rfl, _⟩ := h.cells 0 _ rfl
    have := Tryz.slices_Contains_int b o n c (y :: l) x w (by omega) (by omega) (sla_getD h)
    rw [List.take_of_length_le (by omega)] at this
    exact this
end Go.Proofs.YtpkijlmkgomfeaaGreatDoor

/- layer 9: a leaf's hash. -/
namespace Go.Proofs.YtpkijlmkgomfeaaGreatDoor
open Go.RowKit Go.KK Go.Shelf Go.Maps
set_option linter.unusedVariables false
set_option linter.unusedSimpArgs false

/-- What a node's hash reads: the tree (its lists' heads are these), who is left off. -/
def NdP (A : Option Addr) (n c : Nat) (xs : List TN) (qs : List Value) (Aw : Option Addr) (nw cw : Nat) (wo : List Int) (V : World) : Prop :=
  (qs.length = xs.length ∧ SlA V 6 A n c (ncs xs qs) ∧ ∀ (j : Nat) x q, xs[j]? = some x → qs[j]? = some q → In1 V q x.u) ∧ SlA V 1 Aw nw cw (wo.map (.int .i64))
theorem NdP.tr {A : Option Addr} {n c : Nat} {xs : List TN} {qs : List Value} {Aw : Option Addr} {nw cw : Nat} {wo : List Int} {V : World} (h : NdP A n c xs qs Aw nw cw wo V) : Tr V A n c xs := ⟨qs, h.1⟩
def tnC (x : TN) (q : Value) : Obj := .cells #[.int .i64 x.k, .int .i64 x.i, .int .i64 x.e, .int .i64 x.s, .int .i64 x.h, q] 37 (0, 0)
section
variable {w0 W : World} {Z : Nat → Prop} {sa bk : Nat} {S : KS}
/-- The six cells of a node's box. -/
theorem tn6 {V : World} {b : Nat} {x : TN} {q : Value} (h : V.heap[b]? = some (tnC x q)) : V.cell? ⟨b, 0, none⟩ = some (.int .i64 x.k) ∧ V.cell? ⟨b, 1, none⟩ = some (.int .i64 x.i) ∧ V.cell? ⟨b, 2, none⟩ = some (.int .i64 x.e) ∧ V.cell? ⟨b, 3, none⟩ = some (.int .i64 x.s) ∧ V.cell? ⟨b, 4, none⟩ = some (.int .i64 x.h) ∧ V.cell? ⟨b, 5, none⟩ = some q := by
  refine ⟨?_, ?_, ?_, ?_, ?_, ?_⟩ <;> (rw [cell_of_row _ b _ _ _ (0, 0) h]; rfl)
end
end Go.Proofs.YtpkijlmkgomfeaaGreatDoor

/- layer 9: a parent's hash, and each node's. -/
namespace Go.Proofs.YtpkijlmkgomfeaaGreatDoor
open Go.RowKit Go.KK Go.Shelf Go.Maps
set_option linter.unusedVariables false
set_option linter.unusedSimpArgs false

theorem NM.drop {w0 W V : World} {Z Z' : Nat → Prop} {sa bk : Nat} {S' : KS} {v : Value} {l : List Int} {P : World → Prop} {bs : List (Nat × Obj)} (h : NM w0 W V Z Z' sa bk bs v l S' P) : NM w0 W V Z Z' sa bk bs (.slice none 0 0) [] S' P :=
  ⟨h.lk, h.bx, World.ownsRow_nil _ _ _ _, fun b hb => (by cases hb), h.fu, h.m, h.m0⟩
section
variable {w0 W : World} {Z : Nat → Prop} {sa bk : Nat} {S : KS}
end
end Go.Proofs.YtpkijlmkgomfeaaGreatDoor

/- nodes: what is bad; begin. -/
namespace Go.Proofs.YtpkijlmkgomfeaaGreatDoor
open Go.RowKit Go.KK Go.Shelf Go.Maps
set_option linter.unusedVariables false
set_option linter.unusedSimpArgs false

theorem any_step {α : Type} {l : List α} {p : α → Bool} {j : Nat} {x : α} (h : l[j]? = some x) : (l.drop j).any p = (p x || (l.drop (j + 1)).any p) := by
  rw [List.drop_eq_getElem_cons (List.getElem?_eq_some_iff.1 h).1, List.any_cons, (List.getElem?_eq_some_iff.1 h).2]
section
variable {W : World} {sa b : Nat} {X : List ND}
end
end Go.Proofs.YtpkijlmkgomfeaaGreatDoor

