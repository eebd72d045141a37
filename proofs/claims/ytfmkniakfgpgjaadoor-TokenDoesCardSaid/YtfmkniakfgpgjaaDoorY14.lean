import Derived.Test.YtfmkniakfgpgjaaDoorY09
import Derived.RegionTactic
import Derived.Test.YtfmkniakfgpgjaaDoorY10
/- law 17: dump, same. -/
namespace Go.Proofs.YtfmkniakfgpgjaaDoor
open Go.RowKit Go.KK Go.Shelf Go.Maps
set_option linter.unusedVariables false
set_option linter.unusedSimpArgs false

theorem infoND : (Tryd.prog.info? 60).map (fun i => (i.zero, i.size, i.bytes)) = some (some (.agg #[.int .i64 0, .int .i64 0, .string ⟨#[]⟩, .slice none 0 0]), 4, 56) := by kernel_rfl
theorem sla_lit {w : World} {T : TypeId} (vs : Array Value) (size : Nat) (hs : vs.size = size) (hm : vs.size ≤ maxLen) : SlA (w.alloc (.cells vs T)) size (some ⟨w.heap.size, 0, none⟩) 1 1 vs.toList :=
  ⟨Nat.le_refl _, by unfold maxLen; omega, by simp [hs], (sla_row (w := w) (T := T) vs hm).cells⟩
/-- A row of nodes that the call has made, so far. -/
structure DmP (W U : World) (v : Value) (xs : List ND) (qs : List Value) : Prop where
  row : U.ownsRow W.heap.size 60 4 v xs.length (nds xs qs)
  ql : qs.length = xs.length
  rd : ∀ (j : Nat) x q, xs[j]? = some x → qs[j]? = some q → In1 U q x.l
  own : ∀ (j : Nat) x q b, xs[j]? = some x → qs[j]? = some q → x.l ≠ [] → q.ownBlock = some b → v.ownBlock ≠ some b
  bl : Below W.heap.size W U
section
variable {W U U' : World} {v v' q : Value} {xs : List ND} {qs : List Value} {x : ND}
theorem DmP.ext (h : DmP W U v xs qs) (hb : Below U.heap.size U U') : DmP W U' v xs qs :=
  ⟨own_ext h.row hb, h.ql, fun j x q hx hq => (h.rd j x q hx hq).ext hb, h.own, h.bl.trans (hb.mono h.bl.size)⟩
theorem In1.lt (h : In1 U q x.l) (hn : x.l ≠ []) {b : Nat} (hb : q.ownBlock = some b) : b < U.heap.size := by
  obtain ⟨A, c, rfl, hs⟩ := h
  obtain ⟨b1, o1, z, rfl, -, hc⟩ := hs.elemI (k := 0) (List.length_pos_iff.2 hn)
  have e : b1 = b := by simpa [Value.ownBlock] using hb
  subst e
  exact block_lt_of_cell hc
theorem DmP.push (h : DmP W U v xs qs) (hg : U.grownBy U' v.ownBlock) (hr : U'.ownsRow W.heap.size 60 4 v' (xs.length + 1) (nds xs qs ++ x.cells q)) (hv : v'.ownBlock = v.ownBlock ∨ v'.ownBlock = some U.heap.size) (hq : In1 U q x.l) (hqn : x.l ≠ [] → ∀ b, q.ownBlock = some b → v.ownBlock ≠ some b) : DmP W U' v' (xs ++ [x]) (qs ++ [q]) := by
  have hne : ∀ (y : ND) (p : Value) b, In1 U p y.l → y.l ≠ [] → p.ownBlock = some b → v.ownBlock ≠ some b → v'.ownBlock ≠ some b := fun y p b hi hn hb hvb => by
    rcases hv with e | e
    · rw [e]; exact hvb
    · rw [e]; intro k; injection k with k; have := In1.lt hi hn hb; omega
  have hk : ∀ (y : ND) (p : Value), In1 U p y.l → (∀ b, y.l ≠ [] → p.ownBlock = some b → v.ownBlock ≠ some b) → In1 U' p y.l := fun y p hi ho => hi.kept fun b hn hb => hg.block b (In1.lt hi hn hb) (fun e => ho b hn hb e.symm)
  refine ⟨by rw [nds_snoc h.ql, List.length_append]; exact hr, by simp [h.ql], fun j y p hy hp => ?_, fun j y p b hy hp hn hb => ?_, h.bl.grown hg h.bl.size fun b e => (h.row.lt b e).1⟩
  all_goals
    rcases Nat.lt_or_ge j xs.length with hj | hj
    · rw [List.getElem?_append_left hj] at hy
      rw [List.getElem?_append_left (by rw [h.ql]; exact hj)] at hp
      first
        | exact hk y p (h.rd j y p hy hp) fun b hn hb => h.own j y p b hy hp hn hb
        | exact hne y p b (h.rd j y p hy hp) hn hb (h.own j y p b hy hp hn hb)
    · rw [List.getElem?_append_right hj] at hy
      rw [List.getElem?_append_right (by rw [h.ql]; exact hj), h.ql] at hp
      rcases hk' : j - xs.length with _ | k
      · rw [hk'] at hy hp
        injection hy with hy; injection hp with hp
        subst hy; subst hp
        first
          | exact hk _ _ hq fun b hn hb => hqn hn b hb
          | exact hne _ _ b hq hn hb (hqn hn b hb)
      · rw [hk'] at hy; simp at hy
theorem DmP.nd (h : DmP W U v xs qs) : ∃ A c, v = .slice A xs.length c ∧ NdA U A xs.length c xs := by
  obtain ⟨A, c, rfl, hs⟩ := SlA.owned h.row
  exact ⟨A, c, rfl, qs, h.ql, hs, h.rd⟩
end
set_option maxHeartbeats 4000000 in
set_option maxRecDepth 100000 in
theorem dump_any (sa : Nat) (X : List ND) (W : World) (h : ArV W 85 sa X) :
    Calls Tryd.prog 21 #[.pointer (some ⟨sa, 0, none⟩)] W fun e w' => ∃ A c, e = .returned (.slice A X.length c) ∧ NdA w' A X.length c X ∧ Below W.heap.size W w' := by
  obtain ⟨i0, hi, hz0, hz1, hz2⟩ := info_parts infoND
  have H := hid h; have HLN := hid h.ok.len
  clear h
  go_enter Tryd.func21, Tryd.ntmps21
  go_wp2_with fail
  refine (len_any sa X W H.out).mono ?_
  rintro e w1 ⟨rfl, hw0⟩
  have hw := hw0.symm
  clear hw0
  subst hw
  go_wp2_with fail
  go_loopw [9, 3] (fun i l wr => ∃ (j : Nat) (v : Value) (qs : List Value), i = .int .i64 j ∧ j ≤ X.length ∧ l = v ∧ Hid (DmP W wr v (X.take j) qs)) (fun i _ _ => X.length - (intOf i).toNat)
  case atStart => exact ⟨0, _, [], rfl, Nat.zero_le _, rfl, hid ⟨World.ownsRow_nil _ _ _ _, rfl, fun j x q h => by simp at h, fun j x q b h => by simp at h, Below.refl _ _⟩⟩
  case round =>
    obtain ⟨j, v, qs, hv, hj, hl, HD⟩ := hrel
    subst hv; subst hl
    have hXl := HLN.out
    obtain ⟨A, c, hvv, -⟩ := HD.out.nd
    rw [List.length_take, Nat.min_eq_left hj] at hvv
    subst hvv
    by_cases hlt : j < X.length
    · have hlt' : (j : Int) < (X.length : Int) := by omega
      have HLT := hid hlt
      have HN := hid (node_any sa X (j : Int) wr (H.out.ext HD.out.bl))
      have hxj : X[j]? = some (nodeF X (j : Int)) := by
        unfold nodeF
        rw [if_pos (has_iff.2 ⟨by omega, by omega⟩), Int.toNat_natCast, List.getD, List.getElem?_eq_getElem hlt]; rfl
      have HE := hid (show nodeE X (j : Int) = 0 by unfold nodeE; rw [if_pos (has_iff.2 ⟨by omega, by omega⟩)])
      rw [HE.out] at HN
      have HXJ := hid hxj
      clear hxj hlt HE
      generalize nodeF X (j : Int) = x at *
      obtain ⟨xo, xn, xs, xl⟩ := x
      dsimp only at HN
      go_wp2_with fail
      refine HN.out.mono ?_
      rintro e w2 ⟨A2, c2, rfl, hrow, hb⟩
      have D2 := hid (HD.out.ext hb)
      have HQ := hid (show In1 w2 (.slice A2 xl.length c2) xl from by
        obtain ⟨A', c', e', hs⟩ := SlA.owned hrow
        injection e' with e1 e2 e3
        subst e1; subst e3
        exact ⟨_, _, rfl, hs⟩)
      have HQN := hid (show ∀ b, (Value.slice A2 xl.length c2).ownBlock = some b → (Value.slice A j c).ownBlock ≠ some b from fun b hb' hv' => by
        have h1 := (hrow.lt b hb').1
        have h2 := (HD.out.row.lt b hv').2
        omega)
      have D3 := hid ((D2.out.ext ((Below.refl _ _).alloc (Nat.le_refl _) (.cells #[.int .i64 xo, .int .i64 xn, .string xs, .slice A2 xl.length c2] 60))).ext ((Below.refl _ _).alloc (Nat.le_refl _) (.cells #[.int .i64 xo, .int .i64 xn, .string xs, .slice A2 xl.length c2] 60)))
      have HQ3 := hid (show In1 ((w2.alloc (.cells #[.int .i64 xo, .int .i64 xn, .string xs, .slice A2 xl.length c2] 60)).alloc (.cells #[.int .i64 xo, .int .i64 xn, .string xs, .slice A2 xl.length c2] 60)) (.slice A2 xl.length c2) xl from (HQ.out.ext ((Below.refl _ _).alloc (Nat.le_refl _) _)).ext ((Below.refl _ _).alloc (Nat.le_refl _) _))
      have HOW := hid (show ((w2.alloc (.cells #[.int .i64 xo, .int .i64 xn, .string xs, .slice A2 xl.length c2] 60)).alloc (.cells #[.int .i64 xo, .int .i64 xn, .string xs, .slice A2 xl.length c2] 60)).ownsRow W.heap.size 60 4 (.slice A j c) j (nds (X.take j) qs) from by
        have := D3.out.row
        rwa [List.length_take, Nat.min_eq_left hj] at this)
      have hsz := D3.out.bl.size
      have hj5 : j ≤ 100000 := by omega
      have hones : ∀ u ∈ [Value.int .i64 xo, .int .i64 xn, .string xs, .slice A2 xl.length c2], u.oneCell' = true := fun u hu => by
        simp only [List.mem_cons, List.mem_nil_iff, or_false] at hu
        rcases hu with rfl | rfl | rfl | rfl <;> rfl
      have HSL := hid (show SlA ((w2.alloc (.cells #[.int .i64 xo, .int .i64 xn, .string xs, .slice A2 xl.length c2] 60)).alloc (.cells #[.int .i64 xo, .int .i64 xn, .string xs, .slice A2 xl.length c2] 60)) 4 (some ⟨w2.heap.size + 1, 0, none⟩) 1 1 [.int .i64 xo, .int .i64 xn, .string xs, .slice A2 xl.length c2] from by
        have := sla_lit (w := w2.alloc (.cells #[.int .i64 xo, .int .i64 xn, .string xs, .slice A2 xl.length c2] 60)) (T := 60) #[.int .i64 xo, .int .i64 xn, .string xs, .slice A2 xl.length c2] 4 rfl (by unfold maxLen; simp)
        rw [show (w2.alloc (.cells #[.int .i64 xo, .int .i64 xn, .string xs, .slice A2 xl.length c2] 60)).heap.size = w2.heap.size + 1 by simp] at this
        exact this)
      have hm1 : j + 1 ≤ maxLen := by unfold maxLen; omega
      have hm2 : (j + 1) * 56 ≤ 140737488355328 := by omega
      clear hrow hb HN HD D2
      go_wp2_with (at_builtin; refine wpList_append_sl _ rfl _ _ 52 rfl W.heap.size 60 i0 (.agg #[.int .i64 0, .int .i64 0, .string ⟨#[]⟩, .slice none 0 0]) 4 56 Tryd.underlying52 hi hz0 hz1 hz2 rfl (by decide) (.slice A j c) j (nds (X.take j) qs) rfl HOW.out _ 1 1 [.int .i64 xo, .int .i64 xn, .string xs, .slice A2 xl.length c2] rfl HSL.out hones hm1 hm2 hsz ?_; intro v5 w5 own5 gr5 loc5; have HO5 := hid own5; have HG5 := hid gr5; have HL5 := hid loc5; clear own5 gr5 loc5)
      have HDN := hid (D3.out.push (x := ⟨xo, xn, xs, xl⟩) (q := .slice A2 xl.length c2) HG5.out (by rw [List.length_take, Nat.min_eq_left hj]; exact HO5.out) HL5.out HQ3.out fun _ => HQN.out)
      go_roundw
      case rel => exact ⟨j + 1, v5, _, by go_num, by have := HLT.out; omega, rfl, hid (by rw [take_one HXJ.out]; exact HDN.out)⟩
      case measure => have := HLT.out; simp [intOf]; omega
    · obtain rfl : j = X.length := by omega
      have hlt' : ¬ (X.length : Int) < (X.length : Int) := by omega
      obtain ⟨A', c', e', hn⟩ := HD.out.nd
      rw [List.take_length] at e' hn
      injection e' with e1 e2 e3
      subst e1; subst e3
      have HNN := hid hn
      clear hn e2
      go_wp2_with fail
      go_ret
      exact ⟨A, c, rfl, HNN.out, HD.out.bl⟩
end Go.Proofs.YtfmkniakfgpgjaaDoor

/- schedule: Begin's variables, and what lays a term as long as there is no error. -/
namespace Go.KK
open Go.RowKit
set_option linter.unusedVariables false
set_option linter.unusedSimpArgs false
end Go.KK
namespace Go.Proofs.YtfmkniakfgpgjaaDoor
open Go.RowKit Go.KK Go.Shelf Go.Maps

section
variable {w0 W W' : World} {Z Z' : Nat → Prop} {sa H : Nat} {xs xs' : List ND} {B B' : Nat → Array Value}
end
section
variable {w0 W : World} {Z : Nat → Prop} {sa H : Nat} {j p x : Int} {R : List ND × List Int × Int} {f : List Int → List ND → Rs} {ep : List Int} {mem ext : Int}
end
end Go.Proofs.YtfmkniakfgpgjaaDoor

/- schedule: what the closures of Begin make. -/
namespace Go.Proofs.YtfmkniakfgpgjaaDoor
open Go.RowKit Go.KK Go.Shelf Go.Maps
set_option linter.unusedVariables false
set_option linter.unusedSimpArgs false

section
variable {w0 W : World} {Z : Nat → Prop} {sa H : Nat} {xs : List ND} {j p x : Int} {ep : List Int} {first mem ext : Int}
end
end Go.Proofs.YtfmkniakfgpgjaaDoor

/- schedule: Begin. -/
namespace Go.KK
open Go.RowKit
set_option linter.unusedVariables false
set_option linter.unusedSimpArgs false
end Go.KK
namespace Go.Proofs.YtfmkniakfgpgjaaDoor
open Go.RowKit Go.KK Go.Shelf Go.Maps

theorem Mv.step {Z Z1 Z2 : Nat → Prop} {W W1 W2 : World} {H : Nat} (a : Mv Z W Z1 W1) (ht : Turn (fun b => Z1 b ∨ H ≤ b) W1 W2) (hn : ∀ b, Z2 b → Z1 b ∨ W1.heap.size ≤ b) (hH : W.heap.size ≤ H) : Mv Z W Z2 W2 :=
  ⟨a.t.trans ht (fun k hk => hk.elim (a.n k) fun h => .inr (Nat.le_trans hH h)), fun k hk => (hn k hk).elim (a.n k) fun h => .inr (Nat.le_trans a.t.size h)⟩
section
variable {w0 W : World} {Z : Nat → Prop} {sa : Nat} {xs : List ND} {j p x : Int}
end
end Go.Proofs.YtfmkniakfgpgjaaDoor

/- schedule: Begin walked. -/
namespace Go.Proofs.YtfmkniakfgpgjaaDoor
open Go.RowKit Go.KK Go.Shelf Go.Maps
set_option linter.unusedVariables false
set_option linter.unusedSimpArgs false

section
variable {w0 W : World} {Z : Nat → Prop} {sa : Nat} {xs : List ND} {j p x : Int}
end
end Go.Proofs.YtfmkniakfgpgjaaDoor

/- schedule: Begin walked whole. -/
namespace Go.Proofs.YtfmkniakfgpgjaaDoor
open Go.RowKit Go.KK Go.Shelf Go.Maps
set_option linter.unusedVariables false
set_option linter.unusedSimpArgs false

section
variable {w0 W : World} {Z : Nat → Prop} {sa : Nat} {xs : List ND}
end
end Go.Proofs.YtfmkniakfgpgjaaDoor

/- schedule: Inner, Next. -/
namespace Go.Proofs.YtfmkniakfgpgjaaDoor
open Go.RowKit Go.KK Go.Shelf Go.Maps
set_option linter.unusedVariables false
set_option linter.unusedSimpArgs false

section
variable {w0 W : World} {Z : Nat → Prop} {sa : Nat} {xs : List ND}
end
end Go.Proofs.YtfmkniakfgpgjaaDoor

/- schedule's law: live; numbers beyond; what its laws share. -/
namespace Go.Proofs.YtfmkniakfgpgjaaDoor
open Go.RowKit Go.KK Go.Shelf Go.Maps
set_option linter.unusedVariables false
set_option linter.unusedSimpArgs false

theorem SlM.new {w0 W : World} {Z : Nat → Prop} {sa : Nat} {xs : List ND} (la : LA w0 W Z sa xs) (vs : Array Value) (l : List Int) (T : TypeId) (hv : vs.toList = l.map (.int .i64)) (hm : vs.size ≤ maxLen) : SlM (W.alloc (.cells vs T)) Z (some ⟨W.heap.size, 0, none⟩) vs.size vs.size l := by
  refine ⟨by rw [← hv]; exact sla_row vs hm, fun b o e _ => ?_⟩
  injection e with e
  injection e with e1 e2
  subst e1
  exact ⟨by simp, fun hz => by have := la.ar.zlt _ hz; omega⟩
end Go.Proofs.YtfmkniakfgpgjaaDoor

