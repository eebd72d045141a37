/- schedule: Begin's variables, and what lays a term as long as there is no error. -/
import Derived.Test.YtkgobglmkhkbbaaGreatDoorU7
namespace Go.KK
open Go.RowKit
set_option linter.unusedVariables false
set_option linter.unusedSimpArgs false
/-- One step more. -/
def rnS (R : List ND × List Int × Int) (f : List Int → List ND → Rs) : List ND × List Int × Int :=
  if R.2.2 = 0 then (if (f R.2.1 R.1).2.2 = 0 then ((f R.2.1 R.1).1, R.2.1 ++ [(f R.2.1 R.1).2.1], 0) else ((f R.2.1 R.1).1, R.2.1, (f R.2.1 R.1).2.2)) else R
theorem run_snoc : ∀ (fs : List (List Int → List ND → Rs)) (f : List Int → List ND → Rs) (xs : List ND) (acc : List Int), runF xs acc (fs ++ [f]) = rnS (runF xs acc fs) f
  | [], f, xs, acc => by
    show (if _ then _ else _) = rnS (xs, acc, 0) f
    unfold rnS
    rw [if_pos rfl]
    rfl
  | g :: fs, f, xs, acc => by
    by_cases h : (g acc xs).2.2 = 0
    · rw [List.cons_append, run_cons_ok h, run_cons_ok h]
      exact run_snoc fs f _ _
    · rw [List.cons_append, run_cons_no h, run_cons_no h]
      unfold rnS
      rw [if_neg (show ¬ ((g acc xs).1, acc, (g acc xs).2.2).2.2 = 0 from h)]
end Go.KK
namespace Go.Proofs.YtkgobglmkhkbbaaGreatDoor
open Go.RowKit Go.KK Go.Shelf Go.Maps

/-- The variables of Begin, block by block. -/
def BgB (sa : Nat) (j p x : Int) (ep : List Int) (first mem ext : Int) : Nat → Array Value
  | 0 => #[.pointer (some ⟨sa, 0, none⟩)] | 1 => #[.int .i64 j] | 2 => #[.int .i64 p] | 3 => #[.int .i64 x] | 4 => ((List.replicate 11 (0 : Int)).map (.int .i64)).toArray
  | 5 => (ep.map (.int .i64)).toArray | 6 => #[.int .i64 first] | 7 => #[.int .i64 mem] | 8 => #[.int .i64 ext] | _ => #[]
def BgT : Nat → TypeId
  | 0 => 25 | 4 => 30 | 5 => 30 | 6 => 31 | _ => 3
structure BgM (W : World) (Z : Nat → Prop) (H : Nat) (B : Nat → Array Value) : Prop where
  at' : ∀ k, k < 9 → W.heap[H + k]? = some (.cells (B k) (BgT k) (0, 0))
  nz : ∀ k, k < 9 → ¬ Z (H + k)
section
variable {w0 W W' : World} {Z Z' : Nat → Prop} {sa H : Nat} {xs xs' : List ND} {B B' : Nat → Array Value}
theorem BgM.lt (h : BgM W Z H B) {k : Nat} (hk : k < 9) : H + k < W.heap.size := (Array.getElem?_eq_some_iff.1 (h.at' k hk)).1
theorem BgM.mv (h : BgM W Z H B) (m : Mv Z W Z' W') : BgM W' Z' H B :=
  ⟨fun k hk => (m.t.block _ (h.lt hk) (h.nz k hk)).trans (h.at' k hk), fun k hk hz => (m.n _ hz).elim (h.nz k hk) fun h' => by have := h.lt hk; omega⟩
theorem BgM.cell (h : BgM W Z H B) {k o : Nat} {v : Value} (hk : k < 9) (hv : (B k)[o]? = some v) : W.cell? ⟨H + k, o, none⟩ = some v := by
  rw [cell_of_row W (H + k) o _ _ (0, 0) (h.at' k hk)]
  exact hv
theorem BgM.frozen (h : BgM W Z H B) {k o : Nat} (hk : k < 9) : W.frozen? ⟨H + k, o, none⟩ = false := frozen_of_row W (H + k) o _ _ (h.at' k hk)
/-- One of the variables is turned. -/
theorem BgM.put (h : BgM W Z H B) {i o : Nat} (hi : i < 9) (v : Value) (he : ∀ k, k < 9 → k ≠ i → B' k = B k) (hn : B' i = (B i).setIfInBounds o v) : BgM (W.setCell ⟨H + i, o, none⟩ v) Z H B' := by
  refine ⟨fun k hk => ?_, h.nz⟩
  by_cases e : k = i
  · subst e
    rw [heap_setCell_same W (H + k) o _ _ _ (h.at' k hk), hn]
  · rw [Below.heap_setCell W ⟨H + i, o, none⟩ v (H + k) (by simp; omega), he k hk e]
    exact h.at' k hk
theorem LA.put1 (h : LA w0 W Z sa xs) {b o : Nat} (v : Value) (hz : ¬ Z b) (hb : w0.heap.size ≤ b) : LA w0 (W.setCell ⟨b, o, none⟩ v) Z sa xs := by
  have ht : Turn (fun k => k = b) W (W.setCell ⟨b, o, none⟩ v) := Turn.setCell v (.inl rfl)
  exact ⟨h.ar.turn ht fun k hk e => hz (e ▸ hk), h.z, h.bl.trans (ht.below (fun k e => e ▸ hb) h.bl.size)⟩
end
/-- What 'do' leaves: the step was taken, or an error had come ahead. -/
def DoS (w0 W : World) (Z : Nat → Prop) (sa H : Nat) (j p x : Int) (R : List ND × List Int × Int) (f : List Int → List ND → Rs) (ep ep' : Int → List Int) (mem mem' ext ext' : Int → Int) (e : Ending) (w' : World) : Prop :=
  e = .returned (.tuple #[]) ∧ ∃ Z' : Nat → Prop, LA w0 w' Z' sa (rnS R f).1 ∧ Turn (fun b => Z b ∨ H ≤ b) W w' ∧ (∀ b, Z' b → Z b ∨ W.heap.size ≤ b) ∧ ((R.2.2 = 0 → BgM w' Z' H (BgB sa j p x (ep' (f R.2.1 R.1).2.1) (f R.2.1 R.1).2.2 (mem' (f R.2.1 R.1).2.1) (ext' (f R.2.1 R.1).2.1))) ∧ (R.2.2 ≠ 0 → BgM w' Z' H (BgB sa j p x (ep 0) R.2.2 (mem 0) (ext 0))))
section
variable {w0 W : World} {Z : Nat → Prop} {sa H : Nat} {j p x : Int} {R : List ND × List Int × Int} {f : List Int → List ND → Rs} {ep : List Int} {mem ext : Int}
set_option maxHeartbeats 2000000 in
set_option maxRecDepth 100000 in
theorem do_2 (h : LA w0 W Z sa R.1) (hb : BgM W Z H (BgB sa j p x ep R.2.2 mem ext)) (hB : w0.heap.size ≤ H) {i q : Nat} {v0 : Value} (hi : i < 9) (hi6 : i ≠ 6) (hq : (BgB sa j p x ep R.2.2 mem ext i)[q]? = some v0)
    (ep' : Int → List Int) (mem' ext' : Int → Int)
    (hput : ∀ (a e : Int) k, k < 9 → k ≠ i → k ≠ 6 → BgB sa j p x (ep' a) e (mem' a) (ext' a) k = BgB sa j p x ep R.2.2 mem ext k) (hput2 : ∀ a e : Int, BgB sa j p x (ep' a) e (mem' a) (ext' a) i = (BgB sa j p x ep R.2.2 mem ext i).setIfInBounds q (.int .i64 a))
    (hmk : R.2.2 = 0 → Calls Tryz.prog 61 #[.pointer (some ⟨H, 0, none⟩), .pointer (some ⟨H + 1, 0, none⟩), .pointer (some ⟨H + 2, 0, none⟩)] W (LrS w0 W Z sa (f R.2.1 R.1))) :
    Calls Tryz.prog 60 #[.pointer (some ⟨H + i, q, none⟩), .func (.func 61) #[] #[.pointer (some ⟨H, 0, none⟩), .pointer (some ⟨H + 1, 0, none⟩), .pointer (some ⟨H + 2, 0, none⟩)], .pointer (some ⟨H + 6, 0, none⟩)] W (DoS w0 W Z sa H j p x R f (fun _ => ep) ep' (fun _ => mem) mem' (fun _ => ext) ext') := by
  have hf := hb.cell (k := 6) (o := 0) (by omega) (show (BgB sa j p x ep R.2.2 mem ext 6)[0]? = some (.int .i64 R.2.2) from rfl)
  by_cases he : R.2.2 = 0
  · have HM := hid (hmk he)
    have HR := hid (show (rnS R f).1 = (f R.2.1 R.1).1 by unfold rnS; rw [if_pos he]; split <;> rfl)
    have HBB := hid hb
    have HE := hid he
    rw [he] at hf
    clear h hmk he hb
    unfold DoS
    generalize f R.2.1 R.1 = r at *
    go_enter Tryz.func60, Tryz.ntmps60
    go_wp2_with fail
    refine HM.out.mono ?_
    rintro e w2 ⟨Z2, rfl, l2, m2⟩
    have B2 := hid (HBB.out.mv m2)
    have L2 := hid l2
    have c1 := B2.out.cell hi hq
    have z1 := B2.out.frozen (o := q) hi
    have c2 := B2.out.cell (k := 6) (o := 0) (by omega) (show (BgB sa j p x ep R.2.2 mem ext 6)[0]? = some (.int .i64 R.2.2) from rfl)
    have z2 := B2.out.frozen (k := 6) (o := 0) (by omega)
    have hi69 : (6 : Nat) < 9 := by decide
    have HP := hid (show BgM ((w2.setCell ⟨H + i, q, none⟩ (.int .i64 r.2.1)).setCell ⟨H + 6, 0, none⟩ (.int .i64 r.2.2)) Z2 H (BgB sa j p x (ep' r.2.1) r.2.2 (mem' r.2.1) (ext' r.2.1)) from by
      have s1 := B2.out.put (B' := fun k => if k = i then (BgB sa j p x ep R.2.2 mem ext i).setIfInBounds q (.int .i64 r.2.1) else BgB sa j p x ep R.2.2 mem ext k) hi (.int .i64 r.2.1) (fun k _ hne => if_neg hne) (if_pos rfl)
      refine s1.put hi69 (.int .i64 r.2.2) (fun k hk hne => ?_) ?_
      · by_cases e : k = i
        · subst e
          rw [if_pos rfl]; exact hput2 _ _
        · rw [if_neg e]; exact hput _ _ k hk e hne
      · rw [if_neg (Ne.symm hi6)]; rfl)
    have hne6 : ¬ (H + i = H + 6) := by omega
    have HL := hid ((L2.out.put1 (b := H + i) (o := q) (.int .i64 r.2.1) (B2.out.nz i hi) (by omega)).put1 (b := H + 6) (o := 0) (.int .i64 r.2.2) (B2.out.nz 6 hi69) (by omega))
    have HTU := hid (show Turn (fun b => Z b ∨ H ≤ b) W ((w2.setCell ⟨H + i, q, none⟩ (.int .i64 r.2.1)).setCell ⟨H + 6, 0, none⟩ (.int .i64 r.2.2)) from
      ((m2.t.mono (fun k hk => .inl hk)).trans (Turn.setCell (F := fun b => Z b ∨ H ≤ b) (a := ⟨H + i, q, none⟩) (.int .i64 r.2.1) (.inl (.inr (by simp)))) (fun k hk => .inl hk)).trans (Turn.setCell (F := fun b => Z b ∨ H ≤ b) (a := ⟨H + 6, 0, none⟩) (.int .i64 r.2.2) (.inl (.inr (by simp)))) (fun k hk => .inl hk))
    have HNN := hid m2.n
    clear l2 m2 B2 L2 HM HBB hput hput2
    go_wp2_with fail
    go_end0
    exact ⟨rfl, Z2, by rw [HR.out]; exact HL.out, HTU.out, HNN.out, fun _ => HP.out, fun hn => absurd HE.out hn⟩
  · have HR := hid (show rnS R f = R by unfold rnS; rw [if_neg he])
    have HBB := hid hb
    have HL := hid h
    have HE := hid he
    have hne : (R.2.2 == 0) = false := beq_eq_false_iff_ne.2 he
    clear h hmk he hb hput hput2
    unfold DoS
    rw [HR.out]
    generalize f R.2.1 R.1 = r at *
    go_enter Tryz.func60, Tryz.ntmps60
    go_wp2_with fail
    go_end0
    exact ⟨rfl, Z, HL.out, Turn.refl _ _, fun _ h => .inl h, fun hn => absurd hn HE.out, fun _ => HBB.out⟩
set_option maxHeartbeats 2000000 in
set_option maxRecDepth 100000 in
theorem do_3 (h : LA w0 W Z sa R.1) (hb : BgM W Z H (BgB sa j p x ep R.2.2 mem ext)) (hB : w0.heap.size ≤ H) {i q : Nat} {v0 : Value} (hi : i < 9) (hi6 : i ≠ 6) (hq : (BgB sa j p x ep R.2.2 mem ext i)[q]? = some v0)
    (ep' : Int → List Int) (mem' ext' : Int → Int)
    (hput : ∀ (a e : Int) k, k < 9 → k ≠ i → k ≠ 6 → BgB sa j p x (ep' a) e (mem' a) (ext' a) k = BgB sa j p x ep R.2.2 mem ext k) (hput2 : ∀ a e : Int, BgB sa j p x (ep' a) e (mem' a) (ext' a) i = (BgB sa j p x ep R.2.2 mem ext i).setIfInBounds q (.int .i64 a))
    (hmk : R.2.2 = 0 → Calls Tryz.prog 62 #[.pointer (some ⟨H, 0, none⟩), .pointer (some ⟨H + 7, 0, none⟩)] W (LrS w0 W Z sa (f R.2.1 R.1))) :
    Calls Tryz.prog 60 #[.pointer (some ⟨H + i, q, none⟩), .func (.func 62) #[] #[.pointer (some ⟨H, 0, none⟩), .pointer (some ⟨H + 7, 0, none⟩)], .pointer (some ⟨H + 6, 0, none⟩)] W (DoS w0 W Z sa H j p x R f (fun _ => ep) ep' (fun _ => mem) mem' (fun _ => ext) ext') := by
  have hf := hb.cell (k := 6) (o := 0) (by omega) (show (BgB sa j p x ep R.2.2 mem ext 6)[0]? = some (.int .i64 R.2.2) from rfl)
  by_cases he : R.2.2 = 0
  · have HM := hid (hmk he)
    have HR := hid (show (rnS R f).1 = (f R.2.1 R.1).1 by unfold rnS; rw [if_pos he]; split <;> rfl)
    have HBB := hid hb
    have HE := hid he
    rw [he] at hf
    clear h hmk he hb
    unfold DoS
    generalize f R.2.1 R.1 = r at *
    go_enter Tryz.func60, Tryz.ntmps60
    go_wp2_with fail
    refine HM.out.mono ?_
    rintro e w2 ⟨Z2, rfl, l2, m2⟩
    have B2 := hid (HBB.out.mv m2)
    have L2 := hid l2
    have c1 := B2.out.cell hi hq
    have z1 := B2.out.frozen (o := q) hi
    have c2 := B2.out.cell (k := 6) (o := 0) (by omega) (show (BgB sa j p x ep R.2.2 mem ext 6)[0]? = some (.int .i64 R.2.2) from rfl)
    have z2 := B2.out.frozen (k := 6) (o := 0) (by omega)
    have hi69 : (6 : Nat) < 9 := by decide
    have HP := hid (show BgM ((w2.setCell ⟨H + i, q, none⟩ (.int .i64 r.2.1)).setCell ⟨H + 6, 0, none⟩ (.int .i64 r.2.2)) Z2 H (BgB sa j p x (ep' r.2.1) r.2.2 (mem' r.2.1) (ext' r.2.1)) from by
      have s1 := B2.out.put (B' := fun k => if k = i then (BgB sa j p x ep R.2.2 mem ext i).setIfInBounds q (.int .i64 r.2.1) else BgB sa j p x ep R.2.2 mem ext k) hi (.int .i64 r.2.1) (fun k _ hne => if_neg hne) (if_pos rfl)
      refine s1.put hi69 (.int .i64 r.2.2) (fun k hk hne => ?_) ?_
      · by_cases e : k = i
        · subst e
          rw [if_pos rfl]; exact hput2 _ _
        · rw [if_neg e]; exact hput _ _ k hk e hne
      · rw [if_neg (Ne.symm hi6)]; rfl)
    have hne6 : ¬ (H + i = H + 6) := by omega
    have HL := hid ((L2.out.put1 (b := H + i) (o := q) (.int .i64 r.2.1) (B2.out.nz i hi) (by omega)).put1 (b := H + 6) (o := 0) (.int .i64 r.2.2) (B2.out.nz 6 hi69) (by omega))
    have HTU := hid (show Turn (fun b => Z b ∨ H ≤ b) W ((w2.setCell ⟨H + i, q, none⟩ (.int .i64 r.2.1)).setCell ⟨H + 6, 0, none⟩ (.int .i64 r.2.2)) from
      ((m2.t.mono (fun k hk => .inl hk)).trans (Turn.setCell (F := fun b => Z b ∨ H ≤ b) (a := ⟨H + i, q, none⟩) (.int .i64 r.2.1) (.inl (.inr (by simp)))) (fun k hk => .inl hk)).trans (Turn.setCell (F := fun b => Z b ∨ H ≤ b) (a := ⟨H + 6, 0, none⟩) (.int .i64 r.2.2) (.inl (.inr (by simp)))) (fun k hk => .inl hk))
    have HNN := hid m2.n
    clear l2 m2 B2 L2 HM HBB hput hput2
    go_wp2_with fail
    go_end0
    exact ⟨rfl, Z2, by rw [HR.out]; exact HL.out, HTU.out, HNN.out, fun _ => HP.out, fun hn => absurd HE.out hn⟩
  · have HR := hid (show rnS R f = R by unfold rnS; rw [if_neg he])
    have HBB := hid hb
    have HL := hid h
    have HE := hid he
    have hne : (R.2.2 == 0) = false := beq_eq_false_iff_ne.2 he
    clear h hmk he hb hput hput2
    unfold DoS
    rw [HR.out]
    generalize f R.2.1 R.1 = r at *
    go_enter Tryz.func60, Tryz.ntmps60
    go_wp2_with fail
    go_end0
    exact ⟨rfl, Z, HL.out, Turn.refl _ _, fun _ h => .inl h, fun hn => absurd hn HE.out, fun _ => HBB.out⟩
set_option maxHeartbeats 2000000 in
set_option maxRecDepth 100000 in
theorem do_4 (h : LA w0 W Z sa R.1) (hb : BgM W Z H (BgB sa j p x ep R.2.2 mem ext)) (hB : w0.heap.size ≤ H) {i q : Nat} {v0 : Value} (hi : i < 9) (hi6 : i ≠ 6) (hq : (BgB sa j p x ep R.2.2 mem ext i)[q]? = some v0)
    (ep' : Int → List Int) (mem' ext' : Int → Int)
    (hput : ∀ (a e : Int) k, k < 9 → k ≠ i → k ≠ 6 → BgB sa j p x (ep' a) e (mem' a) (ext' a) k = BgB sa j p x ep R.2.2 mem ext k) (hput2 : ∀ a e : Int, BgB sa j p x (ep' a) e (mem' a) (ext' a) i = (BgB sa j p x ep R.2.2 mem ext i).setIfInBounds q (.int .i64 a))
    (hmk : R.2.2 = 0 → Calls Tryz.prog 64 #[.pointer (some ⟨H, 0, none⟩), .pointer (some ⟨H + 7, 0, none⟩), .pointer (some ⟨H + 3, 0, none⟩)] W (LrS w0 W Z sa (f R.2.1 R.1))) :
    Calls Tryz.prog 60 #[.pointer (some ⟨H + i, q, none⟩), .func (.func 64) #[] #[.pointer (some ⟨H, 0, none⟩), .pointer (some ⟨H + 7, 0, none⟩), .pointer (some ⟨H + 3, 0, none⟩)], .pointer (some ⟨H + 6, 0, none⟩)] W (DoS w0 W Z sa H j p x R f (fun _ => ep) ep' (fun _ => mem) mem' (fun _ => ext) ext') := by
  have hf := hb.cell (k := 6) (o := 0) (by omega) (show (BgB sa j p x ep R.2.2 mem ext 6)[0]? = some (.int .i64 R.2.2) from rfl)
  by_cases he : R.2.2 = 0
  · have HM := hid (hmk he)
    have HR := hid (show (rnS R f).1 = (f R.2.1 R.1).1 by unfold rnS; rw [if_pos he]; split <;> rfl)
    have HBB := hid hb
    have HE := hid he
    rw [he] at hf
    clear h hmk he hb
    unfold DoS
    generalize f R.2.1 R.1 = r at *
    go_enter Tryz.func60, Tryz.ntmps60
    go_wp2_with fail
    refine HM.out.mono ?_
    rintro e w2 ⟨Z2, rfl, l2, m2⟩
    have B2 := hid (HBB.out.mv m2)
    have L2 := hid l2
    have c1 := B2.out.cell hi hq
    have z1 := B2.out.frozen (o := q) hi
    have c2 := B2.out.cell (k := 6) (o := 0) (by omega) (show (BgB sa j p x ep R.2.2 mem ext 6)[0]? = some (.int .i64 R.2.2) from rfl)
    have z2 := B2.out.frozen (k := 6) (o := 0) (by omega)
    have hi69 : (6 : Nat) < 9 := by decide
    have HP := hid (show BgM ((w2.setCell ⟨H + i, q, none⟩ (.int .i64 r.2.1)).setCell ⟨H + 6, 0, none⟩ (.int .i64 r.2.2)) Z2 H (BgB sa j p x (ep' r.2.1) r.2.2 (mem' r.2.1) (ext' r.2.1)) from by
      have s1 := B2.out.put (B' := fun k => if k = i then (BgB sa j p x ep R.2.2 mem ext i).setIfInBounds q (.int .i64 r.2.1) else BgB sa j p x ep R.2.2 mem ext k) hi (.int .i64 r.2.1) (fun k _ hne => if_neg hne) (if_pos rfl)
      refine s1.put hi69 (.int .i64 r.2.2) (fun k hk hne => ?_) ?_
      · by_cases e : k = i
        · subst e
          rw [if_pos rfl]; exact hput2 _ _
        · rw [if_neg e]; exact hput _ _ k hk e hne
      · rw [if_neg (Ne.symm hi6)]; rfl)
    have hne6 : ¬ (H + i = H + 6) := by omega
    have HL := hid ((L2.out.put1 (b := H + i) (o := q) (.int .i64 r.2.1) (B2.out.nz i hi) (by omega)).put1 (b := H + 6) (o := 0) (.int .i64 r.2.2) (B2.out.nz 6 hi69) (by omega))
    have HTU := hid (show Turn (fun b => Z b ∨ H ≤ b) W ((w2.setCell ⟨H + i, q, none⟩ (.int .i64 r.2.1)).setCell ⟨H + 6, 0, none⟩ (.int .i64 r.2.2)) from
      ((m2.t.mono (fun k hk => .inl hk)).trans (Turn.setCell (F := fun b => Z b ∨ H ≤ b) (a := ⟨H + i, q, none⟩) (.int .i64 r.2.1) (.inl (.inr (by simp)))) (fun k hk => .inl hk)).trans (Turn.setCell (F := fun b => Z b ∨ H ≤ b) (a := ⟨H + 6, 0, none⟩) (.int .i64 r.2.2) (.inl (.inr (by simp)))) (fun k hk => .inl hk))
    have HNN := hid m2.n
    clear l2 m2 B2 L2 HM HBB hput hput2
    go_wp2_with fail
    go_end0
    exact ⟨rfl, Z2, by rw [HR.out]; exact HL.out, HTU.out, HNN.out, fun _ => HP.out, fun hn => absurd HE.out hn⟩
  · have HR := hid (show rnS R f = R by unfold rnS; rw [if_neg he])
    have HBB := hid hb
    have HL := hid h
    have HE := hid he
    have hne : (R.2.2 == 0) = false := beq_eq_false_iff_ne.2 he
    clear h hmk he hb hput hput2
    unfold DoS
    rw [HR.out]
    generalize f R.2.1 R.1 = r at *
    go_enter Tryz.func60, Tryz.ntmps60
    go_wp2_with fail
    go_end0
    exact ⟨rfl, Z, HL.out, Turn.refl _ _, fun _ h => .inl h, fun hn => absurd hn HE.out, fun _ => HBB.out⟩
set_option maxHeartbeats 2000000 in
set_option maxRecDepth 100000 in
theorem do_5 (h : LA w0 W Z sa R.1) (hb : BgM W Z H (BgB sa j p x ep R.2.2 mem ext)) (hB : w0.heap.size ≤ H) {i q : Nat} {tb : Nat} {v0 : Value} (hi : i < 9) (hi6 : i ≠ 6) (hq : (BgB sa j p x ep R.2.2 mem ext i)[q]? = some v0)
    (ep' : Int → List Int) (mem' ext' : Int → Int)
    (hput : ∀ (a e : Int) k, k < 9 → k ≠ i → k ≠ 6 → BgB sa j p x (ep' a) e (mem' a) (ext' a) k = BgB sa j p x ep R.2.2 mem ext k) (hput2 : ∀ a e : Int, BgB sa j p x (ep' a) e (mem' a) (ext' a) i = (BgB sa j p x ep R.2.2 mem ext i).setIfInBounds q (.int .i64 a))
    (hmk : R.2.2 = 0 → Calls Tryz.prog 66 #[.pointer (some ⟨H, 0, none⟩), .pointer (some ⟨H + 5, 0, none⟩), .pointer (some ⟨tb, 0, none⟩)] W (LrS w0 W Z sa (f R.2.1 R.1))) :
    Calls Tryz.prog 60 #[.pointer (some ⟨H + i, q, none⟩), .func (.func 66) #[] #[.pointer (some ⟨H, 0, none⟩), .pointer (some ⟨H + 5, 0, none⟩), .pointer (some ⟨tb, 0, none⟩)], .pointer (some ⟨H + 6, 0, none⟩)] W (DoS w0 W Z sa H j p x R f (fun _ => ep) ep' (fun _ => mem) mem' (fun _ => ext) ext') := by
  have hf := hb.cell (k := 6) (o := 0) (by omega) (show (BgB sa j p x ep R.2.2 mem ext 6)[0]? = some (.int .i64 R.2.2) from rfl)
  by_cases he : R.2.2 = 0
  · have HM := hid (hmk he)
    have HR := hid (show (rnS R f).1 = (f R.2.1 R.1).1 by unfold rnS; rw [if_pos he]; split <;> rfl)
    have HBB := hid hb
    have HE := hid he
    rw [he] at hf
    clear h hmk he hb
    unfold DoS
    generalize f R.2.1 R.1 = r at *
    go_enter Tryz.func60, Tryz.ntmps60
    go_wp2_with fail
    refine HM.out.mono ?_
    rintro e w2 ⟨Z2, rfl, l2, m2⟩
    have B2 := hid (HBB.out.mv m2)
    have L2 := hid l2
    have c1 := B2.out.cell hi hq
    have z1 := B2.out.frozen (o := q) hi
    have c2 := B2.out.cell (k := 6) (o := 0) (by omega) (show (BgB sa j p x ep R.2.2 mem ext 6)[0]? = some (.int .i64 R.2.2) from rfl)
    have z2 := B2.out.frozen (k := 6) (o := 0) (by omega)
    have hi69 : (6 : Nat) < 9 := by decide
    have HP := hid (show BgM ((w2.setCell ⟨H + i, q, none⟩ (.int .i64 r.2.1)).setCell ⟨H + 6, 0, none⟩ (.int .i64 r.2.2)) Z2 H (BgB sa j p x (ep' r.2.1) r.2.2 (mem' r.2.1) (ext' r.2.1)) from by
      have s1 := B2.out.put (B' := fun k => if k = i then (BgB sa j p x ep R.2.2 mem ext i).setIfInBounds q (.int .i64 r.2.1) else BgB sa j p x ep R.2.2 mem ext k) hi (.int .i64 r.2.1) (fun k _ hne => if_neg hne) (if_pos rfl)
      refine s1.put hi69 (.int .i64 r.2.2) (fun k hk hne => ?_) ?_
      · by_cases e : k = i
        · subst e
          rw [if_pos rfl]; exact hput2 _ _
        · rw [if_neg e]; exact hput _ _ k hk e hne
      · rw [if_neg (Ne.symm hi6)]; rfl)
    have hne6 : ¬ (H + i = H + 6) := by omega
    have HL := hid ((L2.out.put1 (b := H + i) (o := q) (.int .i64 r.2.1) (B2.out.nz i hi) (by omega)).put1 (b := H + 6) (o := 0) (.int .i64 r.2.2) (B2.out.nz 6 hi69) (by omega))
    have HTU := hid (show Turn (fun b => Z b ∨ H ≤ b) W ((w2.setCell ⟨H + i, q, none⟩ (.int .i64 r.2.1)).setCell ⟨H + 6, 0, none⟩ (.int .i64 r.2.2)) from
      ((m2.t.mono (fun k hk => .inl hk)).trans (Turn.setCell (F := fun b => Z b ∨ H ≤ b) (a := ⟨H + i, q, none⟩) (.int .i64 r.2.1) (.inl (.inr (by simp)))) (fun k hk => .inl hk)).trans (Turn.setCell (F := fun b => Z b ∨ H ≤ b) (a := ⟨H + 6, 0, none⟩) (.int .i64 r.2.2) (.inl (.inr (by simp)))) (fun k hk => .inl hk))
    have HNN := hid m2.n
    clear l2 m2 B2 L2 HM HBB hput hput2
    go_wp2_with fail
    go_end0
    exact ⟨rfl, Z2, by rw [HR.out]; exact HL.out, HTU.out, HNN.out, fun _ => HP.out, fun hn => absurd HE.out hn⟩
  · have HR := hid (show rnS R f = R by unfold rnS; rw [if_neg he])
    have HBB := hid hb
    have HL := hid h
    have HE := hid he
    have hne : (R.2.2 == 0) = false := beq_eq_false_iff_ne.2 he
    clear h hmk he hb hput hput2
    unfold DoS
    rw [HR.out]
    generalize f R.2.1 R.1 = r at *
    go_enter Tryz.func60, Tryz.ntmps60
    go_wp2_with fail
    go_end0
    exact ⟨rfl, Z, HL.out, Turn.refl _ _, fun _ h => .inl h, fun hn => absurd hn HE.out, fun _ => HBB.out⟩
set_option maxHeartbeats 2000000 in
set_option maxRecDepth 100000 in
theorem do_6 (h : LA w0 W Z sa R.1) (hb : BgM W Z H (BgB sa j p x ep R.2.2 mem ext)) (hB : w0.heap.size ≤ H) {i q : Nat} {v0 : Value} (hi : i < 9) (hi6 : i ≠ 6) (hq : (BgB sa j p x ep R.2.2 mem ext i)[q]? = some v0)
    (ep' : Int → List Int) (mem' ext' : Int → Int)
    (hput : ∀ (a e : Int) k, k < 9 → k ≠ i → k ≠ 6 → BgB sa j p x (ep' a) e (mem' a) (ext' a) k = BgB sa j p x ep R.2.2 mem ext k) (hput2 : ∀ a e : Int, BgB sa j p x (ep' a) e (mem' a) (ext' a) i = (BgB sa j p x ep R.2.2 mem ext i).setIfInBounds q (.int .i64 a))
    (hmk : R.2.2 = 0 → Calls Tryz.prog 67 #[.pointer (some ⟨H, 0, none⟩), .pointer (some ⟨H + 8, 0, none⟩)] W (LrS w0 W Z sa (f R.2.1 R.1))) :
    Calls Tryz.prog 60 #[.pointer (some ⟨H + i, q, none⟩), .func (.func 67) #[] #[.pointer (some ⟨H, 0, none⟩), .pointer (some ⟨H + 8, 0, none⟩)], .pointer (some ⟨H + 6, 0, none⟩)] W (DoS w0 W Z sa H j p x R f (fun _ => ep) ep' (fun _ => mem) mem' (fun _ => ext) ext') := by
  have hf := hb.cell (k := 6) (o := 0) (by omega) (show (BgB sa j p x ep R.2.2 mem ext 6)[0]? = some (.int .i64 R.2.2) from rfl)
  by_cases he : R.2.2 = 0
  · have HM := hid (hmk he)
    have HR := hid (show (rnS R f).1 = (f R.2.1 R.1).1 by unfold rnS; rw [if_pos he]; split <;> rfl)
    have HBB := hid hb
    have HE := hid he
    rw [he] at hf
    clear h hmk he hb
    unfold DoS
    generalize f R.2.1 R.1 = r at *
    go_enter Tryz.func60, Tryz.ntmps60
    go_wp2_with fail
    refine HM.out.mono ?_
    rintro e w2 ⟨Z2, rfl, l2, m2⟩
    have B2 := hid (HBB.out.mv m2)
    have L2 := hid l2
    have c1 := B2.out.cell hi hq
    have z1 := B2.out.frozen (o := q) hi
    have c2 := B2.out.cell (k := 6) (o := 0) (by omega) (show (BgB sa j p x ep R.2.2 mem ext 6)[0]? = some (.int .i64 R.2.2) from rfl)
    have z2 := B2.out.frozen (k := 6) (o := 0) (by omega)
    have hi69 : (6 : Nat) < 9 := by decide
    have HP := hid (show BgM ((w2.setCell ⟨H + i, q, none⟩ (.int .i64 r.2.1)).setCell ⟨H + 6, 0, none⟩ (.int .i64 r.2.2)) Z2 H (BgB sa j p x (ep' r.2.1) r.2.2 (mem' r.2.1) (ext' r.2.1)) from by
      have s1 := B2.out.put (B' := fun k => if k = i then (BgB sa j p x ep R.2.2 mem ext i).setIfInBounds q (.int .i64 r.2.1) else BgB sa j p x ep R.2.2 mem ext k) hi (.int .i64 r.2.1) (fun k _ hne => if_neg hne) (if_pos rfl)
      refine s1.put hi69 (.int .i64 r.2.2) (fun k hk hne => ?_) ?_
      · by_cases e : k = i
        · subst e
          rw [if_pos rfl]; exact hput2 _ _
        · rw [if_neg e]; exact hput _ _ k hk e hne
      · rw [if_neg (Ne.symm hi6)]; rfl)
    have hne6 : ¬ (H + i = H + 6) := by omega
    have HL := hid ((L2.out.put1 (b := H + i) (o := q) (.int .i64 r.2.1) (B2.out.nz i hi) (by omega)).put1 (b := H + 6) (o := 0) (.int .i64 r.2.2) (B2.out.nz 6 hi69) (by omega))
    have HTU := hid (show Turn (fun b => Z b ∨ H ≤ b) W ((w2.setCell ⟨H + i, q, none⟩ (.int .i64 r.2.1)).setCell ⟨H + 6, 0, none⟩ (.int .i64 r.2.2)) from
      ((m2.t.mono (fun k hk => .inl hk)).trans (Turn.setCell (F := fun b => Z b ∨ H ≤ b) (a := ⟨H + i, q, none⟩) (.int .i64 r.2.1) (.inl (.inr (by simp)))) (fun k hk => .inl hk)).trans (Turn.setCell (F := fun b => Z b ∨ H ≤ b) (a := ⟨H + 6, 0, none⟩) (.int .i64 r.2.2) (.inl (.inr (by simp)))) (fun k hk => .inl hk))
    have HNN := hid m2.n
    clear l2 m2 B2 L2 HM HBB hput hput2
    go_wp2_with fail
    go_end0
    exact ⟨rfl, Z2, by rw [HR.out]; exact HL.out, HTU.out, HNN.out, fun _ => HP.out, fun hn => absurd HE.out hn⟩
  · have HR := hid (show rnS R f = R by unfold rnS; rw [if_neg he])
    have HBB := hid hb
    have HL := hid h
    have HE := hid he
    have hne : (R.2.2 == 0) = false := beq_eq_false_iff_ne.2 he
    clear h hmk he hb hput hput2
    unfold DoS
    rw [HR.out]
    generalize f R.2.1 R.1 = r at *
    go_enter Tryz.func60, Tryz.ntmps60
    go_wp2_with fail
    go_end0
    exact ⟨rfl, Z, HL.out, Turn.refl _ _, fun _ h => .inl h, fun hn => absurd hn HE.out, fun _ => HBB.out⟩
end
end Go.Proofs.YtkgobglmkhkbbaaGreatDoor
