import Derived.Test.YtekfjcaihocmmaaGreatDoorY05
import Derived.Test.YtekfjcaihocmmaaGreatDoorY08
/- ratchet: the way up from a leaf. -/
namespace Go.Proofs.YtekfjcaihocmmaaGreatDoor
open Go.RowKit Go.KK Go.Shelf
set_option linter.unusedVariables false
set_option linter.unusedSimpArgs false

/-- One node turned. -/
def upd (f : TN → TN) (xs : List TN) (j : Nat) : List TN := match xs[j]? with | some x => xs.set j (f x) | none => xs
theorem upd_get {f : TN → TN} {xs : List TN} {j k : Nat} {x : TN} (h : (upd f xs j)[k]? = some x) : (k = j ∧ ∃ y, xs[j]? = some y ∧ x = f y) ∨ (k ≠ j ∧ xs[k]? = some x) := by
  unfold upd at h
  split at h
  · rename_i y hy
    rcases set_get h with ⟨rfl, rfl⟩ | ⟨hne, h'⟩
    · exact .inl ⟨rfl, y, hy, rfl⟩
    · exact .inr ⟨hne, h'⟩
  · rename_i hn
    by_cases hk : k = j
    · subst hk; rw [hn] at h; cases h
    · exact .inr ⟨hk, h⟩

/-- Parents' lists are in order, and short. -/
def Ord (B : Nat) (xs : List TN) : Prop := ∀ (j : Nat) x, xs[j]? = some x → x.u.Pairwise (· ≤ ·) ∧ x.u.length ≤ B
theorem lessN_take {u : List Int} (h : u.Pairwise (· ≤ ·)) (i : Int) : (∀ y ∈ u.take (lessN u i), y < i) ∧ (∀ y ∈ u.drop (lessN u i), i ≤ y) := by
  induction u with
  | nil => simp [lessN]
  | cons a u ih =>
    have h' := List.pairwise_cons.1 h
    obtain ⟨i1, i2⟩ := ih h'.2
    by_cases ha : a < i
    · have e : lessN (a :: u) i = lessN u i + 1 := by unfold lessN; rw [List.countP_cons_of_pos (by simpa using ha)]
      rw [e, List.take_succ_cons, List.drop_succ_cons]
      refine ⟨fun y hy => ?_, i2⟩
      rcases List.mem_cons.1 hy with rfl | hy
      · exact ha
      · exact i1 y hy
    · have e : lessN (a :: u) i = 0 := by
        unfold lessN
        rw [List.countP_eq_zero]
        intro y hy
        rcases List.mem_cons.1 hy with rfl | hy
        · simpa using ha
        · have := h'.1 y hy; simp; omega
      rw [e]
      refine ⟨by simp, fun y hy => ?_⟩
      rw [List.drop_zero] at hy
      rcases List.mem_cons.1 hy with rfl | hy
      · omega
      · have := h'.1 y hy; omega
theorem insL_sorted {u : List Int} (h : u.Pairwise (· ≤ ·)) (i : Int) : (insL u (lessN u i) i).Pairwise (· ≤ ·) := by
  obtain ⟨h1, h2⟩ := lessN_take h i
  unfold insL
  have hp : (u.take (lessN u i) ++ u.drop (lessN u i)).Pairwise (· ≤ ·) := by rw [List.take_append_drop]; exact h
  rw [List.pairwise_append] at hp ⊢
  refine ⟨hp.1, List.pairwise_cons.2 ⟨h2, hp.2.1⟩, fun a ha b hb => ?_⟩
  rcases List.mem_cons.1 hb with rfl | hb
  · have := h1 a ha; omega
  · exact hp.2.2 a ha b hb
theorem Ord.add {B : Nat} {xs : List TN} {i : Int} (h : Ord B xs) (j : Nat) : Ord (B + 1) (upd (addN i) xs j) := by
  intro k x hx
  rcases upd_get hx with ⟨rfl, y, hy, rfl⟩ | ⟨_, hx'⟩
  · obtain ⟨h1, h2⟩ := h k y hy
    unfold addN
    split
    · exact ⟨insL_sorted h1 i, by show (insL _ _ _).length ≤ _; rw [insL_len _ _ _ (lessN_le _ _)]; omega⟩
    · exact ⟨h1, by omega⟩
  · obtain ⟨h1, h2⟩ := h k x hx'
    exact ⟨h1, by omega⟩

end Go.Proofs.YtekfjcaihocmmaaGreatDoor

/- ratchet: Add. -/
namespace Go.Proofs.YtekfjcaihocmmaaGreatDoor
open Go.RowKit Go.KK Go.Shelf
set_option linter.unusedVariables false
set_option linter.unusedSimpArgs false

/-- What holds while the first free place is looked for. -/
structure AddR (w wr : World) (g cap bi : Nat) (xs : List TN) (qs : List Value) (lb : Array Value) (j : Nat) : Prop where
  cell : wr.cell? ⟨bi, 0, none⟩ = some (.int .i64 j)
  froz : wr.frozen? ⟨bi, 0, none⟩ = false
  tr : TrW wr w.heap.size g cap xs qs
  far : Far wr g xs qs bi
  box : wr.heap[w.heap.size]? = some (.cells lb 37 (0, 0))
  bfar : Far wr g xs qs w.heap.size
  below : Below w.heap.size w wr
  bne : w.heap.size < bi
theorem AddR.drewN {w wr : World} {g cap bi : Nat} {xs : List TN} {qs : List Value} {lb : Array Value} {j : Nat} (h : AddR w wr g cap bi xs qs lb j) (k : Nat) : AddR w (wr.drewN k) g cap bi xs qs lb j :=
  ⟨h.cell, h.froz, h.tr.drewN k, ⟨h.far.lt, h.far.ne, h.far.far⟩, h.box, ⟨h.bfar.lt, h.bfar.ne, h.bfar.far⟩, below_drewN h.below k, h.bne⟩
theorem far_set {w : World} {base g cap : Nat} {xs : List TN} {qs : List Value} {b : Nat} (h : TrW w base g cap xs qs) (hf : Far w g xs qs b) (u : Value) : TrW (w.setCell ⟨b, 0, none⟩ u) base g cap xs qs := by
  have hg : w.grownBy (w.setCell ⟨b, 0, none⟩ u) (some b) := ⟨rfl, rfl, rfl, by simp, fun k _ hk => Below.heap_setCell w ⟨b, 0, none⟩ u k (fun e => hk (by rw [e]))⟩
  exact h.grown hg (fun e => hf.ne (by injection e)) (fun j x q hx hq hk => .inr (hf.far j x q hx hq hk))
theorem AddR.step {w wr : World} {g cap bi : Nat} {xs : List TN} {qs : List Value} {lb : Array Value} {j : Nat} (h : AddR w wr g cap bi xs qs lb j) (k : Nat) (v : Value) (hv : v = .int .i64 (k : Int)) : AddR w (wr.setCell ⟨bi, 0, none⟩ v) g cap bi xs qs lb k := by
  subst hv
  exact ⟨World.cell?_setCell_same _ _ _ h.cell, by simpa using h.froz, far_set h.tr h.far _, ⟨by simpa using h.far.lt, h.far.ne, h.far.far⟩, by rw [Below.heap_setCell _ _ _ _ (by have := h.bne; show w.heap.size ≠ bi; omega)]; exact h.box, ⟨by simpa using h.bfar.lt, h.bfar.ne, h.bfar.far⟩, h.below.setCell (Nat.le_of_lt h.bne) _, h.bne⟩
theorem AddR.start {w w1 w2 : World} {g cap : Nat} {xs : List TN} {qs : List Value} {lb : Array Value} (htr : TrW w2 w1.heap.size g cap xs qs) (hlt : w.heap.size < w1.heap.size) (hbox : w2.heap[w.heap.size]? = some (.cells lb 37 (0, 0))) (hb : Below w.heap.size w w2) (hz : w1.heap.size ≤ w2.heap.size) :
    AddR w (w2.alloc (.cells #[.int .i64 0] 3)) g cap w2.heap.size xs qs lb 0 := by
  have hgl := htr.lt
  refine ⟨by rw [World.cell?_alloc_at _ _ _ _ rfl]; rfl, by rw [World.frozen?_alloc_at _ _ _ _ rfl], (htr.alloc _).mono (Nat.le_of_lt hlt), Far.new htr (Nat.le_refl _) (by simp), ?_, ⟨by simp; omega, by omega, fun j x q hx hq hk e => ?_⟩, hb.alloc (by omega) _, by omega⟩
  · exact (World.grownBy_alloc w2 _ none).block _ (by omega) (by simp) |>.trans hbox
  · have := (((htr.own j x q hx hq).1 hk).1.lt _ e).1
    omega
end Go.Proofs.YtekfjcaihocmmaaGreatDoor

/- ratchet: change, Remove, Update, New. -/
namespace Go.Proofs.YtekfjcaihocmmaaGreatDoor
open Go.RowKit Go.KK Go.Shelf
set_option linter.unusedVariables false
set_option linter.unusedSimpArgs false

end Go.Proofs.YtekfjcaihocmmaaGreatDoor

/- the reference of layer 3: In, SameInts. -/
namespace Go.Proofs.YtekfjcaihocmmaaGreatDoor
open Go.RowKit Go.KK Go.Shelf
set_option linter.unusedVariables false
set_option linter.unusedSimpArgs false

/-- Whether a number is in a list. -/
def inTB (l : List Int) (x : Int) : Bool := l.contains x
theorem int_any (A : Option Addr) (n c : Nat) (l : List Int) (x : Int) (w : World) (h : SlA w 1 A n c (l.map (.int .i64))) (hn : n ≤ 2147483648) :
    Calls Tryz.prog 109 #[.slice A n c, .int .i64 x] w fun e w' => e = .returned (.bool (inTB l x)) ∧ w' = w := by
  have HL := hid h.lenI; have HS := hid h
  clear h
  go_enter Tryz.func109, Tryz.ntmps109
  go_wp2
  go_loop [9, 4] (fun i _ => ∃ j : Nat, i = .int .i64 j ∧ j ≤ n ∧ Hid (inTB l x = inTB (l.drop j) x)) (fun i _ => n - (intOf i).toNat)
  case atStart => exact ⟨0, rfl, by omega, hid rfl⟩
  case round =>
    obtain ⟨j, hi, hj, HJ⟩ := hrel
    subst hi
    by_cases hlt : j < n
    · obtain ⟨b, o, z, rfl, hz, hc⟩ := HS.out.elemI hlt
      have HD := hid (tdrop_get hz); clear hz
      by_cases hzx : z = x
      · have HF := hid (show inTB l x = true by rw [HJ.out, HD.out, hzx]; unfold inTB; simp)
        have hzx' : (z == x) = true := beq_iff_eq.2 hzx
        clear hzx
        go_wp2
        go_ret
        exact ⟨by rw [HF.out]; rfl, rfl⟩
      · have HF := hid (show inTB l x = inTB (l.drop (j + 1)) x by
          rw [HJ.out, HD.out]; unfold inTB; rw [List.contains_cons, beq_eq_false_iff_ne.2 (fun e => hzx e.symm), Bool.false_or])
        have hzx' : (z == x) = false := beq_eq_false_iff_ne.2 hzx
        clear hzx
        go_wp2
        go_round
        case rel => exact ⟨j + 1, by go_num, by omega, HF⟩
        case measure => simp [intOf]; omega
    · have HF := hid (show inTB l x = false by rw [HJ.out, List.drop_of_length_le (by have := HL.out; omega)]; rfl)
      go_wp2
      go_ret
      exact ⟨by rw [HF.out]; rfl, rfl⟩
end Go.Proofs.YtekfjcaihocmmaaGreatDoor

/- whether two trees are the same: both ways. -/
namespace Go.Proofs.YtekfjcaihocmmaaGreatDoor
open Go.RowKit Go.KK Go.Shelf
set_option linter.unusedVariables false
set_option linter.unusedSimpArgs false

end Go.Proofs.YtekfjcaihocmmaaGreatDoor

/- the reference of layer 6: a tree's numbers. -/
namespace Go.Proofs.YtekfjcaihocmmaaGreatDoor
open Go.RowKit Go.KK Go.Shelf
set_option linter.unusedVariables false
set_option linter.unusedSimpArgs false

def levF : Nat → Nat → Nat
  | 0, _ => 0
  | f + 1, m => if m % 2 = 1 then levF f (m / 2) + 1 else 0
theorem lev_eq : ∀ m : Nat, m < 511 → levF 10 m = lvl (m : Int) := by decide +kernel
theorem rlevel_any (m : Nat) (w : World) (hm : m ≤ 510) :
    Calls Tryz.prog 216 #[.int .i64 m] w fun e w' => e = .returned (.tuple #[.int .i64 (lvl (m : Int)), .int .i64 0]) ∧ w' = w := by
  have HL := hid (lev_eq m (by omega))
  go_enter Tryz.func216, Tryz.ntmps216
  go_wp2
  go_loop [0, 4] (fun x k => ∃ (z f k' : Nat), x = .int .i64 z ∧ k = .int .i64 k' ∧ f + k' = 10 ∧ z ≤ 510 ∧ Hid (z < 2 ^ f) ∧ Hid (levF 10 m = levF f z + k')) (fun x _ => (intOf x).toNat)
  case atStart => exact ⟨m, 10, 0, rfl, rfl, rfl, hm, hid (by omega), hid rfl⟩
  case round =>
    obtain ⟨z, f, k', hx, hk, hf, hz, HZ, HV⟩ := hrel
    subst hx; subst hk
    have hk10 : k' ≤ 10 := by omega
    have HK := hid hf; clear hf
    by_cases ho : z % 2 = 1
    · obtain ⟨f, rfl⟩ : ∃ f', f = f' + 1 := ⟨f - 1, by
        rcases f with _ | f
        · have h0 : z < 2 ^ 0 := HZ.out
          rw [Nat.pow_zero] at h0; omega
        · omega⟩
      have HV2 := hid (show levF 10 m = levF f (z / 2) + (k' + 1) by rw [HV.out, levF, if_pos ho]; omega)
      have HZ2 := hid (show z / 2 < 2 ^ f by have := HZ.out; rw [Nat.pow_succ] at this; omega)
      have ho' : ((z : Int) % 2 == 1) = true := beq_iff_eq.2 (by omega)
      have hz1 : 1 ≤ z := by omega
      clear ho
      go_wp2
      go_round
      case rel => exact ⟨z / 2, f, k' + 1, by go_num, by go_num, by have := HK.out; omega, by omega, HZ2, HV2⟩
      case measure => simp [intOf]; omega
    · have HV2 := hid (show lvl (m : Int) = k' by
        rw [← HL.out, HV.out]
        rcases f with _ | f
        · rw [levF]; omega
        · rw [levF, if_neg ho]; omega)
      have ho' : ((z : Int) % 2 == 1) = false := beq_eq_false_iff_ne.2 (by omega)
      clear ho
      go_wp2
      go_ret2
      exact ⟨by rw [HV2.out]; rfl, rfl⟩
/-- Two to the power of one less. -/
def pw (k : Nat) : Nat := 2 ^ (k - 1)
theorem rhalf_any (k : Nat) (w : World) (hk : k ≤ 10) :
    Calls Tryz.prog 217 #[.int .i64 k] w fun e w' => e = .returned (.int .i64 (pw k : Int)) ∧ w' = w := by
  go_enter Tryz.func217, Tryz.ntmps217
  go_wp2
  go_loop [3, 6] (fun n i => ∃ (j m : Nat), i = .int .i64 j ∧ n = .int .i64 m ∧ j ≤ k - 1 ∧ m ≤ 1024 ∧ Hid (m = 2 ^ j)) (fun _ i => k - (intOf i).toNat)
  case atStart => exact ⟨0, 1, rfl, rfl, by omega, by omega, hid rfl⟩
  case round =>
    obtain ⟨j, m, hi, hn, hj, hm, HM⟩ := hrel
    subst hi; subst hn
    by_cases hlt : j < k - 1
    · have hjk : (j : Int) < (k : Int) - 1 := by omega
      have hm2 : m * 2 ≤ 1024 := by
        rw [HM.out, ← Nat.pow_succ]
        exact Nat.pow_le_pow_right (by omega) (show j + 1 ≤ 10 by omega)
      go_wp2
      go_round
      case rel => exact ⟨j + 1, m * 2, by go_num, by go_num, by omega, by omega, hid (by rw [HM.out, Nat.pow_succ])⟩
      case measure => simp [intOf]; omega
    · have hjk : (k : Int) - 1 ≤ (j : Int) := by omega
      have HF := hid (show pw k = m by unfold pw; rw [HM.out, show k - 1 = j by omega])
      go_wp2
      go_ret
      exact ⟨by rw [HF.out]; rfl, rfl⟩
theorem pw_facts : ∀ m : Nat, m < 511 → lvl (m : Int) ≤ 8 ∧ pw (lvl (m : Int)) ≤ 128 ∧ 1 ≤ pw (lvl (m : Int)) ∧ pw (lvl (m : Int)) ≤ m + 1 ∧ pw (lvl (m : Int) + 1) ≤ m + 1 ∧ pw (lvl (m : Int) + 1) ≤ 256 ∧ 1 ≤ pw (lvl (m : Int) + 1) := by decide +kernel
theorem leaf_facts : ∀ m : Nat, m < 511 → lfA (m : Int) = ((m : Int) - (2 * (pw (lvl (m : Int) + 1) : Int) - 1) / 2) / 2 ∧ lfB (m : Int) = ((m : Int) + (2 * (pw (lvl (m : Int) + 1) : Int) - 1) / 2) / 2 + 1 := by decide +kernel
theorem rleaves_any (m : Nat) (w : World) (hm : m ≤ 510) :
    Calls Tryz.prog 145 #[.int .i64 m] w fun e w' => e = .returned (.tuple #[.int .i64 (lfA m), .int .i64 (lfB m), .int .i64 0]) ∧ w' = w := by
  obtain ⟨p1, _, _, _, p5, p6, p7⟩ := pw_facts m (by omega)
  have hh := rhalf_any (lvl (m : Int) + 1) w (by omega)
  have HL := hid (leaf_facts m (by omega))
  have HH := hid hh
  clear hh
  generalize pw (lvl (m : Int) + 1) = P at *
  go_enter Tryz.func145, Tryz.ntmps145
  go_wp2_with (first
    | (go_at_call 216; refine (rlevel_any m _ hm).mono ?_; rintro e1 w1 ⟨rfl, hw1⟩; subst w1)
    | (go_at_call 217; refine HH.out.mono ?_; rintro e1 w1 ⟨rfl, hw1⟩; subst w1))
  go_ret3
  exact ⟨by rw [HL.out.1, HL.out.2]; rfl, rfl⟩
/-- A node is another one, or under it. -/
def undB (x y : Nat) : Bool := decide (lfA (y : Int) ≤ lfA (x : Int)) && decide (lfB (x : Int) ≤ lfB (y : Int)) && decide (lvl (x : Int) ≤ lvl (y : Int))
theorem under_y (x y : Nat) (a b c d : Int) (k m : Nat) (w : World) (HH1 : Hid (∀ w, Calls Tryz.prog 145 #[.int .i64 x] w fun e w' => e = .returned (.tuple #[.int .i64 a, .int .i64 b, .int .i64 0]) ∧ w' = w)) (HH2 : Hid (∀ w, Calls Tryz.prog 145 #[.int .i64 y] w fun e w' => e = .returned (.tuple #[.int .i64 c, .int .i64 d, .int .i64 0]) ∧ w' = w)) (HH3 : Hid (∀ w, Calls Tryz.prog 216 #[.int .i64 x] w fun e w' => e = .returned (.tuple #[.int .i64 k, .int .i64 0]) ∧ w' = w)) (HH4 : Hid (∀ w, Calls Tryz.prog 216 #[.int .i64 y] w fun e w' => e = .returned (.tuple #[.int .i64 m, .int .i64 0]) ∧ w' = w)) (h1 : c ≤ a) (h2 : b ≤ d) (h3 : (k : Int) ≤ (m : Int)) :
    Calls Tryz.prog 146 #[.int .i64 x, .int .i64 y] w fun e w' => e = .returned (.bool true) ∧ w' = w := by
  go_enter Tryz.func146, Tryz.ntmps146
  go_wp2_with fail
  with_reducible refine (HH1.out _).mono ?_
  rintro e1 w1 ⟨rfl, hw1⟩; subst w1
  go_wp2_with fail
  with_reducible refine (HH2.out _).mono ?_
  rintro e1 w1 ⟨rfl, hw1⟩; subst w1
  go_wp2_with fail
  with_reducible refine (HH3.out _).mono ?_
  rintro e1 w1 ⟨rfl, hw1⟩; subst w1
  go_wp2_with fail
  with_reducible refine (HH4.out _).mono ?_
  rintro e1 w1 ⟨rfl, hw1⟩; subst w1
  go_wp2_with fail
  go_ret
  exact ⟨rfl, rfl⟩
theorem under_n3 (x y : Nat) (a b c d : Int) (k m : Nat) (w : World) (HH1 : Hid (∀ w, Calls Tryz.prog 145 #[.int .i64 x] w fun e w' => e = .returned (.tuple #[.int .i64 a, .int .i64 b, .int .i64 0]) ∧ w' = w)) (HH2 : Hid (∀ w, Calls Tryz.prog 145 #[.int .i64 y] w fun e w' => e = .returned (.tuple #[.int .i64 c, .int .i64 d, .int .i64 0]) ∧ w' = w)) (HH3 : Hid (∀ w, Calls Tryz.prog 216 #[.int .i64 x] w fun e w' => e = .returned (.tuple #[.int .i64 k, .int .i64 0]) ∧ w' = w)) (HH4 : Hid (∀ w, Calls Tryz.prog 216 #[.int .i64 y] w fun e w' => e = .returned (.tuple #[.int .i64 m, .int .i64 0]) ∧ w' = w)) (h1 : c ≤ a) (h2 : b ≤ d) (h3 : (m : Int) < (k : Int)) :
    Calls Tryz.prog 146 #[.int .i64 x, .int .i64 y] w fun e w' => e = .returned (.bool false) ∧ w' = w := by
  go_enter Tryz.func146, Tryz.ntmps146
  go_wp2_with fail
  with_reducible refine (HH1.out _).mono ?_
  rintro e1 w1 ⟨rfl, hw1⟩; subst w1
  go_wp2_with fail
  with_reducible refine (HH2.out _).mono ?_
  rintro e1 w1 ⟨rfl, hw1⟩; subst w1
  go_wp2_with fail
  with_reducible refine (HH3.out _).mono ?_
  rintro e1 w1 ⟨rfl, hw1⟩; subst w1
  go_wp2_with fail
  with_reducible refine (HH4.out _).mono ?_
  rintro e1 w1 ⟨rfl, hw1⟩; subst w1
  go_wp2_with fail
  go_ret
  exact ⟨by show Ending.returned (Value.bool (decide (k ≤ m))) = _; rw [decide_eq_false (by omega)], rfl⟩
theorem under_n2 (x y : Nat) (a b c d : Int) (k m : Nat) (w : World) (HH1 : Hid (∀ w, Calls Tryz.prog 145 #[.int .i64 x] w fun e w' => e = .returned (.tuple #[.int .i64 a, .int .i64 b, .int .i64 0]) ∧ w' = w)) (HH2 : Hid (∀ w, Calls Tryz.prog 145 #[.int .i64 y] w fun e w' => e = .returned (.tuple #[.int .i64 c, .int .i64 d, .int .i64 0]) ∧ w' = w)) (HH3 : Hid (∀ w, Calls Tryz.prog 216 #[.int .i64 x] w fun e w' => e = .returned (.tuple #[.int .i64 k, .int .i64 0]) ∧ w' = w)) (HH4 : Hid (∀ w, Calls Tryz.prog 216 #[.int .i64 y] w fun e w' => e = .returned (.tuple #[.int .i64 m, .int .i64 0]) ∧ w' = w)) (h1 : c ≤ a) (h2 : d < b) :
    Calls Tryz.prog 146 #[.int .i64 x, .int .i64 y] w fun e w' => e = .returned (.bool false) ∧ w' = w := by
  go_enter Tryz.func146, Tryz.ntmps146
  go_wp2_with fail
  with_reducible refine (HH1.out _).mono ?_
  rintro e1 w1 ⟨rfl, hw1⟩; subst w1
  go_wp2_with fail
  with_reducible refine (HH2.out _).mono ?_
  rintro e1 w1 ⟨rfl, hw1⟩; subst w1
  go_wp2_with fail
  with_reducible refine (HH3.out _).mono ?_
  rintro e1 w1 ⟨rfl, hw1⟩; subst w1
  go_wp2_with fail
  with_reducible refine (HH4.out _).mono ?_
  rintro e1 w1 ⟨rfl, hw1⟩; subst w1
  go_wp2_with fail
  go_ret
  exact ⟨rfl, rfl⟩
theorem under_n1 (x y : Nat) (a b c d : Int) (k m : Nat) (w : World) (HH1 : Hid (∀ w, Calls Tryz.prog 145 #[.int .i64 x] w fun e w' => e = .returned (.tuple #[.int .i64 a, .int .i64 b, .int .i64 0]) ∧ w' = w)) (HH2 : Hid (∀ w, Calls Tryz.prog 145 #[.int .i64 y] w fun e w' => e = .returned (.tuple #[.int .i64 c, .int .i64 d, .int .i64 0]) ∧ w' = w)) (HH3 : Hid (∀ w, Calls Tryz.prog 216 #[.int .i64 x] w fun e w' => e = .returned (.tuple #[.int .i64 k, .int .i64 0]) ∧ w' = w)) (HH4 : Hid (∀ w, Calls Tryz.prog 216 #[.int .i64 y] w fun e w' => e = .returned (.tuple #[.int .i64 m, .int .i64 0]) ∧ w' = w)) (h1 : a < c) :
    Calls Tryz.prog 146 #[.int .i64 x, .int .i64 y] w fun e w' => e = .returned (.bool false) ∧ w' = w := by
  go_enter Tryz.func146, Tryz.ntmps146
  go_wp2_with fail
  with_reducible refine (HH1.out _).mono ?_
  rintro e1 w1 ⟨rfl, hw1⟩; subst w1
  go_wp2_with fail
  with_reducible refine (HH2.out _).mono ?_
  rintro e1 w1 ⟨rfl, hw1⟩; subst w1
  go_wp2_with fail
  with_reducible refine (HH3.out _).mono ?_
  rintro e1 w1 ⟨rfl, hw1⟩; subst w1
  go_wp2_with fail
  with_reducible refine (HH4.out _).mono ?_
  rintro e1 w1 ⟨rfl, hw1⟩; subst w1
  go_wp2_with fail
  go_ret
  exact ⟨rfl, rfl⟩
theorem under_any (x y : Nat) (w : World) (hx : x ≤ 510) (hy : y ≤ 510) :
    Calls Tryz.prog 146 #[.int .i64 x, .int .i64 y] w fun e w' => e = .returned (.bool (undB x y)) ∧ w' = w := by
  have H1 := hid (fun w => rleaves_any x w hx)
  have H2 := hid (fun w => rleaves_any y w hy)
  have H3 := hid (fun w => rlevel_any x w hx)
  have H4 := hid (fun w => rlevel_any y w hy)
  by_cases h1 : lfA (y : Int) ≤ lfA (x : Int)
  · by_cases h2 : lfB (x : Int) ≤ lfB (y : Int)
    · by_cases h3 : lvl (x : Int) ≤ lvl (y : Int)
      · rw [show undB x y = true by unfold undB; rw [decide_eq_true h1, decide_eq_true h2, decide_eq_true h3]; rfl]
        exact under_y x y _ _ _ _ _ _ w H1 H2 H3 H4 h1 h2 (by omega)
      · rw [show undB x y = false by unfold undB; rw [decide_eq_false h3, Bool.and_false]]
        exact under_n3 x y _ _ _ _ _ _ w H1 H2 H3 H4 h1 h2 (by omega)
    · rw [show undB x y = false by unfold undB; rw [decide_eq_false h2, Bool.and_false, Bool.false_and]]
      exact under_n2 x y _ _ _ _ _ _ w H1 H2 H3 H4 h1 (by omega)
  · rw [show undB x y = false by unfold undB; rw [decide_eq_false h1, Bool.false_and, Bool.false_and]]
    exact under_n1 x y _ _ _ _ _ _ w H1 H2 H3 H4 (by omega)
end Go.Proofs.YtekfjcaihocmmaaGreatDoor

/- the reference of layer 7: how many leaves, whether some are there, whether all of a node is zero. -/
namespace Go.Proofs.YtekfjcaihocmmaaGreatDoor
open Go.RowKit Go.KK Go.Shelf
set_option linter.unusedVariables false
set_option linter.unusedSimpArgs false

/-- How many leaves a row has, if it may have so many. -/
def rlv (n : Nat) : Nat := if fullN (lvN n) && (2 * (lvN n : Int) - 1 == (n : Int)) then lvN n else 0
theorem pow_full {j : Nat} (h : j ≤ 8) : fullN ((2 ^ j : Nat) : Int) = true := by
  have : j = 0 ∨ j = 1 ∨ j = 2 ∨ j = 3 ∨ j = 4 ∨ j = 5 ∨ j = 6 ∨ j = 7 ∨ j = 8 := by omega
  rcases this with rfl | rfl | rfl | rfl | rfl | rfl | rfl | rfl | rfl <;> decide
theorem full_pow {m : Nat} (h : fullN (m : Int) = true) : ∃ j, j ≤ 8 ∧ m = 2 ^ j := by
  have := of_decide_eq_true h
  rcases this with h | h | h | h | h | h | h | h | h
  · exact ⟨0, by omega, by simpa using by omega⟩
  · exact ⟨1, by omega, by simpa using by omega⟩
  · exact ⟨2, by omega, by simpa using by omega⟩
  · exact ⟨3, by omega, by simpa using by omega⟩
  · exact ⟨4, by omega, by simpa using by omega⟩
  · exact ⟨5, by omega, by simpa using by omega⟩
  · exact ⟨6, by omega, by simpa using by omega⟩
  · exact ⟨7, by omega, by simpa using by omega⟩
  · exact ⟨8, by omega, by simpa using by omega⟩
theorem rleavesT_any (A : Option Addr) (n c : Nat) (w : World) (hn : n ≤ 600) :
    Calls Tryz.prog 76 #[.slice A n c] w fun e w' => e = .returned (.int .i64 (rlv n)) ∧ w' = w := by
  go_enter Tryz.func76, Tryz.ntmps76
  go_wp2
  go_loop [3, 2] (fun k _ => ∃ (j m : Nat), k = .int .i64 m ∧ j ≤ 9 ∧ m ≤ 512 ∧ Hid (m = 2 ^ j) ∧ Hid (∀ i, i < j → n + 1 ≠ 2 * 2 ^ i)) (fun k _ => 600 - (intOf k).toNat)
  case atStart => exact ⟨0, 1, rfl, by omega, by omega, hid rfl, hid (fun i hi => by omega)⟩
  case round =>
    obtain ⟨j, m, hk, hj, hm, HM, HN⟩ := hrel
    subst hk
    have hm1 : 1 ≤ m := by rw [HM.out]; exact Nat.one_le_two_pow
    by_cases h9 : j = 9
    · have hm5 : 512 ≤ m := by rw [HM.out, h9]; decide
      have HF := hid (show rlv n = 0 by
        unfold rlv
        rw [if_neg]
        intro h
        simp only [Bool.and_eq_true, beq_iff_eq] at h
        obtain ⟨i, hi, hp⟩ := full_pow h.1
        exact HN.out i (by omega) (by rw [← hp]; omega))
      go_wp2
      go_ret
      exact ⟨by rw [HF.out]; rfl, rfl⟩
    · have hm2 : m ≤ 256 := by
        rw [HM.out]
        exact Nat.pow_le_pow_right (by omega) (show j ≤ 8 by omega)
      by_cases he : n + 1 = 2 * m
      · have HF := hid (show rlv n = m by
          have hlv : lvN n = m := by unfold lvN; omega
          unfold rlv
          rw [hlv, if_pos]
          rw [Bool.and_eq_true, beq_iff_eq]
          exact ⟨by rw [HM.out]; exact pow_full (by omega), by omega⟩)
        have he' : (2 * (m : Int) - 1 == (n : Int)) = true := beq_iff_eq.2 (by omega)
        clear he
        go_wp2
        go_ret
        exact ⟨by rw [HF.out]; rfl, rfl⟩
      · have HF := hid (show ∀ i, i < j + 1 → n + 1 ≠ 2 * 2 ^ i from fun i hi => by
          by_cases hij : i < j
          · exact HN.out i hij
          · rw [show i = j by omega, ← HM.out]
            exact he)
        have he' : (2 * (m : Int) - 1 == (n : Int)) = false := beq_eq_false_iff_ne.2 (by omega)
        have hm2' : (m : Int) * 2 ≤ 512 := by omega
        clear he
        go_wp2
        go_round
        case rel => exact ⟨j + 1, m * 2, by go_num, by omega, by omega, hid (by rw [HM.out, Nat.pow_succ]), HF⟩
        case measure => simp [intOf]; omega

/-- A leaf from one on up to another one is there. -/
def someB (xs : List TN) (a b : Nat) : Bool := (List.range b).any fun j => decide (a ≤ j) && (kd xs (2 * j) == 1)
theorem some_any (A : Option Addr) (n c : Nat) (xs : List TN) (a b : Nat) (w : World) (h : Tr w A n c xs) (hn : n ≤ 600) (hb : b ≤ lvN n) (hab : a ≤ b) :
    Calls Tryz.prog 77 #[.slice A n c, .int .i64 a, .int .i64 b] w fun e w' => e = .returned (.bool (someB xs a b)) ∧ w' = w := by
  have H := hid h; clear h
  have hN : lvN n ≤ 301 := by unfold lvN; omega
  have HB := hid hb
  go_enter Tryz.func77, Tryz.ntmps77
  go_wp2
  go_loop [7, 6] (fun i _ => ∃ j : Nat, i = .int .i64 j ∧ a ≤ j ∧ j ≤ b ∧ Hid (∀ k, a ≤ k → k < j → kd xs (2 * k) ≠ 1)) (fun i _ => b - (intOf i).toNat)
  case atStart => exact ⟨a, rfl, by omega, hab, hid (fun k h1 h2 => by omega)⟩
  case round =>
    obtain ⟨j, hi, h1, h2, H3⟩ := hrel
    subst hi
    by_cases hlt : j < b
    · have h2j : 2 * j < n := by unfold lvN at hb; omega
      obtain ⟨b0, o0, q, A', c', rfl, hx, c0, -, -, -, -, -, -⟩ := H.out.at h2j
      have HK := hid (show kd xs (2 * j) = q.k by unfold kd; rw [hx])
      clear hx
      by_cases hk : q.k = 1
      · have HS := hid (show someB xs a b = true from List.any_eq_true.2 ⟨j, List.mem_range.2 hlt, by rw [HK.out, hk]; simp [h1]⟩)
        have hk' : (q.k == 1) = true := beq_iff_eq.2 hk
        clear hk
        go_wp2
        go_ret
        exact ⟨by rw [HS.out]; rfl, rfl⟩
      · have hk' : (q.k == 1) = false := beq_eq_false_iff_ne.2 hk
        have HF := hid (show ∀ k, a ≤ k → k < j + 1 → kd xs (2 * k) ≠ 1 from fun k a1 a2 => by
          by_cases hkj : k < j
          · exact H3.out k a1 hkj
          · rw [show k = j by omega, HK.out]; exact hk)
        clear hk
        go_wp2
        go_round
        case rel => exact ⟨j + 1, by go_num, by omega, by omega, HF⟩
        case measure => simp [intOf]; omega
    · have HS := hid (show someB xs a b = false by
        rcases hh : someB xs a b with _ | _
        · rfl
        · obtain ⟨k, hk, h⟩ := List.any_eq_true.1 hh
          simp only [Bool.and_eq_true, decide_eq_true_eq, beq_iff_eq] at h
          exact absurd h.2 (H3.out k h.1 (by have := List.mem_range.1 hk; omega)))
      go_wp2
      go_ret
      exact ⟨by rw [HS.out]; rfl, rfl⟩
/-- All of a node is zero. -/
def zerB (x : TN) : Bool := x.k == 0 && x.i == 0 && x.e == 0 && x.s == 0 && x.h == 0 && ((x.u.length : Nat) : Int) == 0
theorem rzero_any (x : TN) (A : Option Addr) (c : Nat) (w : World) :
    Calls Tryz.prog 21 #[.agg #[.int .i64 x.k, .int .i64 x.i, .int .i64 x.e, .int .i64 x.s, .int .i64 x.h, .slice A x.u.length c]] w fun r w' => r = .returned (.bool (zerB x)) ∧ Below w.heap.size w w' := by
  rcases h0 : x.k == 0 with _ | _
  · skip
    have HN := hid (show zerB x = false by unfold zerB; rw [h0]; simp)
    go_enter Tryz.func21, Tryz.ntmps21
    go_wp2
    go_ret
    exact ⟨by rw [HN.out]; rfl, (Below.refl _ _).alloc (Nat.le_refl _) _⟩
  · skip
    rcases h1 : x.i == 0 with _ | _
    · skip
      have HN := hid (show zerB x = false by unfold zerB; rw [h0, h1]; simp)
      go_enter Tryz.func21, Tryz.ntmps21
      go_wp2
      go_ret
      exact ⟨by rw [HN.out]; rfl, (Below.refl _ _).alloc (Nat.le_refl _) _⟩
    · skip
      rcases h2 : x.e == 0 with _ | _
      · skip
        have HN := hid (show zerB x = false by unfold zerB; rw [h0, h1, h2]; simp)
        go_enter Tryz.func21, Tryz.ntmps21
        go_wp2
        go_ret
        exact ⟨by rw [HN.out]; rfl, (Below.refl _ _).alloc (Nat.le_refl _) _⟩
      · skip
        rcases h3 : x.s == 0 with _ | _
        · skip
          have HN := hid (show zerB x = false by unfold zerB; rw [h0, h1, h2, h3]; simp)
          go_enter Tryz.func21, Tryz.ntmps21
          go_wp2
          go_ret
          exact ⟨by rw [HN.out]; rfl, (Below.refl _ _).alloc (Nat.le_refl _) _⟩
        · skip
          rcases h4 : x.h == 0 with _ | _
          · skip
            have HN := hid (show zerB x = false by unfold zerB; rw [h0, h1, h2, h3, h4]; simp)
            go_enter Tryz.func21, Tryz.ntmps21
            go_wp2
            go_ret
            exact ⟨by rw [HN.out]; rfl, (Below.refl _ _).alloc (Nat.le_refl _) _⟩
          · skip
            rcases h5 : ((x.u.length : Nat) : Int) == 0 with _ | _
            · skip
              have HN := hid (show zerB x = false by unfold zerB; rw [h0, h1, h2, h3, h4, h5]; simp)
              go_enter Tryz.func21, Tryz.ntmps21
              go_wp2
              go_ret
              exact ⟨by rw [HN.out]; rfl, (Below.refl _ _).alloc (Nat.le_refl _) _⟩
            · skip
              have HN := hid (show zerB x = true by unfold zerB; rw [h0, h1, h2, h3, h4, h5]; simp)
              go_enter Tryz.func21, Tryz.ntmps21
              go_wp2
              go_ret
              exact ⟨by rw [HN.out]; rfl, (Below.refl _ _).alloc (Nat.le_refl _) _⟩
end Go.Proofs.YtekfjcaihocmmaaGreatDoor

/- the reference of layer 7: whether a node may stand at its place. -/
namespace Go.Proofs.YtekfjcaihocmmaaGreatDoor
open Go.RowKit Go.KK Go.Shelf
set_option linter.unusedVariables false
set_option linter.unusedSimpArgs false

/-- A parent between a leaf and a node above it lacks the leaf. -/
def badAt (xs : List TN) (x : Nat) (i : Int) (z : Nat) : Bool :=
  match xs[z]? with
  | some q => q.k == 2 && (((z : Nat) : Int) != (x : Int)) && undB (2 * i).toNat z && undB z x && !inTB q.u i
  | none => false
def midB (xs : List TN) (x : Nat) (i : Int) : Bool := (List.range xs.length).all fun z => !badAt xs x i z
/-- A parent's list may be, behind a number. -/
def rparF (xs : List TN) (x : Nat) : Int → List Int → Bool
  | _, [] => true
  | last, i :: l => decide (last < i) && decide (i < lfB (x : Int)) && (kd xs (2 * i).toNat == 1) && midB xs x i && rparF xs x i l
theorem bad_is {xs : List TN} {x : Nat} {i : Int} {z : Nat} {q : TN} (h : xs[z]? = some q) : badAt xs x i z = (q.k == 2 && (((z : Nat) : Int) != (x : Int)) && undB (2 * i).toNat z && undB z x && !inTB q.u i) := by
  unfold badAt; rw [h]
theorem lf_in : ((List.range 257).all fun N => !fullN (N : Int) || (List.range (2 * N - 1)).all fun x => decide (0 ≤ lfA (x : Int)) && decide (lfA (x : Int) ≤ (N : Int)) && decide (lfB (x : Int) ≤ (N : Int))) = true := by decide +kernel
theorem lf_le {N x : Nat} (hf : fullN (N : Int) = true) (hx : x < 2 * N - 1) : 0 ≤ lfA (x : Int) ∧ lfA (x : Int) ≤ N ∧ lfB (x : Int) ≤ N := by
  have hN := fullN_le hf
  have h := List.all_eq_true.1 lf_in N (List.mem_range.2 (by omega))
  rw [hf, Bool.not_true, Bool.false_or] at h
  have h' := List.all_eq_true.1 h x (List.mem_range.2 hx)
  simp only [Bool.and_eq_true, decide_eq_true_eq] at h'
  exact ⟨h'.1.1, h'.1.2, h'.2⟩
theorem rpar_lo {xs : List TN} {x : Nat} {last i : Int} {l : List Int} (h : i ≤ last) : rparF xs x last (i :: l) = false := by rw [rparF, decide_eq_false (by omega)]; rfl
theorem rpar_hi {xs : List TN} {x : Nat} {last i : Int} {l : List Int} (h : lfB (x : Int) ≤ i) : rparF xs x last (i :: l) = false := by rw [rparF, decide_eq_false (show ¬ i < lfB (x : Int) by omega), Bool.and_false]; rfl
theorem rpar_kd {xs : List TN} {x : Nat} {last i : Int} {l : List Int} (h : kd xs (2 * i).toNat ≠ 1) : rparF xs x last (i :: l) = false := by rw [rparF, beq_eq_false_iff_ne.2 h, Bool.and_false]; rfl
theorem rpar_mid {xs : List TN} {x : Nat} {last i : Int} {l : List Int} (h : midB xs x i = false) : rparF xs x last (i :: l) = false := by rw [rparF, h, Bool.and_false, Bool.false_and]
theorem rpar_go {xs : List TN} {x : Nat} {last i : Int} {l : List Int} (h1 : last < i) (h2 : i < lfB (x : Int)) (h3 : kd xs (2 * i).toNat = 1) (h4 : midB xs x i = true) : rparF xs x last (i :: l) = rparF xs x i l := by
  rw [rparF, decide_eq_true h1, decide_eq_true h2, h3, h4]; rfl
theorem mid_no {xs : List TN} {x : Nat} {i : Int} {z : Nat} (hz : z < xs.length) (h : badAt xs x i z = true) : midB xs x i = false := by
  rcases hh : midB xs x i with _ | _
  · rfl
  · have := List.all_eq_true.1 hh z (List.mem_range.2 hz)
    rw [h] at this; cases this
theorem mid_yes {xs : List TN} {x : Nat} {i : Int} (h : ∀ z, z < xs.length → badAt xs x i z = false) : midB xs x i = true :=
  List.all_eq_true.2 fun z hz => by rw [h z (List.mem_range.1 hz)]; rfl

set_option maxHeartbeats 4000000 in
set_option maxRecDepth 100000 in
theorem rnode_go (A : Option Addr) (n c : Nat) (xs : List TN) (x : Nat) (e h : Int) (u : List Int) (B : Option Addr) (d : Nat) (w : World) (ht : Tr w A n c xs) (hnm : n ≤ 600) (hs : SlA w 1 B u.length d (u.map (.int .i64))) (hu47 : u.length ≤ 2147483648) (hu : Shorts xs) (hf : fullN (lvN n) = true) (hn2 : 2 * (lvN n : Int) - 1 = n) (hx : x < n) (hodd : (x : Int) % 2 ≠ 0) :
    Calls Tryz.prog 78 #[.slice A n c, .int .i64 x, .agg #[.int .i64 2, .int .i64 0, .int .i64 e, .int .i64 0, .int .i64 h, .slice B u.length d]] w fun r w' => r = .returned (.bool (rparF xs x (lfA (x : Int) - 1) u)) ∧ Below w.heap.size w w' := by
  have hb0 : Below w.heap.size w (w.alloc (.cells #[.int .i64 2, .int .i64 0, .int .i64 e, .int .i64 0, .int .i64 h, .slice B u.length d] 37)) := (Below.refl _ _).alloc (Nat.le_refl _) _
  have hN := fullN_le hf
  have hn511 : n ≤ 511 := by omega
  have hN256 : lvN n ≤ 256 := by omega
  have hx510 : x ≤ 510 := by omega
  have hlf := lf_le hf (show x < 2 * lvN n - 1 by omega)
  have ha0 := hlf.1
  have ha1 := hlf.2.1
  have hb1 := hlf.2.2
  have hodd' : ((x : Int) % 2 == 0) = false := beq_eq_false_iff_ne.2 hodd
  have HX := hid ht.len; have H := hid ht; have HS := hid hs; have HU := hid hu
  have hx0 : 2 * (lvN n : Int) ≤ n + 1 := by omega
  have hx1 : (n : Int) + 1 ≤ 2 * (lvN n : Int) := by omega
  have hRL := rleaves_any x
  have HRL := hid (fun w => hRL w hx510)
  have HBX := hid hb0
  clear ht hs hu hf hn2 hlf hodd hN hRL hb0
  have HLA := hid (rfl : lfA (x : Int) = lfA (x : Int))
  go_enter Tryz.func78, Tryz.ntmps78
  go_wp2_with (go_at_call 145; refine (HRL.out _).mono ?_; rintro e1 w1 ⟨rfl, hw1⟩; subst w1)
  go_loopw [52, 10, 6] (fun i la _ wr => ∃ (j : Nat) (last : Int), i = .int .i64 j ∧ la = .int .i64 last ∧ j ≤ u.length ∧ Hid (rparF xs x (lfA (x : Int) - 1) u = rparF xs x last (u.drop j)) ∧ -1 ≤ last ∧ last ≤ 256 ∧ Below w.heap.size w wr) (fun i _ _ _ => u.length - (intOf i).toNat)
  case atStart => exact ⟨0, lfA (x : Int) - 1, rfl, rfl, by omega, hid rfl, by omega, by omega, HBX.out⟩
  case round =>
    obtain ⟨j, last, hi, hla, hj, HJ, hl1, hl2, hbr⟩ := hrel
    subst hi; subst hla
    have HB := hid hbr; clear hbr
    by_cases hlt : j < u.length
    · obtain ⟨b, o, i, rfl, hz, hc⟩ := (HS.out.ext HB.out).elemI hlt
      have HC := hid (tdrop_get hz); clear hz
      by_cases h1 : last < i
      · by_cases h2 : i < lfB (x : Int)
        · obtain ⟨m, rfl⟩ := Int.eq_ofNat_of_zero_le (show 0 ≤ i by omega)
          obtain ⟨Y, hY⟩ : ∃ Y : Nat, Y = 2 * m := ⟨_, rfl⟩
          have h2m : Y < n := by omega
          obtain ⟨b0, o0, q0, A', c', rfl, hq, c0, -, -, -, -, -, -⟩ := (H.out.ext HB.out).at h2m
          have HK := hid (show kd xs (2 * (m : Int)).toNat = q0.k by rw [show (2 * (m : Int)).toNat = Y by omega]; unfold kd; rw [hq])
          clear hq
          by_cases hk : q0.k = 1
          · have HK1 := hid (HK.out.trans hk)
            rw [hk] at c0
            clear hk
            have HY := hid (show (2 * (m : Int)).toNat = Y by omega)
            have hy : 2 * (m : Int) = (Y : Int) := by omega
            have hy510 : Y ≤ 510 := by omega
            clear hY
            have HH1 := hid h1; have HH2 := hid h2
            go_wp2
            obtain ⟨wo, rfl⟩ : ∃ wo : World, wo = wr := ⟨_, rfl⟩
            go_loopw [76, 6] (fun i _ w2 => ∃ z : Nat, i = .int .i64 z ∧ z ≤ n ∧ Hid (∀ k, k < z → badAt xs x (m : Int) k = false) ∧ Below w.heap.size w w2) (fun i _ _ => n - (intOf i).toNat)
            case atStart => exact ⟨0, rfl, by omega, hid (fun k hk => by omega), HB.out⟩
            case round =>
              obtain ⟨z, hi, hz, HZ, hb3⟩ := hrel
              subst hi
              have HB3 := hid hb3; clear hb3
              by_cases hzn : z < n
              · obtain ⟨b1, o1, q, A2, c2, e1, hq, d0, d1, d2, d3, d4, d5, hsq⟩ := (H.out.ext HB3.out).at hzn
                injection e1 with e1; injection e1 with e1 e2; subst e1; subst e2
                have hqu := HU.out _ _ hq
                have HBI := hid (bad_is (x := x) (i := (m : Int)) hq)
                have HQS := hid hsq
                have hzr := HB3.out.size
                clear hq hsq
                by_cases hk2 : q.k = 2
                · have hk2' : (q.k == 2) = true := beq_iff_eq.2 hk2
                  by_cases hzx : (z : Int) = (x : Int)
                  · have hzx' : ((z : Int) != (x : Int)) = false := by rw [hzx]; simp
                    have HBD := hid (show badAt xs x (m : Int) z = false by rw [HBI.out, hzx']; simp)
                    clear hk2 hzx
                    go_wp2_with (first
                      | (go_at_call 146; refine (under_any _ _ _ (by omega) (by omega)).mono ?_; rintro e7 w7 ⟨rfl, hw7⟩; subst w7)
                      | (go_at_call 109; refine (int_any A2 _ c2 q.u m _ (HQS.out.ext ((Below.refl _ _).alloc (Nat.le_refl _) _)) hqu).mono ?_; rintro e7 w7 ⟨rfl, hw7⟩; subst w7))
                    go_roundw
                    case rel => exact ⟨z + 1, by go_num, by omega, hid (fun k hk => by
                      by_cases hkz : k < z
                      · exact HZ.out k hkz
                      · rw [show k = z by omega]; exact HBD.out), HB3.out.alloc HB3.out.size _⟩
                    case measure => simp [intOf]; omega
                  · have hzx' : ((z : Int) != (x : Int)) = true := bne_iff_ne.2 hzx
                    rcases hu1 : undB Y z with _ | _
                    · have HBD := hid (show badAt xs x (m : Int) z = false by rw [HBI.out, HY.out, hu1]; simp)
                      clear hk2 hzx
                      go_wp2_with (first
                        | (go_at_call 146; refine (under_any _ _ _ (by omega) (by omega)).mono ?_; rintro e7 w7 ⟨rfl, hw7⟩; subst w7)
                        | (go_at_call 109; refine (int_any A2 _ c2 q.u m _ (HQS.out.ext ((Below.refl _ _).alloc (Nat.le_refl _) _)) hqu).mono ?_; rintro e7 w7 ⟨rfl, hw7⟩; subst w7))
                      go_roundw
                      case rel => exact ⟨z + 1, by go_num, by omega, hid (fun k hk => by
                        by_cases hkz : k < z
                        · exact HZ.out k hkz
                        · rw [show k = z by omega]; exact HBD.out), HB3.out.alloc HB3.out.size _⟩
                      case measure => simp [intOf]; omega
                    · rcases hu2 : undB z x with _ | _
                      · have HBD := hid (show badAt xs x (m : Int) z = false by rw [HBI.out, hu2]; simp)
                        clear hk2 hzx
                        go_wp2_with (first
                          | (go_at_call 146; refine (under_any _ _ _ (by omega) (by omega)).mono ?_; rintro e7 w7 ⟨rfl, hw7⟩; subst w7)
                          | (go_at_call 109; refine (int_any A2 _ c2 q.u m _ (HQS.out.ext ((Below.refl _ _).alloc (Nat.le_refl _) _)) hqu).mono ?_; rintro e7 w7 ⟨rfl, hw7⟩; subst w7))
                        go_roundw
                        case rel => exact ⟨z + 1, by go_num, by omega, hid (fun k hk => by
                          by_cases hkz : k < z
                          · exact HZ.out k hkz
                          · rw [show k = z by omega]; exact HBD.out), HB3.out.alloc HB3.out.size _⟩
                        case measure => simp [intOf]; omega
                      · rcases hin : inTB q.u (m : Int) with _ | _
                        · have HBD := hid (show badAt xs x (m : Int) z = true by rw [HBI.out, HY.out, hk2', hzx', hu1, hu2, hin]; rfl)
                          have HF := hid (show rparF xs x (lfA (x : Int) - 1) u = false by rw [HJ.out, HC.out]; exact rpar_mid (mid_no (by rw [HX.out]; exact hzn) HBD.out))
                          clear hk2 hzx
                          go_wp2_with (first
                            | (go_at_call 146; refine (under_any _ _ _ (by omega) (by omega)).mono ?_; rintro e7 w7 ⟨rfl, hw7⟩; subst w7)
                            | (go_at_call 109; refine (int_any A2 _ c2 q.u m _ (HQS.out.ext ((Below.refl _ _).alloc (Nat.le_refl _) _)) hqu).mono ?_; rintro e7 w7 ⟨rfl, hw7⟩; subst w7))
                          go_ret
                          exact ⟨by rw [HF.out]; rfl, HB3.out.alloc HB3.out.size _⟩
                        · have HBD := hid (show badAt xs x (m : Int) z = false by rw [HBI.out, hin]; simp)
                          clear hk2 hzx
                          go_wp2_with (first
                            | (go_at_call 146; refine (under_any _ _ _ (by omega) (by omega)).mono ?_; rintro e7 w7 ⟨rfl, hw7⟩; subst w7)
                            | (go_at_call 109; refine (int_any A2 _ c2 q.u m _ (HQS.out.ext ((Below.refl _ _).alloc (Nat.le_refl _) _)) hqu).mono ?_; rintro e7 w7 ⟨rfl, hw7⟩; subst w7))
                          go_roundw
                          case rel => exact ⟨z + 1, by go_num, by omega, hid (fun k hk => by
                            by_cases hkz : k < z
                            · exact HZ.out k hkz
                            · rw [show k = z by omega]; exact HBD.out), HB3.out.alloc HB3.out.size _⟩
                          case measure => simp [intOf]; omega
                · have hk2' : (q.k == 2) = false := beq_eq_false_iff_ne.2 hk2
                  have HBD := hid (show badAt xs x (m : Int) z = false by rw [HBI.out, hk2']; simp)
                  clear hk2
                  go_wp2_with (first
                    | (go_at_call 146; refine (under_any _ _ _ (by omega) (by omega)).mono ?_; rintro e7 w7 ⟨rfl, hw7⟩; subst w7)
                    | (go_at_call 109; refine (int_any A2 _ c2 q.u m _ (HQS.out.ext ((Below.refl _ _).alloc (Nat.le_refl _) _)) hqu).mono ?_; rintro e7 w7 ⟨rfl, hw7⟩; subst w7))
                  go_roundw
                  case rel => exact ⟨z + 1, by go_num, by omega, hid (fun k hk => by
                    by_cases hkz : k < z
                    · exact HZ.out k hkz
                    · rw [show k = z by omega]; exact HBD.out), HB3.out.alloc HB3.out.size _⟩
                  case measure => simp [intOf]; omega
              · have HMI := hid (mid_yes (xs := xs) (x := x) (i := (m : Int)) fun k hk => HZ.out k (by rw [HX.out] at hk; omega))
                have HJ2 := hid (show rparF xs x (lfA (x : Int) - 1) u = rparF xs x (m : Int) (u.drop (j + 1)) by rw [HJ.out, HC.out]; exact rpar_go HH1.out HH2.out HK1.out HMI.out)
                have hm256 : (m : Int) ≤ 256 := by omega
                go_wp2
                go_roundw
                case rel => exact ⟨j + 1, m, by go_num, rfl, by omega, HJ2, by omega, hm256, HB3.out⟩
                case measure => simp [intOf]; omega
          · have HF := hid (show rparF xs x (lfA (x : Int) - 1) u = false by rw [HJ.out, HC.out]; exact rpar_kd (by rw [HK.out]; exact hk))
            have hy : 2 * (m : Int) = (Y : Int) := by omega
            clear hY
            have hk' : (q0.k != 1) = true := bne_iff_ne.2 hk
            clear hk
            go_wp2
            go_ret
            exact ⟨by rw [HF.out]; rfl, HB.out⟩
        · have HF := hid (show rparF xs x (lfA (x : Int) - 1) u = false by rw [HJ.out, HC.out]; exact rpar_hi (by omega))
          have h2' : lfB (x : Int) ≤ i := by omega
          clear h2
          go_wp2
          go_ret
          exact ⟨by rw [HF.out]; rfl, HB.out⟩
      · have HF := hid (show rparF xs x (lfA (x : Int) - 1) u = false by rw [HJ.out, HC.out]; exact rpar_lo (by omega))
        have h1' : i ≤ last := by omega
        clear h1
        go_wp2
        go_ret
        exact ⟨by rw [HF.out]; rfl, HB.out⟩
    · have HF := hid (show rparF xs x (lfA (x : Int) - 1) u = true by rw [HJ.out, List.drop_of_length_le (by omega)]; rfl)
      go_wp2
      go_ret
      exact ⟨by rw [HF.out]; rfl, HB.out⟩
end Go.Proofs.YtekfjcaihocmmaaGreatDoor

/- the reference of layer 7: a node at its place; Check. -/
namespace Go.Proofs.YtekfjcaihocmmaaGreatDoor
open Go.RowKit Go.KK Go.Shelf
set_option linter.unusedVariables false
set_option linter.unusedSimpArgs false

def leafB (y : TN) : Bool := y.k == 1 && ((y.u.length : Nat) : Int) == 0
/-- A node may stand at its place. -/
def rnodeB (xs : List TN) (x : Nat) (y : TN) : Bool :=
  if y.k = 0 then zerB y else if (x : Int) % 2 = 0 then leafB y else y.k == 2 && y.i == 0 && y.s == 0 && rparF xs x (lfA (x : Int) - 1) y.u
theorem rnode_any1 (A : Option Addr) (n c : Nat) (xs : List TN) (x : Nat) (y : TN) (B : Option Addr) (d : Nat) (w : World) (ht : Tr w A n c xs) (hnm : n ≤ 600) (hs : SlA w 1 B y.u.length d (y.u.map (.int .i64))) (hu47 : y.u.length ≤ 2147483648) (hu : Shorts xs) (hf : fullN (lvN n) = true) (hn2 : 2 * (lvN n : Int) - 1 = n) (hx : x < n) :
    Calls Tryz.prog 78 #[.slice A n c, .int .i64 x, .agg #[.int .i64 y.k, .int .i64 y.i, .int .i64 y.e, .int .i64 y.s, .int .i64 y.h, .slice B y.u.length d]] w fun r w' => r = .returned (.bool (rnodeB xs x y)) ∧ Below w.heap.size w w' := by
  by_cases h0 : y.k = 0
  · have hr : rnodeB xs x y = zerB y := by unfold rnodeB; rw [if_pos h0]
    rw [hr]
    have h0' : (y.k == 0) = true := beq_iff_eq.2 h0
    clear hr h0 ht hs hu hf hn2
    go_enter Tryz.func78, Tryz.ntmps78
    go_wp2_with (go_at_call 21; refine (rzero_any y _ _ _).mono ?_; rintro e1 w1 ⟨rfl, hb1⟩)
    go_ret
    exact ⟨rfl, (below_new (Below.refl _ _) (Nat.le_refl _) hb1).1⟩
  · have h0' : (y.k == 0) = false := beq_eq_false_iff_ne.2 h0
    by_cases h2 : (x : Int) % 2 = 0
    · have hr : rnodeB xs x y = leafB y := by unfold rnodeB; rw [if_neg h0, if_pos h2]
      rw [hr]
      have h2' : ((x : Int) % 2 == 0) = true := beq_iff_eq.2 h2
      have HLF := hid (fun w => rleaf_any y.k y.i y.e y.s y.h B y.u.length d w)
      clear hr h0 h2 ht hs hu hf hn2
      go_enter Tryz.func78, Tryz.ntmps78
      go_wp2_with (go_at_call 144; refine (HLF.out _).mono ?_; rintro e1 w1 ⟨rfl, hb1⟩)
      go_ret
      exact ⟨rfl, (below_new (Below.refl _ _) (Nat.le_refl _) hb1).1⟩
    · have h2' : ((x : Int) % 2 == 0) = false := beq_eq_false_iff_ne.2 h2
      have hr : rnodeB xs x y = (y.k == 2 && y.i == 0 && y.s == 0 && rparF xs x (lfA (x : Int) - 1) y.u) := by unfold rnodeB; rw [if_neg h0, if_neg h2]
      rw [hr]
      clear hr
      obtain ⟨k, i, e, s, h, u⟩ := y
      simp only at h0 h0' hs hu47 ⊢
      by_cases hk : k = 2
      · subst hk
        by_cases hi : i = 0
        · subst hi
          by_cases hss : s = 0
          · subst hss
            have := rnode_go A n c xs x e h u B d w ht hnm hs hu47 hu hf hn2 hx h2
            simpa using this
          · have hss' : (s != 0) = true := bne_iff_ne.2 hss
            have hv : (2 == (2 : Int) && (0 : Int) == 0 && s == 0 && rparF xs x (lfA (x : Int) - 1) u) = false := by rw [beq_eq_false_iff_ne.2 hss]; simp
            rw [hv]
            clear hss hv h0 h2 ht hs hu hf hn2
            go_enter Tryz.func78, Tryz.ntmps78
            go_wp2
            go_ret
            exact ⟨rfl, (Below.refl _ _).alloc (Nat.le_refl _) _⟩
        · have hi' : (i != 0) = true := bne_iff_ne.2 hi
          have hv : (2 == (2 : Int) && i == 0 && s == 0 && rparF xs x (lfA (x : Int) - 1) u) = false := by rw [beq_eq_false_iff_ne.2 hi]; simp
          rw [hv]
          clear hi hv h0 h2 ht hs hu hf hn2
          go_enter Tryz.func78, Tryz.ntmps78
          go_wp2
          go_ret
          exact ⟨rfl, (Below.refl _ _).alloc (Nat.le_refl _) _⟩
      · have hk' : (k != 2) = true := bne_iff_ne.2 hk
        have hv : (k == 2 && i == 0 && s == 0 && rparF xs x (lfA (x : Int) - 1) u) = false := by rw [beq_eq_false_iff_ne.2 hk]; simp
        rw [hv]
        clear hk hv h0 h2 ht hs hu hf hn2
        go_enter Tryz.func78, Tryz.ntmps78
        go_wp2
        go_ret
        exact ⟨rfl, (Below.refl _ _).alloc (Nat.le_refl _) _⟩
/-- A tree may be: the document's answer. -/
def rnodeAt (xs : List TN) (x : Nat) : Bool := match xs[x]? with | some y => rnodeB xs x y | none => true
def rallR (xs : List TN) : Int := if (List.range xs.length).all (rnodeAt xs) then 0 else 1
theorem rallR_yes {xs : List TN} (h : ∀ k, k < xs.length → rnodeAt xs k = true) : rallR xs = 0 := by
  unfold rallR; rw [if_pos (List.all_eq_true.2 fun k hk => h k (List.mem_range.1 hk))]
theorem rallR_no {xs : List TN} {k : Nat} (hk : k < xs.length) (h : rnodeAt xs k = false) : rallR xs = 1 := by
  unfold rallR; rw [if_neg fun hh => by rw [List.all_eq_true.1 hh k (List.mem_range.2 hk)] at h; cases h]
theorem rlv_some {n : Nat} (h : rlv n ≠ 0) : fullN (lvN n) = true ∧ 2 * (lvN n : Int) - 1 = n ∧ rlv n = lvN n := by
  unfold rlv at h ⊢
  split at h
  · rename_i hc
    simp only [Bool.and_eq_true, beq_iff_eq] at hc
    exact ⟨hc.1, hc.2, by rw [if_pos (by simpa using hc)]⟩
  · exact absurd rfl h
set_option maxHeartbeats 2000000 in
theorem rcheck_go (A : Option Addr) (n c : Nat) (xs : List TN) (w : World) (ht : Tr w A n c xs) (hnm : n ≤ 600) (hu : Shorts xs) (h0 : rlv n ≠ 0) (h1 : someB xs 0 (lvN n) = true) (h2 : lvN n ≤ 1 ∨ someB xs (lvN n / 2) (lvN n) = true) :
    Calls Tryz.prog 24 #[.slice A n c] w fun e w' => e = .returned (.int .i64 (rallR xs)) ∧ Below w.heap.size w w' := by
  obtain ⟨hf, hn2, hr⟩ := rlv_some h0
  have HR := hid hr
  have hN := fullN_le hf
  have hN1 : 1 ≤ lvN n := by omega
  have hN2 : lvN n ≤ 256 := by omega
  have h00 : ((lvN n : Int) == 0) = false := beq_eq_false_iff_ne.2 (by omega)
  have hs1 : Calls Tryz.prog 77 #[.slice A n c, .int .i64 0, .int .i64 (lvN n)] w fun e w' => e = .returned (.bool (someB xs 0 (lvN n))) ∧ w' = w := some_any A n c xs 0 (lvN n) w ht hnm (Nat.le_refl _) (Nat.zero_le _)
  have hs2 := some_any A n c xs (lvN n / 2) (lvN n) w ht hnm (Nat.le_refl _) (by omega)
  rw [h1] at hs1
  have HS1 := hid hs1
  have HX := hid ht.len; have H := hid ht; have HU := hid hu; have HF := hid hf; have HN2 := hid hn2
  have hdiv : (lvN n : Int) / 2 = ((lvN n / 2 : Nat) : Int) := by omega
  have hz0 : ((0 : Nat) : Int) = 0 := rfl
  clear ht hu h0 hr hN hf hn2 h1 hs1
  generalize hP : lvN n / 2 = P at *
  have hgt : lvN n ≤ 1 ∨ (1 < lvN n ∧ Hid (Calls Tryz.prog 77 #[.slice A n c, .int .i64 P, .int .i64 (lvN n)] w fun e w' => e = .returned (.bool true) ∧ w' = w)) := by
    by_cases hl : lvN n ≤ 1
    · exact .inl hl
    · rcases h2 with h2 | h2
      · exact absurd h2 hl
      · rw [h2] at hs2; exact .inr ⟨by omega, hid hs2⟩
  clear h2 hs2 hP
  have main : ∀ W, W = w → True := fun _ _ => trivial
  rcases hgt with hl | ⟨hl, HS2⟩
  all_goals
    go_enter Tryz.func24, Tryz.ntmps24
    go_wp2_with (first
      | (go_at_call 76; refine (rleavesT_any _ n c _ hnm).mono ?_; rintro e1 w1 ⟨rfl, hw1⟩; subst w1; rw [HR.out])
      | (go_at_call 77; ((with_reducible refine HS1.out.mono ?_); rintro e1 w1 ⟨rfl, hw1⟩; subst w1))
      | (go_at_call 77; ((with_reducible refine HS2.out.mono ?_); rintro e1 w1 ⟨rfl, hw1⟩; subst w1)))
    go_loopw [30, 2] (fun i _ wr => ∃ j : Nat, i = .int .i64 j ∧ j ≤ n ∧ Hid (∀ k, k < j → rnodeAt xs k = true) ∧ Below w.heap.size w wr) (fun i _ _ => n - (intOf i).toNat)
    case atStart => exact ⟨0, rfl, by omega, hid (fun k hk => by omega), Below.refl _ _⟩
    case round =>
      obtain ⟨j, hi, hj, HJ, hbr⟩ := hrel
      subst hi
      have HB := hid hbr; clear hbr
      by_cases hlt : j < n
      · obtain ⟨b, o, y, A2, c2, rfl, hy, c0, c1, c2', c3, c4, c5, hsy⟩ := (H.out.ext HB.out).at hlt
        have huy := HU.out _ _ hy
        have HY := hid (show rnodeAt xs j = rnodeB xs j y by unfold rnodeAt; rw [hy])
        have hzr := HB.out.size
        have HSY := hid hsy
        clear hy hsy
        rcases hv : rnodeB xs j y with _ | _
        · have HV := hid (HY.out.trans hv)
          go_wp2_with (go_at_call 78; refine (rnode_any1 _ n c xs j y A2 c2 _ ((H.out.ext HB.out).alloc _) hnm (HSY.out.alloc _) huy HU.out HF.out HN2.out hlt).mono ?_; rintro e1 w1 ⟨rfl, hb1⟩; rw [hv]; have HB1 := hid (below_new HB.out hzr hb1).1; clear hb1)
          go_ret
          exact ⟨by rw [rallR_no (by rw [HX.out]; exact hlt) HV.out]; rfl, HB1.out⟩
        · have HV := hid (HY.out.trans hv)
          go_wp2_with (go_at_call 78; refine (rnode_any1 _ n c xs j y A2 c2 _ ((H.out.ext HB.out).alloc _) hnm (HSY.out.alloc _) huy HU.out HF.out HN2.out hlt).mono ?_; rintro e1 w1 ⟨rfl, hb1⟩; rw [hv]; have HB1 := hid (below_new HB.out hzr hb1).1; clear hb1)
          go_roundw
          case rel => exact ⟨j + 1, by go_num, by omega, hid (fun k hk => by
            by_cases hkj : k < j
            · exact HJ.out k hkj
            · rw [show k = j by omega]; exact HV.out), HB1.out⟩
          case measure => simp [intOf]; omega
      · have HE := hid (rallR_yes (xs := xs) fun k hk => HJ.out k (by rw [HX.out] at hk; omega))
        go_wp2
        go_ret
        exact ⟨by rw [HE.out]; rfl, HB.out⟩
theorem rcheck_no (A : Option Addr) (n c : Nat) (xs : List TN) (w : World) (ht : Tr w A n c xs) (hnm : n ≤ 600) (h : rlv n = 0 ∨ rlv n ≠ 0 ∧ someB xs 0 (lvN n) = false ∨ rlv n ≠ 0 ∧ someB xs 0 (lvN n) = true ∧ 1 < lvN n ∧ someB xs (lvN n / 2) (lvN n) = false) :
    Calls Tryz.prog 24 #[.slice A n c] w fun e w' => e = .returned (.int .i64 1) ∧ Below w.heap.size w w' := by
  have hN : lvN n ≤ 301 := by unfold lvN; omega
  rcases h with h | ⟨h0, h1⟩ | ⟨h0, h1, h2, h3⟩
  · go_enter Tryz.func24, Tryz.ntmps24
    go_wp2_with (go_at_call 76; refine (rleavesT_any _ n c _ hnm).mono ?_; rintro e1 w1 ⟨rfl, hw1⟩; subst w1; rw [h])
    go_ret
    exact ⟨rfl, Below.refl _ _⟩
  · obtain ⟨hf, hn2, hr⟩ := rlv_some h0
    have h00 : ((lvN n : Int) == 0) = false := beq_eq_false_iff_ne.2 (by have := fullN_le hf; omega)
    have hs1 : Calls Tryz.prog 77 #[.slice A n c, .int .i64 0, .int .i64 (lvN n)] w fun e w' => e = .returned (.bool (someB xs 0 (lvN n))) ∧ w' = w := some_any A n c xs 0 (lvN n) w ht hnm (Nat.le_refl _) (Nat.zero_le _)
    rw [h1] at hs1
    have HS1 := hid hs1; have HR := hid hr
    clear h0 h1 hf hn2 hr hs1 ht
    go_enter Tryz.func24, Tryz.ntmps24
    go_wp2_with (first
      | (go_at_call 76; refine (rleavesT_any _ n c _ hnm).mono ?_; rintro e1 w1 ⟨rfl, hw1⟩; subst w1; rw [HR.out])
      | (go_at_call 77; refine HS1.out.mono ?_; rintro e1 w1 ⟨rfl, hw1⟩; subst w1))
    go_ret
    exact ⟨rfl, Below.refl _ _⟩
  · obtain ⟨hf, hn2, hr⟩ := rlv_some h0
    have h00 : ((lvN n : Int) == 0) = false := beq_eq_false_iff_ne.2 (by omega)
    have hs1 : Calls Tryz.prog 77 #[.slice A n c, .int .i64 0, .int .i64 (lvN n)] w fun e w' => e = .returned (.bool (someB xs 0 (lvN n))) ∧ w' = w := some_any A n c xs 0 (lvN n) w ht hnm (Nat.le_refl _) (Nat.zero_le _)
    have hs2 := some_any A n c xs (lvN n / 2) (lvN n) w ht hnm (Nat.le_refl _) (by omega)
    rw [h1] at hs1
    rw [h3] at hs2
    have hdiv : (lvN n : Int) / 2 = ((lvN n / 2 : Nat) : Int) := by omega
    generalize lvN n / 2 = P at *
    have HS1 := hid hs1; have HS2 := hid hs2; have HR := hid hr
    clear h0 h1 h3 hf hn2 hr hs1 hs2 ht
    go_enter Tryz.func24, Tryz.ntmps24
    go_wp2_with (first
      | (go_at_call 76; refine (rleavesT_any _ n c _ hnm).mono ?_; rintro e1 w1 ⟨rfl, hw1⟩; subst w1; rw [HR.out])
      | (go_at_call 77; ((with_reducible refine HS1.out.mono ?_); rintro e1 w1 ⟨rfl, hw1⟩; subst w1))
      | (go_at_call 77; ((with_reducible refine HS2.out.mono ?_); rintro e1 w1 ⟨rfl, hw1⟩; subst w1)))
    go_ret
    exact ⟨rfl, Below.refl _ _⟩
end Go.Proofs.YtekfjcaihocmmaaGreatDoor

