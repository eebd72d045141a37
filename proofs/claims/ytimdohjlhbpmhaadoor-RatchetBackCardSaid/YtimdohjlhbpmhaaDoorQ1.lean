/- the reference of layer 3: In, SameInts. -/
import Derived.Test.YtimdohjlhbpmhaaDoorR12
namespace Go.Proofs.YtimdohjlhbpmhaaDoor
open Go.RowKit Go.KK Go.Shelf
set_option linter.unusedVariables false
set_option linter.unusedSimpArgs false

/-- Whether a number is in a list. -/
def inB (l : List Int) (x : Int) : Bool := l.contains x
theorem in_any (A : Option Addr) (n c : Nat) (l : List Int) (x : Int) (w : World) (h : SlA w 1 A n c (l.map (.int .i64))) (hn : n ≤ 2147483648) :
    Calls Tryd.prog 23 #[.slice A n c, .int .i64 x] w fun e w' => e = .returned (.bool (inB l x)) ∧ w' = w := by
  have HL := hid h.lenI; have HS := hid h
  clear h
  go_enter Tryd.func23, Tryd.ntmps23
  go_wp2
  go_loop [9, 4] (fun i _ => ∃ j : Nat, i = .int .i64 j ∧ j ≤ n ∧ Hid (inB l x = inB (l.drop j) x)) (fun i _ => n - (intOf i).toNat)
  case atStart => exact ⟨0, rfl, by omega, hid rfl⟩
  case round =>
    obtain ⟨j, hi, hj, HJ⟩ := hrel
    subst hi
    by_cases hlt : j < n
    · obtain ⟨b, o, z, rfl, hz, hc⟩ := HS.out.elemI hlt
      have HD := hid (drop_get hz); clear hz
      by_cases hzx : z = x
      · have HF := hid (show inB l x = true by rw [HJ.out, HD.out, hzx]; unfold inB; simp)
        have hzx' : (z == x) = true := beq_iff_eq.2 hzx
        clear hzx
        go_wp2
        go_ret
        exact ⟨by rw [HF.out]; rfl, rfl⟩
      · have HF := hid (show inB l x = inB (l.drop (j + 1)) x by
          rw [HJ.out, HD.out]; unfold inB; rw [List.contains_cons, beq_eq_false_iff_ne.2 (fun e => hzx e.symm), Bool.false_or])
        have hzx' : (z == x) = false := beq_eq_false_iff_ne.2 hzx
        clear hzx
        go_wp2
        go_round
        case rel => exact ⟨j + 1, by go_num, by omega, HF⟩
        case measure => simp [intOf]; omega
    · have HF := hid (show inB l x = false by rw [HJ.out, List.drop_of_length_le (by have := HL.out; omega)]; rfl)
      go_wp2
      go_ret
      exact ⟨by rw [HF.out]; rfl, rfl⟩
theorem take_eq_step {l m : List Int} {j : Nat} {x : Int} (h : l.take j = m.take j) (h1 : l[j]? = some x) (h2 : m[j]? = some x) : l.take (j + 1) = m.take (j + 1) := by
  rw [take_get h1, take_get h2, h]
theorem ne_of_at {l m : List Int} {j : Nat} {x y : Int} (h1 : l[j]? = some x) (h2 : m[j]? = some y) (h : x ≠ y) : (l == m) = false := by
  refine beq_eq_false_iff_ne.2 fun e => h ?_
  rw [e, h2] at h1
  injection h1 with h1
  exact h1.symm
theorem same_ints (A : Option Addr) (n c : Nat) (l : List Int) (B : Option Addr) (m d : Nat) (l' : List Int) (w : World) (h : SlA w 1 A n c (l.map (.int .i64))) (h' : SlA w 1 B m d (l'.map (.int .i64))) (hn : n ≤ 2147483648) (hm : m ≤ 2147483648) :
    Calls Tryd.prog 31 #[.slice A n c, .slice B m d] w fun e w' => e = .returned (.bool (l == l')) ∧ ∃ q, w' = w.drewN q := by
  have HL := hid h.lenI; have HS := hid h; have HL' := hid h'.lenI; have HS' := hid h'
  clear h h'
  by_cases hnm : n = m
  · subst hnm
    go_enter Tryd.func31, Tryd.ntmps31
    go_wp2
    go_loopw [13, 4] (fun i _ wr => ∃ j q : Nat, i = .int .i64 j ∧ j ≤ n ∧ Hid (l.take j = l'.take j) ∧ wr = w.drewN q) (fun i _ _ => n - (intOf i).toNat)
    case atStart => exact ⟨0, 0, rfl, by omega, hid rfl, rfl⟩
    case round =>
      obtain ⟨j, q, hi, hj, HJ, hw⟩ := hrel
      subst hi; subst hw
      by_cases hlt : j < n
      · obtain ⟨b, o, z, rfl, hz, hc⟩ := HS.out.elemI hlt
        obtain ⟨b', o', z', rfl, hz', hc'⟩ := HS'.out.elemI hlt
        have hj0 : (0 : Int) ≤ (j : Int) := by omega
        have hj1 : (j : Int) < (n : Int) := by omega
        have HZ := hid hz; have HZ' := hid hz'
        clear hz hz'
        by_cases hzx : z = z'
        · have HF := hid (take_eq_step HJ.out HZ.out (hzx ▸ HZ'.out))
          have hzx' : (z != z') = false := by rw [hzx]; simp
          clear hzx
          go_wp2
          go_quiet (fail)
          go_wp2
          go_roundw
          case rel => exact ⟨j + 1, _, by go_num, by omega, HF, rfl⟩
          case measure => simp [intOf]; omega
        · have HF := hid (ne_of_at HZ.out HZ'.out hzx)
          have hzx' : (z != z') = true := bne_iff_ne.2 hzx
          clear hzx
          go_wp2
          go_quiet (fail)
          go_wp2
          go_ret
          exact ⟨by rw [HF.out]; rfl, _, World.drewN_drewN _ _ _⟩
      · have HF := hid (show (l == l') = true from beq_iff_eq.2 (by
          have := HJ.out
          rwa [List.take_of_length_le (by have := HL.out; omega), List.take_of_length_le (by have := HL'.out; omega)] at this))
        go_wp2
        go_ret
        exact ⟨by rw [HF.out]; rfl, q, rfl⟩
  · have HF := hid (show (l == l') = false from beq_eq_false_iff_ne.2 fun e => hnm (by rw [← HL.out, ← HL'.out, e]))
    have hnm' : ((n : Int) != (m : Int)) = true := bne_iff_ne.2 (by omega)
    clear hnm
    go_enter Tryd.func31, Tryd.ntmps31
    go_wp2
    go_ret
    exact ⟨by rw [HF.out]; rfl, 0, rfl⟩
theorem equal_any (A : Option Addr) (n c : Nat) (l : List Int) (B : Option Addr) (m d : Nat) (l' : List Int) (w : World) (h : SlA w 1 A n c (l.map (.int .i64))) (h' : SlA w 1 B m d (l'.map (.int .i64))) (hn : n ≤ 2147483648) (hm : m ≤ 2147483648) :
    Calls Tryd.prog 56 #[.slice A n c, .slice B m d] w fun e w' => e = .returned (.bool (l == l')) ∧ ∃ q, w' = w.drewN q := by
  have hl := h.lenI
  have hl' := h'.lenI
  by_cases hnm : n = m
  · rcases l with _ | ⟨x, l⟩
    · simp at hl
      subst hl
      have : l' = [] := List.eq_nil_of_length_eq_zero (by omega)
      subst this
      refine (Tryd.slices_Equal_int_empty A B c m d w (by omega)).mono fun e w' ⟨h1, h2⟩ => ⟨?_, 0, h2⟩
      rw [h1, decide_eq_true (by omega : m = 0)]; rfl
    · rcases l' with _ | ⟨y, l'⟩
      · simp at hl hl'; omega
      · obtain ⟨b, o, rfl, _⟩ := h.cells 0 _ rfl
        obtain ⟨b', o', rfl, _⟩ := h'.cells 0 _ rfl
        have := Tryd.slices_Equal_int b o n c b' o' m d (x :: l) (y :: l') w (by omega) (by omega) (by omega) (by omega) (sla_getD h) (sla_getD h')
        rw [List.take_of_length_le (by omega), List.take_of_length_le (by omega)] at this
        exact this
  · refine (Tryd.slices_Equal_int_lens A B n c m d w hnm).mono fun e w' ⟨h1, h2⟩ => ⟨?_, 0, h2⟩
    rw [h1, show (l == l') = false from beq_eq_false_iff_ne.2 fun e => hnm (by rw [← hl, ← hl', e])]
/-- Two nodes are the same. -/
def sameN (a b : TN) : Bool := a.k == b.k && a.i == b.i && a.e == b.e && a.s == b.s && a.h == b.h && a.u == b.u
theorem samenode_any (a b : TN) (A : Option Addr) (c : Nat) (B : Option Addr) (d : Nat) (w : World) (h : SlA w 1 A a.u.length c (a.u.map (.int .i64))) (h' : SlA w 1 B b.u.length d (b.u.map (.int .i64))) (hn : a.u.length ≤ 2147483648) (hm : b.u.length ≤ 2147483648) :
    Calls Tryd.prog 25 #[.agg #[.int .i64 a.k, .int .i64 a.i, .int .i64 a.e, .int .i64 a.s, .int .i64 a.h, .slice A a.u.length c], .agg #[.int .i64 b.k, .int .i64 b.i, .int .i64 b.e, .int .i64 b.s, .int .i64 b.h, .slice B b.u.length d]] w fun r w' => r = .returned (.bool (sameN a b)) ∧ Below w.heap.size w w' := by
  have HS := hid h; have HS' := hid h'
  clear h h'
  rcases h0 : a.k == b.k with _ | _
  · have HN := hid (show sameN a b = false by unfold sameN; rw [h0]; simp)
    go_enter Tryd.func25, Tryd.ntmps25
    go_wp2
    go_ret
    exact ⟨by rw [HN.out]; rfl, ((Below.refl _ _).alloc (Nat.le_refl _) _).alloc (by simp) _⟩
  · skip
    rcases h1 : a.i == b.i with _ | _
    · have HN := hid (show sameN a b = false by unfold sameN; rw [h0, h1]; simp)
      go_enter Tryd.func25, Tryd.ntmps25
      go_wp2
      go_ret
      exact ⟨by rw [HN.out]; rfl, ((Below.refl _ _).alloc (Nat.le_refl _) _).alloc (by simp) _⟩
    · skip
      rcases h2 : a.e == b.e with _ | _
      · have HN := hid (show sameN a b = false by unfold sameN; rw [h0, h1, h2]; simp)
        go_enter Tryd.func25, Tryd.ntmps25
        go_wp2
        go_ret
        exact ⟨by rw [HN.out]; rfl, ((Below.refl _ _).alloc (Nat.le_refl _) _).alloc (by simp) _⟩
      · skip
        rcases h3 : a.s == b.s with _ | _
        · have HN := hid (show sameN a b = false by unfold sameN; rw [h0, h1, h2, h3]; simp)
          go_enter Tryd.func25, Tryd.ntmps25
          go_wp2
          go_ret
          exact ⟨by rw [HN.out]; rfl, ((Below.refl _ _).alloc (Nat.le_refl _) _).alloc (by simp) _⟩
        · skip
          rcases h4 : a.h == b.h with _ | _
          · have HN := hid (show sameN a b = false by unfold sameN; rw [h0, h1, h2, h3, h4]; simp)
            go_enter Tryd.func25, Tryd.ntmps25
            go_wp2
            go_ret
            exact ⟨by rw [HN.out]; rfl, ((Below.refl _ _).alloc (Nat.le_refl _) _).alloc (by simp) _⟩
          · skip
            have HN := hid (show sameN a b = (a.u == b.u) by unfold sameN; rw [h0, h1, h2, h3, h4]; simp)
            generalize hE : (a.u == b.u) = E at HN
            have HE := hid hE; clear hE
            go_enter Tryd.func25, Tryd.ntmps25
            go_wp2_with (go_at_call 31; refine (same_ints A _ c a.u B _ d b.u _ (HS.out.ext (((Below.refl _ _).alloc (Nat.le_refl _) _).alloc (by simp) _)) (HS'.out.ext (((Below.refl _ _).alloc (Nat.le_refl _) _).alloc (by simp) _)) hn hm).mono ?_; rintro e1 w1 ⟨rfl, q, rfl⟩; rw [HE.out])
            go_ret
            exact ⟨by rw [HN.out]; rfl, below_drewN (((Below.refl _ _).alloc (Nat.le_refl _) _).alloc (by simp) _) _⟩
theorem same1_any (a b : TN) (A : Option Addr) (c : Nat) (B : Option Addr) (d : Nat) (w : World) (h : SlA w 1 A a.u.length c (a.u.map (.int .i64))) (h' : SlA w 1 B b.u.length d (b.u.map (.int .i64))) (hn : a.u.length ≤ 2147483648) (hm : b.u.length ≤ 2147483648) :
    Calls Tryd.prog 55 #[.agg #[.int .i64 a.k, .int .i64 a.i, .int .i64 a.e, .int .i64 a.s, .int .i64 a.h, .slice A a.u.length c], .agg #[.int .i64 b.k, .int .i64 b.i, .int .i64 b.e, .int .i64 b.s, .int .i64 b.h, .slice B b.u.length d]] w fun r w' => r = .returned (.bool (sameN a b)) ∧ Below w.heap.size w w' := by
  have HS := hid h; have HS' := hid h'
  clear h h'
  rcases h0 : a.k == b.k with _ | _
  · have HN := hid (show sameN a b = false by unfold sameN; rw [h0]; simp)
    go_enter Tryd.func55, Tryd.ntmps55
    go_wp2
    go_ret
    exact ⟨by rw [HN.out]; rfl, ((Below.refl _ _).alloc (Nat.le_refl _) _).alloc (by simp) _⟩
  · skip
    rcases h1 : a.i == b.i with _ | _
    · have HN := hid (show sameN a b = false by unfold sameN; rw [h0, h1]; simp)
      go_enter Tryd.func55, Tryd.ntmps55
      go_wp2
      go_ret
      exact ⟨by rw [HN.out]; rfl, ((Below.refl _ _).alloc (Nat.le_refl _) _).alloc (by simp) _⟩
    · skip
      rcases h2 : a.e == b.e with _ | _
      · have HN := hid (show sameN a b = false by unfold sameN; rw [h0, h1, h2]; simp)
        go_enter Tryd.func55, Tryd.ntmps55
        go_wp2
        go_ret
        exact ⟨by rw [HN.out]; rfl, ((Below.refl _ _).alloc (Nat.le_refl _) _).alloc (by simp) _⟩
      · skip
        rcases h3 : a.s == b.s with _ | _
        · have HN := hid (show sameN a b = false by unfold sameN; rw [h0, h1, h2, h3]; simp)
          go_enter Tryd.func55, Tryd.ntmps55
          go_wp2
          go_ret
          exact ⟨by rw [HN.out]; rfl, ((Below.refl _ _).alloc (Nat.le_refl _) _).alloc (by simp) _⟩
        · skip
          rcases h4 : a.h == b.h with _ | _
          · have HN := hid (show sameN a b = false by unfold sameN; rw [h0, h1, h2, h3, h4]; simp)
            go_enter Tryd.func55, Tryd.ntmps55
            go_wp2
            go_ret
            exact ⟨by rw [HN.out]; rfl, ((Below.refl _ _).alloc (Nat.le_refl _) _).alloc (by simp) _⟩
          · skip
            have HN := hid (show sameN a b = (a.u == b.u) by unfold sameN; rw [h0, h1, h2, h3, h4]; simp)
            generalize hE : (a.u == b.u) = E at HN
            have HE := hid hE; clear hE
            go_enter Tryd.func55, Tryd.ntmps55
            go_wp2_with (go_at_call 56; refine (equal_any A _ c a.u B _ d b.u _ (HS.out.ext (((Below.refl _ _).alloc (Nat.le_refl _) _).alloc (by simp) _)) (HS'.out.ext (((Below.refl _ _).alloc (Nat.le_refl _) _).alloc (by simp) _)) hn hm).mono ?_; rintro e1 w1 ⟨rfl, q, rfl⟩; rw [HE.out])
            go_ret
            exact ⟨by rw [HN.out]; rfl, below_drewN (((Below.refl _ _).alloc (Nat.le_refl _) _).alloc (by simp) _) _⟩
end Go.Proofs.YtimdohjlhbpmhaaDoor
