import Derived.Test.YtpkijlmkgomfeaaGreatDoorW08
import Derived.Test.YtpkijlmkgomfeaaGreatDoorW06
import Derived.Test.YtpkijlmkgomfeaaGreatDoorW07
import Derived.Test.YtpkijlmkgomfeaaGreatDoorW05
/- Check, both ways: one answer. -/
namespace Go.Proofs.YtpkijlmkgomfeaaGreatDoor
open Go.RowKit Go.KK Go.Shelf
set_option linter.unusedVariables false
set_option linter.unusedSimpArgs false

/-- What a tree that may be is. -/
theorem chk_bare {xs : List TN} (h : chkB xs = true) : Bare xs := by
  obtain ⟨_, _, _, h4⟩ := chk_full h
  intro j x hx hk
  have hj := (List.getElem?_eq_some_iff.1 hx).1
  have := h4 j hj
  unfold okAt at this
  rw [hx] at this
  replace this : okB xs j x = true := this
  unfold okB at this
  split at this
  · simp only [Bool.and_eq_true, beq_iff_eq] at this
    exact List.eq_nil_of_length_eq_zero (by omega)
  · split at this
    · simp only [Bool.and_eq_true, beq_iff_eq] at this
      exact List.eq_nil_of_length_eq_zero (by omega)
    · unfold parB at this
      simp only [Bool.and_eq_true, beq_iff_eq] at this
      exact absurd this.1.1.1.1 hk
theorem chk_par {xs : List TN} (h : chkB xs = true) {j : Nat} {x : TN} (hx : xs[j]? = some x) (hk : x.k = 2) : j % 2 = 1 ∧ x.i = 0 ∧ x.s = 0 ∧ x.u.Pairwise (· < ·) ∧ ∀ i ∈ x.u, oneB xs j i = true := by
  obtain ⟨_, _, _, h4⟩ := chk_full h
  have hj := (List.getElem?_eq_some_iff.1 hx).1
  have := h4 j hj
  unfold okAt at this
  rw [hx] at this
  replace this : okB xs j x = true := this
  unfold okB at this
  split at this
  · omega
  · split at this
    · simp only [Bool.and_eq_true, beq_iff_eq] at this
      omega
    · unfold parB at this
      simp only [Bool.and_eq_true, beq_iff_eq] at this
      exact ⟨by omega, this.1.1.1.2, this.1.1.2, (rise_iff _).1 this.1.2, List.all_eq_true.1 this.2⟩
theorem chk_ord {xs : List TN} {B : Nat} (h : chkB xs = true) (hB : ∀ (j : Nat) x, xs[j]? = some x → x.u.length ≤ B) : Ord B xs := by
  intro j x hx
  refine ⟨?_, hB j x hx⟩
  by_cases hk : x.k = 2
  · exact (chk_par h hx hk).2.2.2.1.imp fun h => Int.le_of_lt h
  · rw [chk_bare h j x hx hk]; exact List.Pairwise.nil
end Go.Proofs.YtpkijlmkgomfeaaGreatDoor

/- proposals, in plain words: what they come to; a tree's changes, one answer each. -/
namespace Go.Proofs.YtpkijlmkgomfeaaGreatDoor
open Go.RowKit Go.KK Go.Shelf Go.Maps
set_option linter.unusedVariables false
set_option linter.unusedSimpArgs false

/-- Lists no longer than that. -/
def shU (B : Nat) (xs : List TN) : Prop := ∀ (j : Nat) x, xs[j]? = some x → x.u.length ≤ B
theorem shU.mono {B B' : Nat} {xs : List TN} (h : shU B xs) (hb : B ≤ B') : shU B' xs := fun j x hx => Nat.le_trans (h j x hx) hb
theorem shU.shorts {B : Nat} {xs : List TN} (h : shU B xs) (hb : B ≤ 2147483648) : Shorts xs := fun j x hx => Nat.le_trans (h j x hx) hb
theorem shU.set {B : Nat} {xs : List TN} (h : shU B xs) (j : Nat) {y : TN} (hy : y.u.length ≤ B) : shU B (xs.set j y) := by
  intro k x hx
  rcases set_get hx with ⟨rfl, rfl⟩ | ⟨_, hx'⟩
  · exact hy
  · exact h k x hx'
theorem shU.all {f : TN → TN} (hf : ∀ x : TN, (f x).u.length ≤ x.u.length + 1) : ∀ (l : List Int) (xs : List TN) (B : Nat), shU B xs → shU (B + l.length) (updAll f xs l)
  | [], _, _, h => h
  | y :: l, xs, B, h => by
    have h1 : shU (B + 1) (upd f xs y.toNat) := by
      intro k x hx
      rcases upd_get hx with ⟨_, z, hz, rfl⟩ | ⟨_, hx'⟩
      · have := h _ _ hz; have := hf z; omega
      · have := h _ _ hx'; omega
    have := shU.all hf l _ _ h1
    rw [updAll]
    exact this.mono (by simp; omega)
theorem addN_le1 (i : Int) (x : TN) : (addN i x).u.length ≤ x.u.length + 1 := by
  unfold addN
  split
  · show (insL _ _ _).length ≤ _
    rw [insL_len _ _ _ (lessN_le _ _)]
    exact Nat.le_refl _
  · omega
theorem shU.grow {B : Nat} {xs : List TN} (h : shU B xs) (f : Nat) : shU B (growL xs f) := by
  unfold growL
  split
  · intro j x hx
    by_cases hj : j < xs.length
    · rw [List.getElem?_append_left hj] at hx; exact h j x hx
    · rw [List.getElem?_append_right (by omega), List.getElem?_replicate] at hx
      split at hx
      · injection hx with hx; subst hx; simp [zeroN]
      · cases hx
  · exact h
theorem shU.add {B : Nat} {xs : List TN} {l : TN} (h : shU B xs) (hl : l.u.length ≤ B) : shU (B + 9) (addL xs l) := by
  unfold addL
  exact (shU.all (addN_le1 _) _ _ _ ((h.grow _).set _ hl)).mono (by have := pathL_le (2 * (freeN xs : Int)) (lvN (growL xs (freeN xs)).length); omega)
theorem shU.chg {B : Nat} {xs : List TN} {i : Int} {l : TN} (h : shU B xs) (hl : l.u.length ≤ B) : shU (B + 9) (chgL xs i l) := by
  unfold chgL
  exact (shU.all (fun x => by simp [blankN, zeroN]) _ _ _ (h.set _ hl)).mono (by have := pathL_le (2 * i) (lvN xs.length); omega)
theorem cut_is : ∀ (f : Nat) (zs ys : List TN), cutF f zs = some ys → ∃ p, ys = zs.take p
  | 0, _, _, h => by cases h
  | f + 1, zs, ys, h => by
    rw [cutF] at h
    split at h
    · split at h
      · cases h
      · obtain ⟨p, rfl⟩ := cut_is f _ _ h
        exact ⟨min p (zs.length / 2), List.take_take⟩
    · injection h with h
      exact ⟨zs.length, by rw [← h, List.take_length]⟩
theorem shU.take {B : Nat} {xs : List TN} (h : shU B xs) (p : Nat) : shU B (xs.take p) := by
  intro j x hx
  rw [List.getElem?_take] at hx
  split at hx
  · exact h j x hx
  · cases hx
theorem shU.rem {B : Nat} {xs ys : List TN} {i : Int} (h : shU B xs) (he : remO xs i = some ys) : shU (B + 9) ys ∧ ys.length ≤ xs.length := by
  obtain ⟨p, rfl⟩ := cut_is _ _ _ he
  have h1 := h.chg (i := i) (l := zeroN) (by simp [zeroN])
  refine ⟨h1.take p, ?_⟩
  have := chgL_len xs i zeroN
  rw [List.length_take]; omega
theorem shU.nil {B : Nat} : shU B [] := fun j x hx => by simp at hx
/-- A tree that is the call's own, or none. -/
def OwT (w : World) (base : Nat) (v : Value) (ys : List TN) : Prop := (ys = [] ∧ v = .slice none 0 0) ∨ ∃ g cap qs, v = .slice (some ⟨g, 0, none⟩) ys.length cap ∧ TrW w base g cap ys qs
section
variable {w w' : World} {base base' : Nat} {v : Value} {ys : List TN}
theorem OwT.shape (h : OwT w base v ys) : ∃ A c, v = .slice A ys.length c ∧ Tr w A ys.length c ys := by
  rcases h with ⟨rfl, rfl⟩ | ⟨g, cap, qs, rfl, ht⟩
  · exact ⟨none, 0, rfl, Tr.nil _⟩
  · exact ⟨_, _, rfl, ht.tr⟩
theorem OwT.ext (h : OwT w base v ys) (hb : Below w.heap.size w w') : OwT w' base v ys := by
  rcases h with h | ⟨g, cap, qs, rfl, ht⟩
  · exact .inl h
  · exact .inr ⟨g, cap, qs, rfl, ht.ext hb⟩
theorem OwT.mono (h : OwT w base v ys) (hb : base' ≤ base) : OwT w base' v ys := by
  rcases h with h | ⟨g, cap, qs, rfl, ht⟩
  · exact .inl h
  · exact .inr ⟨g, cap, qs, rfl, ht.mono hb⟩
end
/-- A leaf that may be. -/
def pfB (l : TN) : Bool := l.k == 1 && (l.u.length : Int) == 0
theorem lf_cases {l : TN} (h : pfB l = true) : ∃ i e s h, l = ⟨1, i, e, s, h, []⟩ := by
  unfold pfB at h
  simp only [Bool.and_eq_true, beq_iff_eq] at h
  obtain ⟨k, i, e, s, h', u⟩ := l
  obtain ⟨hk, hul⟩ := h
  simp only at hk hul
  have hu0 : u = [] := List.eq_nil_of_length_eq_zero (by omega)
  subst hu0; subst hk
  exact ⟨i, e, s, h', rfl⟩
theorem chk_at0 {w : World} {A : Option Addr} {n c : Nat} {xs : List TN} (ht : Tr w A n c xs) (hc : chkB xs = true) : ∃ b o, A = some ⟨b, o, none⟩ := by
  have hn := ht.len
  have h1 := fullN_le (chk_full hc).1
  have h2 := (chk_full hc).2.1
  obtain ⟨b0, o0, _, _, _, hA, _⟩ := ht.at (j := 0) (by omega)
  exact ⟨b0, o0, hA⟩
theorem chk_511 {xs : List TN} (hc : chkB xs = true) : xs.length ≤ 511 := by
  have h2 := (chk_full hc).2.1
  have h1 := of_decide_eq_true (chk_full hc).1
  omega
def ad2E (xs : List TN) (l : TN) : Int := if chkB xs && pfB l then (if freeN xs = 256 ∧ lvN xs.length = 256 then 2 else 0) else 1
def ad2T (xs : List TN) (l : TN) : List TN := if ad2E xs l = 0 then addL xs l else []
def ad2I (xs : List TN) (l : TN) : Int := if ad2E xs l = 0 then freeN xs else 0
def Ad2S (w : World) (xs : List TN) (l : TN) (r : Ending) (w' : World) : Prop :=
  ∃ v, r = .returned (.tuple #[v, .int .i64 (ad2I xs l), .int .i64 (ad2E xs l)]) ∧ OwT w' w.heap.size v (ad2T xs l) ∧ Below w.heap.size w w'
theorem ad2_no {w w' : World} {xs : List TN} {l : TN} {r : Ending} (h : (chkB xs && pfB l) = false) (hr : r = .returned (.tuple #[.slice none 0 0, .int .i64 0, .int .i64 1])) (hb : Below w.heap.size w w') : Ad2S w xs l r w' := by
  have e : ad2E xs l = 1 := by unfold ad2E; rw [h]; rfl
  unfold Ad2S ad2I ad2T
  rw [e]
  exact ⟨_, hr, .inl ⟨rfl, rfl⟩, hb⟩
theorem ad2_any (A : Option Addr) (n c : Nat) (xs : List TN) (l : TN) (B : Option Addr) (d : Nat) (w : World) (ht : Tr w A n c xs) (hn : n ≤ 600) {K : Nat} (hs : shU K xs) (hK : K ≤ 100000) (hT : Tab w) (hd : d ≤ maxLen) :
    Calls Tryz.prog 49 #[.slice A n c, .agg #[.int .i64 l.k, .int .i64 l.i, .int .i64 l.e, .int .i64 l.s, .int .i64 l.h, .slice B l.u.length d]] w (Ad2S w xs l) := by
  have s1 : Shorts xs := hs.shorts (by omega)
  rcases hc : chkB xs with _ | _
  · exact (add_no1 A n c xs (.int .i64 0) l.k l.i l.e l.s l.h B l.u.length d w ht hn hT s1 hc).mono fun r w' h => ad2_no (by rw [hc]; rfl) h.1 h.2
  · rcases hl : pfB l with _ | _
    · exact (add_no2 A n c xs l.k l.i l.e l.s l.h B l.u.length d w ht hn hT s1 hc hl).mono fun r w' h => ad2_no (by rw [hc, hl]; rfl) h.1 h.2
    · obtain ⟨i, e, s, h, rfl⟩ := lf_cases hl
      obtain ⟨b, o, rfl⟩ := chk_at0 ht hc
      refine (add_go b o n c xs i e s h B d w ht hn hT s1 (chk_bare hc) (chk_ord hc fun j x hx => Nat.le_trans (hs j x hx) hK) hc hd).mono fun r w' h => ?_
      unfold Ad2S ad2I ad2T ad2E
      rw [hc, hl]
      rcases h with ⟨h1, h2, h3, h4⟩ | ⟨h1, g, cap, qs, h3, h4, h5⟩
      · rw [if_pos (show (true && true) = true from rfl), if_pos (show freeN xs = 256 ∧ lvN xs.length = 256 from ⟨h1, h2⟩)]
        exact ⟨_, h3, .inl ⟨rfl, rfl⟩, h4⟩
      · rw [if_pos (show (true && true) = true from rfl), if_neg h1]
        exact ⟨_, h3, .inr ⟨g, cap, qs, rfl, h4⟩, h5⟩
theorem free_le (xs : List TN) : freeN xs ≤ lvN xs.length := by
  unfold freeN
  exact Nat.le_trans (List.IsPrefix.length_le (List.takeWhile_prefix _)) (by simp)
theorem ad2T_ok {xs : List TN} {l : TN} {K : Nat} (hs : shU K xs) : (ad2T xs l).length ≤ 511 ∧ shU (K + 9) (ad2T xs l) := by
  unfold ad2T
  split
  · rename_i h
    refine ⟨?_, hs.add ?_⟩
    rotate_left
    · unfold ad2E at h
      split at h
      · rename_i h2
        unfold pfB at h2
        simp only [Bool.and_eq_true, beq_iff_eq] at h2
        omega
      · exact absurd h (by decide)
    have hc : chkB xs = true := by
      unfold ad2E at h
      rcases hc : chkB xs with _ | _
      · rw [hc] at h; simp at h
      · rfl
    have h2 := (chk_full hc).2.1
    have h1 := of_decide_eq_true (chk_full hc).1
    have h3 := free_le xs
    unfold addL
    rw [updAll_len, List.length_set]
    unfold growL
    split
    · rename_i hf
      have : ¬ (freeN xs = 256 ∧ lvN xs.length = 256) := fun hh => by
        unfold ad2E at h
        rw [if_pos hh] at h
        split at h <;> exact absurd h (by decide)
      rw [List.length_append, List.length_replicate]
      omega
    · omega
  · exact ⟨by simp, shU.nil⟩
def rm2E (xs : List TN) (i : Int) : Int := if chkB xs then (if pres xs i then (if (remO xs i).isSome then 0 else 1) else 4) else 1
def rm2T (xs : List TN) (i : Int) : List TN := (if chkB xs && pres xs i then remO xs i else none).getD []
def Rm2S (w : World) (xs : List TN) (i : Int) (r : Ending) (w' : World) : Prop :=
  ∃ v, r = .returned (.tuple #[v, .int .i64 (rm2E xs i)]) ∧ OwT w' w.heap.size v (rm2T xs i) ∧ Below w.heap.size w w'
theorem rm2_any (A : Option Addr) (n c : Nat) (xs : List TN) (i : Int) (w : World) (ht : Tr w A n c xs) (hn : n ≤ 600) {K : Nat} (hs : shU K xs) (hK : K ≤ 100000) (hT : Tab w) :
    Calls Tryz.prog 47 #[.slice A n c, .int .i64 i] w (Rm2S w xs i) := by
  refine (remove_any A n c xs i w ht hn hT (hs.shorts (by omega)) chk_bare).mono fun r w' h => ?_
  unfold Rm2S rm2E rm2T
  obtain ⟨hb, ⟨a, e⟩ | ⟨a, b, e⟩ | ⟨a, b, o, e⟩ | ⟨a, b, ys, o, g, cap, qs, e, ht⟩⟩ := h
  · rw [a]; exact ⟨_, e, .inl ⟨rfl, rfl⟩, hb⟩
  · rw [a, b]; exact ⟨_, e, .inl ⟨rfl, rfl⟩, hb⟩
  · rw [a, b, o]; exact ⟨_, e, .inl ⟨rfl, rfl⟩, hb⟩
  · rw [a, b, o]; exact ⟨_, e, .inr ⟨g, cap, qs, rfl, ht⟩, hb⟩
theorem rm2T_ok {xs : List TN} {i : Int} {K : Nat} (hs : shU K xs) : (rm2T xs i).length ≤ xs.length ∧ shU (K + 9) (rm2T xs i) := by
  unfold rm2T
  split
  · rcases ho : remO xs i with _ | ys
    · exact ⟨by simp, shU.nil⟩
    · obtain ⟨h1, h2⟩ := hs.rem ho
      exact ⟨h2, h1⟩
  · exact ⟨by simp, shU.nil⟩
def up2E (xs : List TN) (i : Int) (l : TN) : Int := if pfB l then (if chkB xs then (if pres xs i then 0 else 4) else 1) else 1
def up2T (xs : List TN) (i : Int) (l : TN) : List TN := if pfB l && (chkB xs && pres xs i) then chgL xs i l else []
def Up2S (w : World) (xs : List TN) (i : Int) (l : TN) (r : Ending) (w' : World) : Prop :=
  ∃ v, r = .returned (.tuple #[v, .int .i64 (up2E xs i l)]) ∧ OwT w' w.heap.size v (up2T xs i l) ∧ Below w.heap.size w w'
theorem up2_any (A : Option Addr) (n c : Nat) (xs : List TN) (i : Int) (l : TN) (B : Option Addr) (d : Nat) (w : World) (ht : Tr w A n c xs) (hn : n ≤ 600) {K : Nat} (hs : shU K xs) (hK : K ≤ 100000) (hT : Tab w) (hd : d ≤ maxLen) :
    Calls Tryz.prog 45 #[.slice A n c, .int .i64 i, .agg #[.int .i64 l.k, .int .i64 l.i, .int .i64 l.e, .int .i64 l.s, .int .i64 l.h, .slice B l.u.length d]] w (Up2S w xs i l) := by
  refine (update_any A n c xs i l B d w ht hn hT (hs.shorts (by omega)) chk_bare hd).mono fun r w' h => ?_
  unfold Up2S up2E up2T pfB
  rcases h with ⟨hl, e, hb⟩ | ⟨hl, hb, ⟨a, e⟩ | ⟨a, b, e⟩ | ⟨a, b, g, cap, qs, e, ht⟩⟩
  · rw [hl]; exact ⟨_, e, .inl ⟨rfl, rfl⟩, hb⟩
  · rw [hl, a]; exact ⟨_, e, .inl ⟨rfl, rfl⟩, hb⟩
  · rw [hl, a, b]; exact ⟨_, e, .inl ⟨rfl, rfl⟩, hb⟩
  · rw [hl, a, b]; exact ⟨_, e, .inr ⟨g, cap, qs, by rw [← chgL_len xs i l]; rfl, ht⟩, hb⟩
theorem up2T_ok {xs : List TN} {i : Int} {l : TN} {K : Nat} (hs : shU K xs) : (up2T xs i l).length ≤ xs.length ∧ shU (K + 9) (up2T xs i l) := by
  unfold up2T
  split
  · rename_i h
    have hl : l.u.length ≤ K := by
      unfold pfB at h
      simp only [Bool.and_eq_true, beq_iff_eq] at h
      omega
    exact ⟨by rw [chgL_len]; omega, hs.chg hl⟩
  · exact ⟨by simp, shU.nil⟩

/-! proposals -/
/-- A tree that may be, of an arena's terms. -/
def paN (X : List ND) (n : TN) : Bool := n.k != 0 && !([n.e, n.h, n.i, n.s].all (hasB X))
def paG (X : List ND) (xs : List TN) : Bool := chkB xs && !xs.any (paN X)
/-- A leaf that one may put. -/
def paL (X : List ND) (n : TN) : Bool := pfB n && ([n.i, n.h].all (hasB X)) && ndIs X n.e 7 && ndIs X n.s 7
/-- The part that is asked of a proposal by its kind; what it may say. -/
def paI (X : List ND) (xs : List TN) (y : Int) (p : PR) : Bool :=
  if p.k = 1 then paL X p.n else if p.k = 2 then paL X p.n && p.f != y else if p.k = 3 then pres xs p.a && p.a != y else [p.t].all (hasB X)
def paB (p : PR) : PR := if p.k = 1 ∨ p.k = 2 then ⟨p.k, p.f, p.n, 0, 0⟩ else if p.k = 3 then ⟨p.k, p.f, zeroN, p.a, 0⟩ else ⟨p.k, p.f, zeroN, 0, p.t⟩
def samP (p q : PR) : Bool := p.k == q.k && p.f == q.f && p.a == q.a && p.t == q.t && sameT [p.n] [q.n]
def paM (X : List ND) (xs : List TN) (y : Int) (p : PR) : Bool := decide (1 ≤ p.k ∧ p.k ≤ 5) && (pres xs p.f && (paI X xs y p && samP p (paB p)))
/-- Which may stand together. -/
def keyP2 (p : PR) : Option Int := if p.k = 2 then some p.f else if p.k = 3 then some p.a else none
def extN (l : List PR) : Nat := (l.filter fun p => p.k == 5).length
def paT (l : List PR) : Bool := decide (l.filterMap keyP2).Nodup && decide (extN l ≤ 1)
/-- A tree's leaves, of other terms each. -/
def dstL (xs : List TN) (j : Nat) : List (Int × Int) := if kd xs (2 * j) = 1 then [(0, (tnF xs (2 * j)).i), (1, (tnF xs (2 * j)).e), (2, (tnF xs (2 * j)).s)] else []
def dstA (xs : List TN) (j : Nat) : List (Int × Int) := (List.range j).flatMap (dstL xs)
def paD (xs : List TN) : Bool := chkB xs && decide (dstA xs (lvN xs.length)).Nodup
structure PA where
  t : List TN
  fr : List Int
  go : List Int
  ps : List Int
  x : Int
  hx : Bool
def pa0 : PA := ⟨[], [], [], [], 0, false⟩
def paDo (k : Int) (a : PA) (p : PR) : PA × Int :=
  if k = 2 then ({ a with t := up2T a.t p.f p.n }, up2E a.t p.f p.n)
  else if k = 3 then ({ a with t := rm2T a.t p.a, go := a.go ++ [p.a] }, rm2E a.t p.a)
  else if k = 1 then ({ a with t := ad2T a.t p.n, fr := a.fr ++ [ad2I a.t p.n] }, ad2E a.t p.n)
  else if k = 4 then ({ a with ps := a.ps ++ [p.t] }, 0)
  else ({ a with x := p.t, hx := true }, 0)
/-- All of a kind, so long as no error came up. -/
def paE (k : Int) : List PR → PA → PA × Int
  | [], a => (a, 0)
  | p :: l, a => if p.k = k then (if (paDo k a p).2 = 0 then paE k l (paDo k a p).1 else paDo k a p) else paE k l a
def paA (l : List PR) : List Int → PA × Int → PA × Int
  | [], a => a
  | k :: ks, a => paA l ks (if a.2 = 0 then paE k l a.1 else a)
def paZ (xs : List TN) (l : List PR) : PA × Int := paA l [2, 3, 1, 4, 5] (⟨xs, [], [], [], 0, false⟩, 0)
/-- What proposals come to. -/
def paR (X : List ND) (xs : List TN) (y : Int) (l : List PR) : PA × Int :=
  if paG X xs && pres xs y then
    (if l.all (paM X xs y) && paT l then (if (paZ xs l).2 = 0 then (if paD (paZ xs l).1.t then ((paZ xs l).1, 0) else (pa0, 70)) else (pa0, (paZ xs l).2)) else (pa0, 70))
  else (pa0, 1)
end Go.Proofs.YtpkijlmkgomfeaaGreatDoor

/- proposals: whether some are terms; whether a tree may be. -/
namespace Go.Proofs.YtpkijlmkgomfeaaGreatDoor
open Go.RowKit Go.KK Go.Shelf Go.Maps
set_option linter.unusedVariables false
set_option linter.unusedSimpArgs false

set_option maxHeartbeats 1000000 in
theorem ix_pko (p : Int → Bool) {q1 : Value} (A : Option Addr) (n c : Nat) (l : List Int) (W : World) (hl : SlA W 1 A n c (l.map (.int .i64))) (hn : n ≤ 2147483648)
    (hcl : ∀ W', Below W.heap.size W W' → ∀ x ∈ l, Calls Tryz.prog 178 #[.int .i64 x, q1] W' fun e w' => e = .returned (.bool (p x)) ∧ Below W'.heap.size W' w') :
    Calls Tryz.prog 192 #[.slice A n c, .func (.func 178) #[] #[q1]] W fun e w' => (∃ k : Int, e = .returned (.int .i64 k) ∧ decide (0 ≤ k) = l.any p) ∧ Below W.heap.size W w' := by
  have HS := hid hl; have HL := hid hl.lenI; have HCL := hid hcl
  clear hl hcl
  go_enter Tryz.func192, Tryz.ntmps192
  go_wp2
  go_loopw [8] (fun i wr => ∃ j : Nat, i = .int .i64 j ∧ j ≤ n ∧ Hid (l.any p = (l.drop j).any p) ∧ Hid (Below W.heap.size W wr)) (fun i _ => n - (intOf i).toNat)
  case atStart => exact ⟨0, rfl, by omega, hid rfl, hid (Below.refl _ _)⟩
  case round =>
    obtain ⟨j, hi, hj, HJ, HB⟩ := hrel
    subst hi
    by_cases hlt : j < n
    · obtain ⟨b1, o, z, rfl, hz, hc⟩ := (HS.out.ext HB.out).elemI hlt
      have hlt' : (j : Int) < (n : Int) := by omega
      have HD := hid (any_step (p := p) hz)
      have HC := hid (HCL.out wr HB.out z (List.mem_of_getElem? hz))
      clear hz
      rcases hh : p z with _ | _
      · have HF := hid (show l.any p = (l.drop (j + 1)).any p by rw [HJ.out, HD.out, hh]; rfl)
        rw [hh] at HC
        go_wp2_with (go_at_call 178; refine HC.out.mono ?_; rintro e w' ⟨rfl, hb⟩; have HB2 := hid (HB.out.trans (hb.mono HB.out.size)); clear hb)
        go_roundw
        case rel => exact ⟨j + 1, by go_num, by omega, HF, HB2⟩
        case measure => simp [intOf]; omega
      · have HF := hid (show l.any p = true by rw [HJ.out, HD.out, hh]; rfl)
        rw [hh] at HC
        go_wp2_with (go_at_call 178; refine HC.out.mono ?_; rintro e w' ⟨rfl, hb⟩; have HB2 := hid (HB.out.trans (hb.mono HB.out.size)); clear hb)
        go_ret
        exact ⟨⟨j, rfl, by rw [HF.out, decide_eq_true (by omega)]⟩, HB2.out⟩
    · have HF := hid (show l.any p = false by rw [HJ.out, List.drop_of_length_le (by have := HL.out; omega)]; rfl)
      go_wp2
      go_ret
      exact ⟨⟨-1, rfl, by rw [HF.out]; rfl⟩, HB.out⟩
theorem cf_pko (p : Int → Bool) {q1 : Value} (A : Option Addr) (n c : Nat) (l : List Int) (W : World) (hl : SlA W 1 A n c (l.map (.int .i64))) (hn : n ≤ 2147483648)
    (hcl : ∀ W', Below W.heap.size W W' → ∀ x ∈ l, Calls Tryz.prog 178 #[.int .i64 x, q1] W' fun e w' => e = .returned (.bool (p x)) ∧ Below W'.heap.size W' w') :
    Calls Tryz.prog 131 #[.slice A n c, .func (.func 178) #[] #[q1]] W fun e w' => e = .returned (.bool (l.any p)) ∧ Below W.heap.size W w' := by
  have HX := hid (ix_pko p A n c l W hl hn hcl)
  clear hl hcl
  go_enter Tryz.func131, Tryz.ntmps131
  go_wp2_with fail
  refine HX.out.mono ?_
  rintro e w' ⟨⟨k, rfl, hk⟩, hw⟩
  have HK := hid hk; have HW := hid hw
  clear hk hw
  go_wp2
  go_ret
  exact ⟨by rw [← HK.out]; rfl, HW.out⟩
set_option maxHeartbeats 1000000 in
theorem ix_pgo (p : TN → Bool) {q1 : Value} (A : Option Addr) (n c : Nat) (t : List TN) (W : World) (hl : Tr W A n c t) (hn : n ≤ 2147483648)
    (hcl : ∀ W', Below W.heap.size W W' → ∀ x ∈ t, ∀ A2 c2, SlA W' 1 A2 x.u.length c2 (x.u.map (.int .i64)) → Calls Tryz.prog 102 #[tnV x (.slice A2 x.u.length c2), q1] W' fun e w' => e = .returned (.bool (p x)) ∧ Below W'.heap.size W' w') :
    Calls Tryz.prog 177 #[.slice A n c, .func (.func 102) #[] #[q1]] W fun e w' => (∃ k : Int, e = .returned (.int .i64 k) ∧ decide (0 ≤ k) = t.any p) ∧ Below W.heap.size W w' := by
  have HS := hid hl; have HL := hid hl.len; have HCL := hid hcl
  clear hl hcl
  unfold tnV at HCL
  go_enter Tryz.func177, Tryz.ntmps177
  go_wp2
  go_loopw [8] (fun i wr => ∃ j : Nat, i = .int .i64 j ∧ j ≤ n ∧ Hid (t.any p = (t.drop j).any p) ∧ Hid (Below W.heap.size W wr)) (fun i _ => n - (intOf i).toNat)
  case atStart => exact ⟨0, rfl, by omega, hid rfl, hid (Below.refl _ _)⟩
  case round =>
    obtain ⟨j, hi, hj, HJ, HB⟩ := hrel
    subst hi
    by_cases hlt : j < n
    · obtain ⟨b, o, x, A2, c2, rfl, hx, d0, d1, d2, d3, d4, d5, hsx⟩ := (HS.out.ext HB.out).at hlt
      have hlt' : (j : Int) < (n : Int) := by omega
      have HD := hid (any_step (p := p) hx)
      have HC := hid (HCL.out wr HB.out x (List.mem_of_getElem? hx) A2 c2 hsx)
      clear hx hsx
      rcases hh : p x with _ | _
      · have HF := hid (show t.any p = (t.drop (j + 1)).any p by rw [HJ.out, HD.out, hh]; rfl)
        rw [hh] at HC
        clear hh
        go_wp2_with (go_at_call 102; refine HC.out.mono ?_; rintro e w' ⟨rfl, hb⟩; have HB2 := hid (HB.out.trans (hb.mono HB.out.size)); clear hb)
        go_roundw
        case rel => exact ⟨j + 1, by go_num, by omega, HF, HB2⟩
        case measure => simp [intOf]; omega
      · have HF := hid (show t.any p = true by rw [HJ.out, HD.out, hh]; rfl)
        rw [hh] at HC
        clear hh
        go_wp2_with (go_at_call 102; refine HC.out.mono ?_; rintro e w' ⟨rfl, hb⟩; have HB2 := hid (HB.out.trans (hb.mono HB.out.size)); clear hb)
        go_ret
        exact ⟨⟨j, rfl, by rw [HF.out, decide_eq_true (by omega)]⟩, HB2.out⟩
    · have HF := hid (show t.any p = false by rw [HJ.out, List.drop_of_length_le (by have := HL.out; omega)]; rfl)
      go_wp2
      go_ret
      exact ⟨⟨-1, rfl, by rw [HF.out]; rfl⟩, HB.out⟩
theorem cf_pgo (p : TN → Bool) {q1 : Value} (A : Option Addr) (n c : Nat) (t : List TN) (W : World) (hl : Tr W A n c t) (hn : n ≤ 2147483648)
    (hcl : ∀ W', Below W.heap.size W W' → ∀ x ∈ t, ∀ A2 c2, SlA W' 1 A2 x.u.length c2 (x.u.map (.int .i64)) → Calls Tryz.prog 102 #[tnV x (.slice A2 x.u.length c2), q1] W' fun e w' => e = .returned (.bool (p x)) ∧ Below W'.heap.size W' w') :
    Calls Tryz.prog 101 #[.slice A n c, .func (.func 102) #[] #[q1]] W fun e w' => e = .returned (.bool (t.any p)) ∧ Below W.heap.size W w' := by
  have HX := hid (ix_pgo p A n c t W hl hn hcl)
  clear hl hcl
  go_enter Tryz.func101, Tryz.ntmps101
  go_wp2_with fail
  refine HX.out.mono ?_
  rintro e w' ⟨⟨k, rfl, hk⟩, hw⟩
  have HK := hid hk; have HW := hid hw
  clear hk hw
  go_wp2
  go_ret
  exact ⟨by rw [← HK.out]; rfl, HW.out⟩
section
variable {W : World} {sa b : Nat} {X : List ND}
theorem pko_any (h : ArV W 151 sa X) (hb : W.cell? ⟨b, 0, none⟩ = some (.pointer (some ⟨sa, 0, none⟩))) (x : Int) :
    Calls Tryz.prog 178 #[.int .i64 x, .pointer (some ⟨b, 0, none⟩)] W fun e w' => e = .returned (.bool (!hasB X x)) ∧ Below W.heap.size W w' := by
  have H := hid h
  clear h
  by_cases h0 : x < 0
  · have HF := hid (show hasB X x = false by unfold hasB; rw [decide_eq_false (by omega : ¬ 0 ≤ x)]; rfl)
    rw [HF.out]
    go_enter Tryz.func178, Tryz.ntmps178
    go_wp2_with fail
    go_ret
    exact ⟨rfl, Below.refl _ _⟩
  · have HF := hid (show (!hasB X x) = decide ((X.length : Int) ≤ x) by
      unfold hasB
      rw [decide_eq_true (by omega : 0 ≤ x), Bool.true_and, ← decide_not]
      exact decide_eq_decide.2 (by omega))
    rw [HF.out]
    go_enter Tryz.func178, Tryz.ntmps178
    go_wp2_with fail
    refine (len_any sa X _ H.out).mono ?_
    rintro e w2 ⟨rfl, hw⟩
    subst hw
    go_wp2_with fail
    go_ret
    exact ⟨rfl, Below.refl _ _⟩
theorem any_not {X : List ND} (l : List Int) : (!l.any fun x => !hasB X x) = l.all (hasB X) := by
  induction l with
  | nil => rfl
  | cons x l ih => rw [List.any_cons, List.all_cons, Bool.not_or, Bool.not_not, ih]
/-- known. -/
theorem pknown_any (h : ArV W 151 sa X) {A : Option Addr} {n c : Nat} {l : List Int} (hl : SlA W 1 A n c (l.map (.int .i64))) (hn : n ≤ 100000) :
    Calls Tryz.prog 103 #[.pointer (some ⟨sa, 0, none⟩), .slice A n c] W fun e w' => e = .returned (.bool (l.all (hasB X))) ∧ Below W.heap.size W w' := by
  have b1 : Below W.heap.size W (W.alloc (.cells #[.pointer (some ⟨sa, 0, none⟩)] 26)) := (Below.refl _ _).alloc (Nat.le_refl _) _
  have HP := hid (show Below W.heap.size W (W.alloc (.cells #[.pointer (some ⟨sa, 0, none⟩)] 26)) ∧ (W.alloc (.cells #[.pointer (some ⟨sa, 0, none⟩)] 26)).cell? ⟨W.heap.size, 0, none⟩ = some (.pointer (some ⟨sa, 0, none⟩)) from
    ⟨b1, by rw [cell_of_row _ W.heap.size 0 _ _ (0, 0) (heap_alloc_new W _)]; rfl⟩)
  have HA := hid (fun (U : World) (hU : Below W.heap.size W U) => h.ext hU)
  have HL := hid (fun (U : World) (hU : Below W.heap.size W U) => hl.ext hU)
  obtain ⟨r, hr⟩ : ∃ r, r = l.all (hasB X) := ⟨_, rfl⟩
  have HR := hid (show (!l.any fun x => !hasB X x) = r from by rw [hr]; exact any_not (X := X) l)
  rw [← hr]
  clear h hl b1 hr
  go_enter Tryz.func103, Tryz.ntmps103
  go_upto_region 1 with fail
  obtain ⟨b2, hb2⟩ : ∃ b2, b2 = W.heap.size := ⟨_, rfl⟩
  rw [← hb2] at HP ⊢
  refine forget (R := fun V => Below b2 W V ∧ V.cell? ⟨b2, 0, none⟩ = some (.pointer (some ⟨sa, 0, none⟩))) ?_ HP.out
  clear HP
  rintro V ⟨hb, h2⟩
  rw [hb2] at hb
  have B1 := hid hb
  have HC := hid (cf_pko (fun x => !hasB X x) (q1 := .pointer (some ⟨b2, 0, none⟩)) A n c l V (HL.out V hb) (by omega) fun U hU x _ => pko_any ((HA.out V hb).ext hU) ((hU.cell (p := ⟨b2, 0, none⟩) (block_lt_of_cell h2)).trans h2) x)
  clear hb h2 hb2
  generalize (l.any fun x => !hasB X x) = r0 at *
  go_wp2_with fail
  refine HC.out.mono ?_
  rintro e w' ⟨rfl, hw⟩
  have HW := hid (B1.out.trans (hw.mono B1.out.size))
  clear hw HC
  go_wp2_with fail
  go_ret
  exact ⟨by first | rfl | (rw [HR.out]; try rfl), HW.out⟩
set_option maxHeartbeats 4000000 in
set_option maxRecDepth 100000 in
theorem pgo_any (h : ArV W 151 sa X) (hb : W.cell? ⟨b, 0, none⟩ = some (.pointer (some ⟨sa, 0, none⟩))) (x : TN) (q : Value) :
    Calls Tryz.prog 102 #[tnV x q, .pointer (some ⟨b, 0, none⟩)] W fun e w' => e = .returned (.bool (paN X x)) ∧ Below W.heap.size W w' := by
  have b1 : Below W.heap.size W (W.alloc (.cells #[.int .i64 x.k, .int .i64 x.i, .int .i64 x.e, .int .i64 x.s, .int .i64 x.h, q] 37)) := (Below.refl _ _).alloc (Nat.le_refl _) _
  have HP := hid (And.intro b1 (show (W.alloc (.cells #[.int .i64 x.k, .int .i64 x.i, .int .i64 x.e, .int .i64 x.s, .int .i64 x.h, q] 37)).heap[W.heap.size]? = some (tnC x q) from heap_alloc_new W _))
  have HB := hid hb
  have HO := hid (fun (U : World) (hU : Below W.heap.size W U) (y z t u : Int) => pknown_any ((h.ext hU).ext ((Below.refl U.heap.size U).alloc (Nat.le_refl _) (.cells #[.int .i64 y, .int .i64 z, .int .i64 t, .int .i64 u] 3))) (l := [y, z, t, u]) (sla_row #[.int .i64 y, .int .i64 z, .int .i64 t, .int .i64 u] (by unfold maxLen; simp)) (by simp))
  obtain ⟨r, hr⟩ : ∃ r, r = paN X x := ⟨_, rfl⟩
  rw [← hr]
  have HR := hid (show r = (x.k != 0 && !([x.e, x.h, x.i, x.s].all (hasB X))) from hr)
  clear h hb b1 hr
  unfold tnV
  generalize ha1 : [x.e, x.h, x.i, x.s].all (hasB X) = a1 at *
  have HA1 := hid ha1
  clear ha1
  obtain ⟨xk, xi, xe, xs, xh, xu⟩ := x
  dsimp only at *
  go_enter Tryz.func102, Tryz.ntmps102
  go_upto_region 1 with fail
  obtain ⟨b6, hb6⟩ : ∃ b6, b6 = W.heap.size := ⟨_, rfl⟩
  rw [← hb6] at HP ⊢
  refine forget (R := fun V => Below b6 W V ∧ V.heap[b6]? = some (tnC ⟨xk, xi, xe, xs, xh, xu⟩ q)) ?_ HP.out
  clear HP
  rintro V ⟨hbl, hx⟩
  rw [hb6] at hbl
  have B1 := hid hbl
  have g5 := (hbl.cell (p := ⟨b, 0, none⟩) (block_lt_of_cell HB.out)).trans HB.out
  obtain ⟨x0, x1, x2, x3, x4, -⟩ := tn6 hx
  dsimp only at x0 x1 x2 x3 x4
  clear hbl hx hb6
  by_cases h0 : xk = 0
  · subst h0
    have HE := hid (show r = false from by rw [HR.out]; rfl)
    go_wp2_with fail
    go_ret
    exact ⟨by first | rfl | (rw [HE.out]; try rfl), B1.out⟩
  have h0' : (xk != 0) = true := bne_iff_ne.2 h0
  have HE := hid (show r = !a1 from by rw [HR.out, h0', Bool.true_and])
  clear h0
  have HC := hid (HO.out V B1.out xe xh xi xs)
  rw [HA1.out] at HC
  go_wp2_with fail
  refine HC.out.mono ?_
  rintro e w6 ⟨rfl, b6'⟩
  have B6 := hid (B1.out.trans ((((Below.refl V.heap.size V).alloc (Nat.le_refl _) (.cells #[.int .i64 xe, .int .i64 xh, .int .i64 xi, .int .i64 xs] 3)).trans (b6'.mono (by simp))).mono B1.out.size))
  clear b6' HC
  go_wp2_with fail
  go_ret
  exact ⟨by first | rfl | (rw [HE.out]; try rfl), B6.out⟩
set_option maxHeartbeats 4000000 in
/-- goes. -/
theorem goes_any (h : ArV W 151 sa X) (hT : ∀ U, Below W.heap.size W U → Tab U) {A : Option Addr} {n c : Nat} {xs : List TN} (ht : Tr W A n c xs) (hn : n ≤ 600) (hu : Shorts xs) :
    Calls Tryz.prog 37 #[.pointer (some ⟨sa, 0, none⟩), .slice A n c] W fun e w' => e = .returned (.bool (paG X xs)) ∧ Below W.heap.size W w' := by
  have b1 : Below W.heap.size W (W.alloc (.cells #[.pointer (some ⟨sa, 0, none⟩)] 26)) := (Below.refl _ _).alloc (Nat.le_refl _) _
  have HP := hid (show Below W.heap.size W (W.alloc (.cells #[.pointer (some ⟨sa, 0, none⟩)] 26)) ∧ (W.alloc (.cells #[.pointer (some ⟨sa, 0, none⟩)] 26)).cell? ⟨W.heap.size, 0, none⟩ = some (.pointer (some ⟨sa, 0, none⟩)) from
    ⟨b1, by rw [cell_of_row _ W.heap.size 0 _ _ (0, 0) (heap_alloc_new W _)]; rfl⟩)
  have HA := hid (fun (U : World) (hU : Below W.heap.size W U) => h.ext hU)
  have HTR := hid (fun (U : World) (hU : Below W.heap.size W U) => ht.ext hU)
  have HTB := hid hT; have HU := hid hu
  clear h hT ht hu b1
  obtain ⟨r, hr⟩ : ∃ r, r = paG X xs := ⟨_, rfl⟩
  rw [← hr]
  have HR := hid (show r = (chkB xs && !xs.any (paN X)) from hr)
  clear hr
  go_enter Tryz.func37, Tryz.ntmps37
  go_upto_region 1 with fail
  obtain ⟨b2, hb2⟩ : ∃ b2, b2 = W.heap.size := ⟨_, rfl⟩
  rw [← hb2] at HP ⊢
  refine forget (R := fun V => Below b2 W V ∧ V.cell? ⟨b2, 0, none⟩ = some (.pointer (some ⟨sa, 0, none⟩))) ?_ HP.out
  clear HP
  rintro V ⟨hb, h2⟩
  rw [hb2] at hb
  have B1 := hid hb; have H2 := hid h2
  have HC := hid (chk_any A n c xs V (HTR.out V hb) hn (HTB.out V hb) HU.out)
  clear hb h2 hb2
  unfold chkE at HC
  rcases hk : chkB xs with _ | _
  · have HE := hid (show r = false from by rw [HR.out, hk]; rfl)
    rw [hk] at HC
    clear hk
    go_wp2_with fail
    refine HC.out.mono ?_
    rintro e w6 ⟨rfl, b6⟩
    have B6 := hid (B1.out.trans (b6.mono B1.out.size))
    clear b6 HC
    go_wp2_with fail
    go_ret
    exact ⟨by first | rfl | (rw [HE.out]; try rfl), B6.out⟩
  · rw [hk] at HC
    have HE := hid (show r = !xs.any (paN X) from by rw [HR.out, hk, Bool.true_and])
    clear hk
    go_wp2_with fail
    refine HC.out.mono ?_
    rintro e w6 ⟨rfl, b6⟩
    have B6 := hid (B1.out.trans (b6.mono B1.out.size))
    have HCF := hid (cf_pgo (paN X) (q1 := .pointer (some ⟨b2, 0, none⟩)) A n c xs w6 (HTR.out w6 B6.out) (by omega) fun U hU x _ A2 c2 _ =>
      pgo_any (b := b2) ((HA.out w6 B6.out).ext hU) (((b6.trans (hU.mono b6.size)).cell (p := ⟨b2, 0, none⟩) (block_lt_of_cell H2.out)).trans H2.out) x _)
    clear b6 HC
    generalize xs.any (paN X) = a at *
    go_wp2_with fail
    refine HCF.out.mono ?_
    rintro e w7 ⟨rfl, b7⟩
    have B7 := hid (B6.out.trans (b7.mono B6.out.size))
    clear b7 HCF
    go_wp2_with fail
    go_ret
    exact ⟨by first | rfl | (rw [HE.out]; try rfl), B7.out⟩
/-- public. -/
theorem public_any (h : ArV W 151 sa X) (t : Int) :
    Calls Tryz.prog 179 #[.pointer (some ⟨sa, 0, none⟩), .int .i64 t] W fun e w' => e = .returned (.bool (ndIs X t 7)) ∧ Below W.heap.size W w' := by
  have H := hid h
  have B0 := hid (show Below W.heap.size W (W.alloc (.cells #[.int .i64 0, .int .i64 0, .string ⟨#[]⟩, .slice none 0 0] 86)) from (Below.refl _ _).alloc (Nat.le_refl _) _)
  have HN := hid (node_any sa X t _ (H.out.ext B0.out))
  have HN0 := hid (node_any sa X t _ H.out)
  clear h
  unfold ndIs
  generalize nodeF X t = x at *
  generalize nodeE X t = ee at *
  go_enter Tryz.func179, Tryz.ntmps179
  go_wp2_with fail
  refine HN0.out.mono ?_
  rintro e w6 ⟨A, c, rfl, -, b6⟩
  have B6 := hid b6
  have HP := hid (And.intro ((Below.refl w6.heap.size w6).alloc (Nat.le_refl _) (.cells #[.int .i64 x.o, .int .i64 x.n, .string x.s, .slice A x.l.length c] 86)) (heap_alloc_new w6 (.cells #[.int .i64 x.o, .int .i64 x.n, .string x.s, .slice A x.l.length c] 86)))
  clear b6 HN HN0 B0 H
  go_upto_region 2 with fail
  obtain ⟨bx, hbx⟩ : ∃ bx, bx = w6.heap.size := ⟨_, rfl⟩
  rw [← hbx] at HP ⊢
  refine forget (R := fun V => Below bx w6 V ∧ V.heap[bx]? = some (.cells #[.int .i64 x.o, .int .i64 x.n, .string x.s, .slice A x.l.length c] 86 (0, 0))) ?_ HP.out
  clear HP
  rintro V ⟨bv, hx⟩
  rw [hbx] at bv
  have B7 := hid (B6.out.trans (bv.mono B6.out.size))
  have x0 : V.cell? ⟨bx, 0, none⟩ = some (.int .i64 x.o) := by rw [cell_of_row _ bx 0 _ _ (0, 0) hx]; rfl
  clear bv hx hbx
  rcases h1 : (ee == 0) with _ | _
  · go_wp2_with fail
    go_ret
    exact ⟨by rw [h1]; rfl, B7.out⟩
  · go_wp2_with fail
    go_ret
    exact ⟨by rw [h1]; rfl, B7.out⟩
end
end Go.Proofs.YtpkijlmkgomfeaaGreatDoor

/- a proposal in a box of its own. -/
namespace Go.Proofs.YtpkijlmkgomfeaaGreatDoor
open Go.RowKit Go.KK Go.Shelf Go.Maps
set_option linter.unusedVariables false
set_option linter.unusedSimpArgs false

def PrI (p : PR) : Prop := I64 p.k ∧ I64 p.f ∧ (I64 p.n.i ∧ I64 p.n.e ∧ I64 p.n.s ∧ I64 p.n.h) ∧ I64 p.a ∧ I64 p.t
def prO (p : PR) (q : Value) : Obj := .cells #[.int .i64 p.k, .int .i64 p.f, .int .i64 p.n.k, .int .i64 p.n.i, .int .i64 p.n.e, .int .i64 p.n.s, .int .i64 p.n.h, q, .int .i64 p.a, .int .i64 p.t] 39 (0, 0)
end Go.Proofs.YtpkijlmkgomfeaaGreatDoor

/- proposals: member, sameLeaf, Same, leaf. -/
namespace Go.Proofs.YtpkijlmkgomfeaaGreatDoor
open Go.RowKit Go.KK Go.Shelf Go.Maps
set_option linter.unusedVariables false
set_option linter.unusedSimpArgs false

theorem kd_at9 {xs : List TN} {j : Nat} {x : TN} (h : xs[j]? = some x) : kd xs j = x.k := by unfold kd; rw [h]
theorem pres_not1 {xs : List TN} {i : Int} (h : ¬ 0 ≤ i) : pres xs i = false := by unfold pres; rw [decide_eq_false h]; rfl
theorem pres_not2 {xs : List TN} {i : Int} (h : ¬ 2 * i < xs.length) : pres xs i = false := by
  unfold pres
  rw [decide_eq_false (show ¬ i < (lvN xs.length : Int) from by unfold lvN; omega), Bool.and_false]; rfl
theorem pres_kd {xs : List TN} {j : Nat} (h : 2 * j < xs.length) : pres xs (j : Int) = (kd xs (2 * j) == 1) := by
  unfold pres
  rw [decide_eq_true (show (0 : Int) ≤ (j : Int) from by omega), decide_eq_true (show (j : Int) < (lvN xs.length : Int) from by unfold lvN; omega), show (2 * (j : Int)).toNat = 2 * j from by omega]
  rfl
set_option maxHeartbeats 1000000 in
theorem pmember_any {W : World} {A : Option Addr} {n c : Nat} {xs : List TN} (h : Tr W A n c xs) (hn : n ≤ 600) (i : Int) :
    Calls Tryz.prog 38 #[.slice A n c, .int .i64 i] W fun e w' => e = .returned (.bool (pres xs i)) ∧ w' = W := by
  have HL := hid h.len
  by_cases h0 : 0 ≤ i
  · obtain ⟨j, rfl⟩ := Int.eq_ofNat_of_zero_le h0
    by_cases h1 : (j : Int) < (n : Int)
    · by_cases h2 : 2 * (j : Int) < (n : Int)
      · have h2' : 2 * j < n := by omega
        obtain ⟨b, o, x, _, _, rfl, hx, d0, -⟩ := h.at h2'
        have HP := hid (show pres xs (j : Int) = (x.k == 1) from by rw [pres_kd (by rw [HL.out]; exact h2'), kd_at9 hx])
        obtain ⟨m, hm⟩ : ∃ m : Nat, 2 * (j : Int) = (m : Int) := ⟨2 * j, by omega⟩
        have hmj : 2 * j = m := by omega
        rw [hmj] at d0
        have hmn : (m : Int) < (n : Int) := by omega
        clear hx h h2 h2'
        rw [HP.out]
        obtain ⟨xk, hxk⟩ : ∃ xk, xk = x.k := ⟨_, rfl⟩
        rw [← hxk] at d0 ⊢
        clear hxk HP
        by_cases h3 : xk = 1
        · subst h3
          go_enter Tryz.func38, Tryz.ntmps38
          go_wp2_with fail
          go_ret
          exact ⟨rfl, rfl⟩
        · have h3' : (xk == 1) = false := beq_eq_false_iff_ne.2 h3
          rw [h3']
          clear h3
          go_enter Tryz.func38, Tryz.ntmps38
          go_wp2_with fail
          go_ret
          exact ⟨rfl, rfl⟩
      · have HP := hid (pres_not2 (xs := xs) (i := (j : Int)) (by rw [HL.out]; exact h2))
        obtain ⟨m, hm⟩ : ∃ m : Nat, 2 * (j : Int) = (m : Int) := ⟨2 * j, by omega⟩
        have hmn : ¬ (m : Int) < (n : Int) := by omega
        rw [HP.out]
        clear h h2
        go_enter Tryz.func38, Tryz.ntmps38
        go_wp2_with fail
        go_ret
        exact ⟨rfl, rfl⟩
    · have HP := hid (pres_not2 (xs := xs) (i := (j : Int)) (by rw [HL.out]; omega))
      rw [HP.out]
      clear h
      go_enter Tryz.func38, Tryz.ntmps38
      go_wp2_with fail
      go_ret
      exact ⟨rfl, rfl⟩
  · have HP := hid (pres_not1 (xs := xs) h0)
    rw [HP.out]
    clear h
    go_enter Tryz.func38, Tryz.ntmps38
    go_wp2_with fail
    go_ret
    exact ⟨rfl, rfl⟩
/-- A tree of one node, as it is laid for a comparison. -/
theorem tr_one {W : World} {x : TN} {A : Option Addr} {c : Nat} (h : SlA W 1 A x.u.length c (x.u.map (.int .i64))) : Tr (W.alloc (.cells #[.int .i64 x.k, .int .i64 x.i, .int .i64 x.e, .int .i64 x.s, .int .i64 x.h, .slice A x.u.length c] 37)) (some ⟨W.heap.size, 0, none⟩) 1 1 [x] := by
  refine ⟨[.slice A x.u.length c], rfl, ⟨Nat.le_refl _, by decide, by simp [ncs, TN.cells], fun j u hj => ⟨W.heap.size, 0, rfl, by rw [World.cell?_alloc_at _ _ _ _ rfl, Nat.zero_add]; simpa [ncs, TN.cells] using hj⟩⟩, ?_⟩
  intro j y q hy hq
  rcases j with _ | j
  · injection hy with hy; injection hq with hq
    subst hy; subst hq
    exact ⟨A, c, rfl, h.ext ((Below.refl _ _).alloc (Nat.le_refl _) _)⟩
  · simp at hy
theorem shorts1 {x : TN} (h : x.u.length ≤ 2147483648) : Shorts [x] := by
  intro j q hq
  rcases j with _ | j
  · injection hq with hq; subst hq; exact h
  · simp at hq
set_option maxHeartbeats 2000000 in
theorem sameleaf_any {W : World} {x y : TN} {A B : Option Addr} {c d : Nat} (h : SlA W 1 A x.u.length c (x.u.map (.int .i64))) (h' : SlA W 1 B y.u.length d (y.u.map (.int .i64))) (hx : x.u.length ≤ 2147483648) (hy : y.u.length ≤ 2147483648) :
    Calls Tryz.prog 64 #[tnV x (.slice A x.u.length c), tnV y (.slice B y.u.length d)] W fun e w' => e = .returned (.bool (sameT [x] [y])) ∧ Below W.heap.size W w' := by
  have b1 : Below W.heap.size W (W.alloc (tnC x (.slice A x.u.length c))) := (Below.refl _ _).alloc (Nat.le_refl _) _
  have b2 : Below W.heap.size W ((W.alloc (tnC x (.slice A x.u.length c))).alloc (tnC y (.slice B y.u.length d))) := b1.alloc (by simp) _
  have HP := hid (show Below W.heap.size W ((W.alloc (tnC x (.slice A x.u.length c))).alloc (tnC y (.slice B y.u.length d))) ∧ ((W.alloc (tnC x (.slice A x.u.length c))).alloc (tnC y (.slice B y.u.length d))).heap[W.heap.size]? = some (tnC x (.slice A x.u.length c)) ∧ ((W.alloc (tnC x (.slice A x.u.length c))).alloc (tnC y (.slice B y.u.length d))).heap[W.heap.size + 1]? = some (tnC y (.slice B y.u.length d)) from by
    refine ⟨b2, (heap_alloc_old _ _ (by simp)).trans (heap_alloc_new W _), ?_⟩
    have := heap_alloc_new (W.alloc (tnC x (.slice A x.u.length c))) (tnC y (.slice B y.u.length d))
    rw [size_al] at this
    exact this)
  have HS := hid (fun (U : World) (hU : Below W.heap.size W U) => h.ext hU)
  have HS' := hid (fun (U : World) (hU : Below W.heap.size W U) => h'.ext hU)
  have HX := hid (shorts1 hx); have HY := hid (shorts1 hy)
  obtain ⟨r, hr⟩ : ∃ r, r = sameT [x] [y] := ⟨_, rfl⟩
  have HR := hid hr.symm
  rw [← hr]
  clear h h' b1 b2 hx hy hr
  unfold tnV
  unfold tnC at HP
  go_enter Tryz.func64, Tryz.ntmps64
  go_upto_region 1 with fail
  try simp only [Nat.add_assoc, Nat.reduceAdd]
  obtain ⟨b0, hb0⟩ : ∃ b0, b0 = W.heap.size := ⟨_, rfl⟩
  obtain ⟨b1, hb1⟩ : ∃ b1, b1 = W.heap.size + 1 := ⟨_, rfl⟩
  rw [← hb1, ← hb0] at HP ⊢
  refine forget (R := fun V => Below b0 W V ∧ V.heap[b0]? = some (tnC x (.slice A x.u.length c)) ∧ V.heap[b1]? = some (tnC y (.slice B y.u.length d))) ?_ HP.out
  clear HP
  rintro V ⟨hb, h0, h1⟩
  rw [hb0] at hb
  have B1 := hid hb
  have T1 := hid ((tr_one (HS.out V hb)).ext ((Below.refl _ _).alloc (Nat.le_refl _) (.cells #[.int .i64 y.k, .int .i64 y.i, .int .i64 y.e, .int .i64 y.s, .int .i64 y.h, .slice B y.u.length d] 37)))
  have T2 := hid (tr_one (HS'.out (V.alloc (.cells #[.int .i64 x.k, .int .i64 x.i, .int .i64 x.e, .int .i64 x.s, .int .i64 x.h, .slice A x.u.length c] 37)) (hb.alloc hb.size _)))
  rw [size_al] at T2
  have B3 := hid ((hb.alloc hb.size (.cells #[.int .i64 x.k, .int .i64 x.i, .int .i64 x.e, .int .i64 x.s, .int .i64 x.h, .slice A x.u.length c] 37)).alloc (by simp; have := hb.size; omega) (.cells #[.int .i64 y.k, .int .i64 y.i, .int .i64 y.e, .int .i64 y.s, .int .i64 y.h, .slice B y.u.length d] 37))
  have HC := hid (tsame_any _ _ _ _ _ _ _ _ _ T1.out T2.out (by omega) (by omega) HX.out HY.out)
  obtain ⟨x0, x1, x2, x3, x4, x5⟩ := tn6 h0
  obtain ⟨y0, y1, y2, y3, y4, y5⟩ := tn6 h1
  obtain ⟨z0, z1, z2, z3, z4, z5⟩ := tn6 ((((Below.refl V.heap.size V).alloc (Nat.le_refl _) (.cells #[.int .i64 x.k, .int .i64 x.i, .int .i64 x.e, .int .i64 x.s, .int .i64 x.h, .slice A x.u.length c] 37)).block _ (Array.getElem?_eq_some_iff.1 h1).1).trans h1)
  rw [HR.out] at HC
  clear hb h0 h1 hb0 hb1 T1 T2
  go_wp2_with fail
  refine HC.out.mono ?_
  rintro e w6 ⟨rfl, b6⟩
  have B6 := hid (B3.out.trans (b6.mono B3.out.size))
  clear b6 HC
  go_wp2_with fail
  go_ret
  exact ⟨rfl, B6.out⟩
def prV (p : PR) (q : Value) : Value := .agg #[.int .i64 p.k, .int .i64 p.f, .int .i64 p.n.k, .int .i64 p.n.i, .int .i64 p.n.e, .int .i64 p.n.s, .int .i64 p.n.h, q, .int .i64 p.a, .int .i64 p.t]
theorem prA10 {V : World} {b : Nat} {p : PR} {q : Value} (h : V.heap[b]? = some (prO p q)) : V.cell? ⟨b, 0, none⟩ = some (.int .i64 p.k) ∧ V.cell? ⟨b, 1, none⟩ = some (.int .i64 p.f) ∧ V.cell? ⟨b, 2, none⟩ = some (.int .i64 p.n.k) ∧ V.cell? ⟨b, 3, none⟩ = some (.int .i64 p.n.i) ∧ V.cell? ⟨b, 4, none⟩ = some (.int .i64 p.n.e) ∧ V.cell? ⟨b, 5, none⟩ = some (.int .i64 p.n.s) ∧ V.cell? ⟨b, 6, none⟩ = some (.int .i64 p.n.h) ∧ V.cell? ⟨b, 7, none⟩ = some q ∧ V.cell? ⟨b, 8, none⟩ = some (.int .i64 p.a) ∧ V.cell? ⟨b, 9, none⟩ = some (.int .i64 p.t) := by
  refine ⟨?_, ?_, ?_, ?_, ?_, ?_, ?_, ?_, ?_, ?_⟩ <;> (rw [cell_of_row _ b _ _ _ (0, 0) h]; rfl)
set_option maxHeartbeats 4000000 in
set_option maxRecDepth 100000 in
theorem psame_any {W : World} {p q : PR} {A B : Option Addr} {c d : Nat} (h : SlA W 1 A p.n.u.length c (p.n.u.map (.int .i64))) (h' : SlA W 1 B q.n.u.length d (q.n.u.map (.int .i64))) (hx : p.n.u.length ≤ 2147483648) (hy : q.n.u.length ≤ 2147483648) :
    Calls Tryz.prog 18 #[prV p (.slice A p.n.u.length c), prV q (.slice B q.n.u.length d)] W fun e w' => e = .returned (.bool (samP p q)) ∧ Below W.heap.size W w' := by
  have b1 : Below W.heap.size W (W.alloc (prO p (.slice A p.n.u.length c))) := (Below.refl _ _).alloc (Nat.le_refl _) _
  have b2 : Below W.heap.size W ((W.alloc (prO p (.slice A p.n.u.length c))).alloc (prO q (.slice B q.n.u.length d))) := b1.alloc (by simp) _
  have HP := hid (show Below W.heap.size W ((W.alloc (prO p (.slice A p.n.u.length c))).alloc (prO q (.slice B q.n.u.length d))) ∧ ((W.alloc (prO p (.slice A p.n.u.length c))).alloc (prO q (.slice B q.n.u.length d))).heap[W.heap.size]? = some (prO p (.slice A p.n.u.length c)) ∧ ((W.alloc (prO p (.slice A p.n.u.length c))).alloc (prO q (.slice B q.n.u.length d))).heap[W.heap.size + 1]? = some (prO q (.slice B q.n.u.length d)) from by
    refine ⟨b2, (heap_alloc_old _ _ (by simp)).trans (heap_alloc_new W _), ?_⟩
    have := heap_alloc_new (W.alloc (prO p (.slice A p.n.u.length c))) (prO q (.slice B q.n.u.length d))
    rw [size_al] at this
    exact this)
  have HC := hid (fun (U : World) (hU : Below W.heap.size W U) => sameleaf_any (h.ext hU) (h'.ext hU) hx hy)
  obtain ⟨r, hr⟩ : ∃ r, r = samP p q := ⟨_, rfl⟩
  rw [← hr]
  have HR := hid (show r = (p.k == q.k && p.f == q.f && p.a == q.a && p.t == q.t && sameT [p.n] [q.n]) from hr)
  clear h h' b1 b2 hx hy hr
  unfold prV
  unfold prO at HP
  go_enter Tryz.func18, Tryz.ntmps18
  go_upto_region 1 with fail
  try simp only [Nat.add_assoc, Nat.reduceAdd]
  obtain ⟨b0, hb0⟩ : ∃ b0, b0 = W.heap.size := ⟨_, rfl⟩
  obtain ⟨b1, hb1⟩ : ∃ b1, b1 = W.heap.size + 1 := ⟨_, rfl⟩
  rw [← hb1, ← hb0] at HP ⊢
  refine forget (R := fun V => Below b0 W V ∧ V.heap[b0]? = some (prO p (.slice A p.n.u.length c)) ∧ V.heap[b1]? = some (prO q (.slice B q.n.u.length d))) ?_ HP.out
  clear HP
  rintro V ⟨hb, h0, h1⟩
  rw [hb0] at hb
  have B1 := hid hb
  obtain ⟨x0, x1, x2, x3, x4, x5, x6, x7, x8, x9⟩ := prA10 h0
  obtain ⟨y0, y1, y2, y3, y4, y5, y6, y7, y8, y9⟩ := prA10 h1
  replace HC := hid (HC.out V hb)
  clear hb h0 h1 hb0 hb1
  unfold tnV at HC
  rcases h1 : (p.k == q.k) with _ | _
  · have HE := hid (show r = false from by rw [HR.out, h1]; rfl)
    clear HR
    go_wp2_with fail
    go_ret
    exact ⟨by first | rfl | (rw [HE.out]; try rfl), B1.out⟩
  rcases h2 : (p.f == q.f) with _ | _
  · have HE := hid (show r = false from by rw [HR.out, h1, h2]; rfl)
    clear HR
    go_wp2_with fail
    go_ret
    exact ⟨by first | rfl | (rw [HE.out]; try rfl), B1.out⟩
  rcases h3 : (p.a == q.a) with _ | _
  · have HE := hid (show r = false from by rw [HR.out, h1, h2, h3]; rfl)
    clear HR
    go_wp2_with fail
    go_ret
    exact ⟨by first | rfl | (rw [HE.out]; try rfl), B1.out⟩
  rcases h4 : (p.t == q.t) with _ | _
  · have HE := hid (show r = false from by rw [HR.out, h1, h2, h3, h4]; rfl)
    clear HR
    go_wp2_with fail
    go_ret
    exact ⟨by first | rfl | (rw [HE.out]; try rfl), B1.out⟩
  have HE := hid (show r = sameT [p.n] [q.n] from by rw [HR.out, h1, h2, h3, h4]; rfl)
  clear HR
  generalize sameT [p.n] [q.n] = z at *
  go_wp2_with fail
  refine HC.out.mono ?_
  rintro e w6 ⟨rfl, b6⟩
  have B6 := hid (B1.out.trans (b6.mono B1.out.size))
  clear b6 HC
  go_wp2_with fail
  go_ret
  exact ⟨by first | rfl | (rw [HE.out]; try rfl), B6.out⟩
section
variable {W : World} {sa : Nat} {X : List ND}
set_option maxHeartbeats 4000000 in
set_option maxRecDepth 100000 in
theorem pleaf_any (h : ArV W 151 sa X) (x : TN) {A : Option Addr} {c : Nat} :
    Calls Tryz.prog 106 #[.pointer (some ⟨sa, 0, none⟩), tnV x (.slice A x.u.length c)] W fun e w' => e = .returned (.bool (paL X x)) ∧ Below W.heap.size W w' := by
  have b1 : Below W.heap.size W (W.alloc (tnC x (.slice A x.u.length c))) := (Below.refl _ _).alloc (Nat.le_refl _) _
  have HP := hid (And.intro b1 (show (W.alloc (tnC x (.slice A x.u.length c))).heap[W.heap.size]? = some (tnC x (.slice A x.u.length c)) from heap_alloc_new W _))
  have HO := hid (fun (U : World) (hU : Below W.heap.size W U) (y z : Int) => pknown_any ((h.ext hU).ext ((Below.refl U.heap.size U).alloc (Nat.le_refl _) (.cells #[.int .i64 y, .int .i64 z] 3))) (l := [y, z]) (sla_row #[.int .i64 y, .int .i64 z] (by unfold maxLen; simp)) (by simp))
  have HPU := hid (fun (U : World) (hU : Below W.heap.size W U) (t : Int) => public_any (h.ext hU) t)
  obtain ⟨r, hr⟩ : ∃ r, r = paL X x := ⟨_, rfl⟩
  rw [← hr]
  have HR := hid (show r = (x.k == 1 && (x.u.length : Int) == 0 && ([x.i, x.h].all (hasB X)) && ndIs X x.e 7 && ndIs X x.s 7) from hr)
  clear h b1 hr
  unfold tnV
  unfold tnC at HP
  go_enter Tryz.func106, Tryz.ntmps106
  go_upto_region 1 with fail
  obtain ⟨b6, hb6⟩ : ∃ b6, b6 = W.heap.size := ⟨_, rfl⟩
  rw [← hb6] at HP ⊢
  refine forget (R := fun V => Below b6 W V ∧ V.heap[b6]? = some (tnC x (.slice A x.u.length c))) ?_ HP.out
  clear HP
  rintro V ⟨hbl, hx⟩
  rw [hb6] at hbl
  have B1 := hid hbl
  have HX := hid (fun (U : World) (hU : Below V.heap.size V U) => tn6 ((hU.block _ (Array.getElem?_eq_some_iff.1 hx).1).trans hx))
  obtain ⟨x0, x1, x2, x3, x4, x5⟩ := tn6 hx
  clear hbl hx hb6
  rcases h1 : (x.k == 1) with _ | _
  · have HE := hid (show r = false from by rw [HR.out, h1]; rfl)
    clear HR
    go_wp2_with fail
    go_ret
    exact ⟨by first | rfl | (rw [HE.out]; try rfl), B1.out⟩
  rcases h2 : ((x.u.length : Int) == 0) with _ | _
  · have HE := hid (show r = false from by rw [HR.out, h1, h2]; rfl)
    clear HR
    go_wp2_with fail
    go_ret
    exact ⟨by first | rfl | (rw [HE.out]; try rfl), B1.out⟩
  have HC := hid (HO.out V B1.out x.i x.h)
  rcases h3 : ([x.i, x.h].all (hasB X)) with _ | _
  · have HE := hid (show r = false from by rw [HR.out, h1, h2, h3]; rfl)
    rw [h3] at HC
    clear HR h3
    go_wp2_with fail
    refine HC.out.mono ?_
    rintro e w6 ⟨rfl, b6⟩
    have B6 := hid (B1.out.trans ((((Below.refl V.heap.size V).alloc (Nat.le_refl _) (.cells #[.int .i64 x.i, .int .i64 x.h] 3)).trans (b6.mono (by simp))).mono B1.out.size))
    clear b6 HC
    go_wp2_with fail
    go_ret
    exact ⟨by first | rfl | (rw [HE.out]; try rfl), B6.out⟩
  rw [h3] at HC
  have HR1 := hid (show r = (ndIs X x.e 7 && ndIs X x.s 7) from by rw [HR.out, h1, h2, h3]; rfl)
  clear HR h3
  rcases h4 : ndIs X x.e 7 with _ | _
  · have HE := hid (show r = false from by rw [HR1.out, h4]; rfl)
    go_wp2_with fail
    refine HC.out.mono ?_
    rintro e w6 ⟨rfl, b6⟩
    have BV := hid (((Below.refl V.heap.size V).alloc (Nat.le_refl _) (.cells #[.int .i64 x.i, .int .i64 x.h] 3)).trans (b6.mono (by simp)))
    have B6 := hid (B1.out.trans (BV.out.mono B1.out.size))
    obtain ⟨y0, y1, y2, y3, y4, y5⟩ := HX.out w6 BV.out
    have HQ := hid (HPU.out w6 B6.out x.e)
    rw [h4] at HQ
    clear b6 HC h4
    go_wp2_with fail
    refine HQ.out.mono ?_
    rintro e w7 ⟨rfl, b7⟩
    have B7 := hid (B6.out.trans (b7.mono B6.out.size))
    clear b7 HQ
    go_wp2_with fail
    go_ret
    exact ⟨by first | rfl | (rw [HE.out]; try rfl), B7.out⟩
  have HE := hid (show r = ndIs X x.s 7 from by rw [HR1.out, h4]; rfl)
  go_wp2_with fail
  refine HC.out.mono ?_
  rintro e w6 ⟨rfl, b6⟩
  have BV := hid (((Below.refl V.heap.size V).alloc (Nat.le_refl _) (.cells #[.int .i64 x.i, .int .i64 x.h] 3)).trans (b6.mono (by simp)))
  have B6 := hid (B1.out.trans (BV.out.mono B1.out.size))
  obtain ⟨y0, y1, y2, y3, y4, y5⟩ := HX.out w6 BV.out
  have HQ := hid (HPU.out w6 B6.out x.e)
  rw [h4] at HQ
  clear b6 HC h4
  go_wp2_with fail
  refine HQ.out.mono ?_
  rintro e w7 ⟨rfl, b7⟩
  have BW := hid (BV.out.trans (b7.mono BV.out.size))
  have B7 := hid (B6.out.trans (b7.mono B6.out.size))
  obtain ⟨z0, z1, z2, z3, z4, z5⟩ := HX.out w7 BW.out
  have HQ2 := hid (HPU.out w7 B7.out x.s)
  rw [← HE.out] at HQ2
  clear b7 HQ
  go_wp2_with fail
  refine HQ2.out.mono ?_
  rintro e w8 ⟨rfl, b8⟩
  have B8 := hid (B7.out.trans (b8.mono B7.out.size))
  clear b8 HQ2
  go_wp2_with fail
  go_ret
  exact ⟨rfl, B8.out⟩
end
end Go.Proofs.YtpkijlmkgomfeaaGreatDoor

/- the document's arena beside the law's: calls that take a step. -/
namespace Go.Proofs.YtpkijlmkgomfeaaGreatDoor
open Go.RowKit Go.KK Go.Shelf Go.Maps
set_option linter.unusedVariables false
set_option linter.unusedSimpArgs false

/-- The document's arena, and what the call has left alone. -/
structure LQ (w0 W : World) (Z : Nat → Prop) (sb : Nat) (ys : List ND) : Prop where
  ar : AQ W Z sb ys
  z : ∀ b, Z b → w0.heap.size ≤ b
  bl : Below w0.heap.size w0 W
section
variable {w0 W W' : World} {Z Z' Z2 : Nat → Prop} {sa sb : Nat} {xs xs' ys ys' : List ND}
theorem LQ.mv (h : LQ w0 W Z sb ys) (m : Mv Z W Z' W') (ha : AQ W' Z' sb ys') : LQ w0 W' Z' sb ys' :=
  ⟨ha, fun b hb => (m.n b hb).elim (h.z b) fun h' => Nat.le_trans h.bl.size h', h.bl.trans (m.t.below h.z h.bl.size)⟩
theorem LQ.ext (h : LQ w0 W Z sb ys) (hb : Below W.heap.size W W') : LQ w0 W' Z sb ys := h.mv (.below hb) (h.ar.ext hb)
theorem LQ.alloc (h : LQ w0 W Z sb ys) (o : Obj) : LQ w0 (W.alloc o) Z sb ys := h.ext ((Below.refl _ _).alloc (Nat.le_refl _) o)
theorem LQ.sz (h : LQ w0 W Z sb ys) : w0.heap.size ≤ W.heap.size := h.bl.size
/-- Both arenas, side by side: the law's holds these nodes, the document's those. -/
structure Tx (w0 W : World) (sa sb : Nat) (Z Z' : Nat → Prop) (xs ys : List ND) : Prop where
  a : LA w0 W Z sa xs
  b : LQ w0 W Z' sb ys
  d : ∀ b, Z b → ¬ Z' b
theorem Tx.of {xs : List ND} (h : Tw w0 W sa sb Z Z' xs) : Tx w0 W sa sb Z Z' xs xs := ⟨⟨h.a, h.za, h.bl⟩, ⟨h.b, h.zb, h.bl⟩, h.d⟩
/-- The law's arena took a step. -/
theorem Tx.onA (h : Tx w0 W sa sb Z Z' xs ys) (la : LA w0 W' Z2 sa xs') (m : Mv Z W Z2 W') : Tx w0 W' sa sb Z2 Z' xs' ys :=
  ⟨la, ⟨h.b.ar.turn m.t fun b hb k => h.d b k hb, h.b.z, la.bl⟩, fun b hb hb' => by
    rcases m.n b hb with k | k
    · exact h.d b k hb'
    · have := h.b.ar.zlt b hb'; omega⟩
/-- The document's arena took a step. -/
theorem Tx.onB (h : Tx w0 W sa sb Z Z' xs ys) (lq : LQ w0 W' Z2 sb ys') (m : Mv Z' W Z2 W') : Tx w0 W' sa sb Z Z2 xs ys' :=
  ⟨⟨AR.turn h.a.ar m.t fun b hb k => h.d b hb k, h.a.z, lq.bl⟩, lq, fun b hb hb' => by
    rcases m.n b hb' with k | k
    · exact h.d b hb k
    · have := h.a.ar.zlt b hb; omega⟩
theorem Tx.ext (h : Tx w0 W sa sb Z Z' xs ys) (hb : Below W.heap.size W W') : Tx w0 W' sa sb Z Z' xs ys := ⟨h.a.ext hb, h.b.ext hb, h.d⟩
theorem Tx.alloc (h : Tx w0 W sa sb Z Z' xs ys) (o : Obj) : Tx w0 (W.alloc o) sa sb Z Z' xs ys := h.ext ((Below.refl _ _).alloc (Nat.le_refl _) o)
/-- A call of the document's that takes a step. -/
def LrQ (w0 W : World) (Z : Nat → Prop) (sb : Nat) (r : Rs) (e : Ending) (w' : World) : Prop := ∃ Z', e = .returned (.tuple #[.int .i64 r.2.1, .int .i64 r.2.2]) ∧ LQ w0 w' Z' sb r.1 ∧ Mv Z W Z' w'
theorem q_mke (h : LQ w0 W Z sb ys) {x : ND} {A : Option Addr} {c : Nat} (hl : SlA W 1 A x.l.length c (x.l.map (.int .i64))) (hx : NdI x) :
    Calls Tryz.prog 69 #[.pointer (some ⟨sb, 0, none⟩), .agg #[.int .i64 x.o, .int .i64 x.n, .string x.s, .slice A x.l.length c]] W (LrQ w0 W Z sb (mk ys x)) := by
  refine (rmke_any Z sb ys W x A c h.ar hl hx).mono ?_
  rintro e w' ⟨rfl, Z', h1, h2, h3⟩
  exact ⟨Z', rfl, h.mv ⟨h2, h3⟩ h1, ⟨h2, h3⟩⟩
theorem q_of (h : LQ w0 W Z sb ys) {o : Int} {A : Option Addr} {n c : Nat} {l : List Int} (hl : SlA W 1 A n c (l.map (.int .i64))) (ho : I64 o) (hi : ∀ i ∈ l, I64 i) :
    Calls Tryz.prog 36 #[.pointer (some ⟨sb, 0, none⟩), .int .i64 o, .slice A n c] W (LrQ w0 W Z sb (mk ys (ndN o l))) := by
  have e := hl.lenI
  subst e
  have HM := hid (q_mke h (x := ndN o l) hl (ndI_nd ho hi))
  clear h hl
  go_enter Tryz.func36, Tryz.ntmps36
  go_wp2_with fail
  refine HM.out.mono ?_
  rintro e w' ⟨Z', rfl, h1, h2⟩
  have H1 := hid h1; have H2 := hid h2
  clear h1 h2
  go_wp2_with fail
  go_ret2
  exact ⟨Z', rfl, H1.out, H2.out⟩
end
end Go.Proofs.YtpkijlmkgomfeaaGreatDoor

