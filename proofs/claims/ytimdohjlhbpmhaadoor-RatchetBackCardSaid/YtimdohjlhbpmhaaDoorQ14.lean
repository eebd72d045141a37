/- Add, Remove, Update, New: both ways, one answer each; spoil. -/
import Derived.Test.YtimdohjlhbpmhaaDoorQ10
import Derived.Test.YtimdohjlhbpmhaaDoorQ13
import Derived.Test.YtimdohjlhbpmhaaDoorL1
namespace Go.Proofs.YtimdohjlhbpmhaaDoor
open Go.RowKit Go.KK Go.Shelf
set_option linter.unusedVariables false
set_option linter.unusedSimpArgs false

/-- Lists no longer than that. -/
def ShB (B : Nat) (xs : List TN) : Prop := ∀ (j : Nat) x, xs[j]? = some x → x.u.length ≤ B
theorem ShB.mono {B B' : Nat} {xs : List TN} (h : ShB B xs) (hb : B ≤ B') : ShB B' xs := fun j x hx => Nat.le_trans (h j x hx) hb
theorem ShB.shorts {B : Nat} {xs : List TN} (h : ShB B xs) (hb : B ≤ 2147483648) : Shorts xs := fun j x hx => Nat.le_trans (h j x hx) hb
theorem ShB.set {B : Nat} {xs : List TN} (h : ShB B xs) (j : Nat) {y : TN} (hy : y.u.length ≤ B) : ShB B (xs.set j y) := by
  intro k x hx
  rcases set_get hx with ⟨rfl, rfl⟩ | ⟨_, hx'⟩
  · exact hy
  · exact h k x hx'
theorem ShB.all {f : TN → TN} (hf : ∀ x : TN, (f x).u.length ≤ x.u.length + 1) : ∀ (l : List Int) (xs : List TN) (B : Nat), ShB B xs → ShB (B + l.length) (updAll f xs l)
  | [], _, _, h => h
  | y :: l, xs, B, h => by
    have h1 : ShB (B + 1) (upd f xs y.toNat) := by
      intro k x hx
      rcases upd_get hx with ⟨_, z, hz, rfl⟩ | ⟨_, hx'⟩
      · have := h _ _ hz; have := hf z; omega
      · have := h _ _ hx'; omega
    have := ShB.all hf l _ _ h1
    rw [updAll]
    exact this.mono (by simp; omega)
theorem addN_len (i : Int) (x : TN) : (addN i x).u.length ≤ x.u.length + 1 := by
  unfold addN
  split
  · show (insL _ _ _).length ≤ _
    rw [insL_len _ _ _ (lessN_le _ _)]
    exact Nat.le_refl _
  · omega
theorem grow_sh {B : Nat} {xs : List TN} (h : ShB B xs) (f : Nat) : ShB B (growL xs f) := by
  unfold growL
  split
  · intro j x hx
    by_cases hj : j < xs.length
    · rw [List.getElem?_append_left hj] at hx; exact h j x hx
    · rw [List.getElem?_append_right (by omega), List.getElem?_replicate] at hx
      split at hx
      · injection hx with hx; subst hx; simp [zeroN]
      · cases hx
  · exact h
theorem addL_sh {B : Nat} {xs : List TN} {l : TN} (h : ShB B xs) (hl : l.u.length ≤ B) : ShB (B + 9) (addL xs l) := by
  unfold addL
  exact (ShB.all (addN_len _) _ _ _ ((grow_sh h _).set _ hl)).mono (by have := pathL_le (2 * (freeN xs : Int)) (lvN (growL xs (freeN xs)).length); omega)
theorem addL_le (xs : List TN) (l : TN) : (addL xs l).length ≤ xs.length + 2 * lvN xs.length := by
  unfold addL
  rw [updAll_len, List.length_set]
  unfold growL
  split
  · rename_i h; simp; omega
  · omega
theorem chgL_sh {B : Nat} {xs : List TN} {i : Int} {l : TN} (h : ShB B xs) (hl : l.u.length ≤ B) : ShB (B + 9) (chgL xs i l) := by
  unfold chgL
  exact (ShB.all (fun x => by simp [blankN, zeroN]) _ _ _ (h.set _ hl)).mono (by have := pathL_le (2 * i) (lvN xs.length); omega)
theorem cut_take : ∀ (f : Nat) (zs ys : List TN), cutF f zs = some ys → ∃ p, ys = zs.take p
  | 0, _, _, h => by cases h
  | f + 1, zs, ys, h => by
    rw [cutF] at h
    split at h
    · split at h
      · cases h
      · obtain ⟨p, rfl⟩ := cut_take f _ _ h
        exact ⟨min p (zs.length / 2), List.take_take⟩
    · injection h with h
      exact ⟨zs.length, by rw [← h, List.take_length]⟩
theorem ShB.take {B : Nat} {xs : List TN} (h : ShB B xs) (p : Nat) : ShB B (xs.take p) := by
  intro j x hx
  rw [List.getElem?_take] at hx
  split at hx
  · exact h j x hx
  · cases hx
theorem remO_sh {B : Nat} {xs ys : List TN} {i : Int} (h : ShB B xs) (he : remO xs i = some ys) : ShB (B + 9) ys ∧ ys.length ≤ xs.length := by
  obtain ⟨p, rfl⟩ := cut_take _ _ _ he
  have h1 := chgL_sh (i := i) (l := zeroN) h (by simp [zeroN])
  refine ⟨h1.take p, ?_⟩
  have := chgL_len xs i zeroN
  rw [List.length_take]; omega
theorem sameN_self (x : TN) : sameN x x = true := by unfold sameN; simp
theorem sameT_self : ∀ xs : List TN, sameT xs xs = true
  | [] => rfl
  | x :: xs => by rw [sameT, sameN_self, sameT_self xs]; rfl

/-- A tree that the caller may spoil. -/
def OwnT (w : World) (base : Nat) (v : Value) (ys : List TN) : Prop := (ys = [] ∧ v = .slice none 0 0) ∨ ∃ g cap qs, v = .slice (some ⟨g, 0, none⟩) ys.length cap ∧ TrW w base g cap ys qs
theorem OwnT.shape {w : World} {base : Nat} {v : Value} {ys : List TN} (h : OwnT w base v ys) : ∃ A c, v = .slice A ys.length c ∧ Tr w A ys.length c ys := by
  rcases h with ⟨rfl, rfl⟩ | ⟨g, cap, qs, rfl, ht⟩
  · exact ⟨none, 0, rfl, Tr.nil _⟩
  · exact ⟨_, _, rfl, ht.tr⟩
theorem OwnT.ext {w w' : World} {base : Nat} {v : Value} {ys : List TN} (h : OwnT w base v ys) (hb : Below w.heap.size w w') : OwnT w' base v ys := by
  rcases h with h | ⟨g, cap, qs, rfl, ht⟩
  · exact .inl h
  · exact .inr ⟨g, cap, qs, rfl, ht.ext hb⟩
theorem OwnT.mono {w : World} {base base' : Nat} {v : Value} {ys : List TN} (h : OwnT w base v ys) (hb : base' ≤ base) : OwnT w base' v ys := by
  rcases h with h | ⟨g, cap, qs, rfl, ht⟩
  · exact .inl h
  · exact .inr ⟨g, cap, qs, rfl, ht.mono hb⟩

def isLf (l : TN) : Bool := l.k == 1 && (l.u.length : Int) == 0
def addOk (xs : List TN) (l : TN) : Bool := chkB xs && isLf l
def addT (xs : List TN) (l : TN) : List TN := if addOk xs l then addL xs l else []
def addI (xs : List TN) (l : TN) : Int := if addOk xs l then freeN xs else 0
def addE (xs : List TN) (l : TN) : Int := if addOk xs l then 0 else 1
def AddS (w : World) (xs : List TN) (l : TN) (r : Ending) (w' : World) : Prop :=
  ∃ v, r = .returned (.tuple #[v, .int .i64 (addI xs l), .int .i64 (addE xs l)]) ∧ OwnT w' w.heap.size v (addT xs l) ∧ Below w.heap.size w w'
theorem addS_no {w w' : World} {xs : List TN} {l : TN} {r : Ending} (h : addOk xs l = false) (hr : r = .returned (.tuple #[.slice none 0 0, .int .i64 0, .int .i64 1])) (hb : Below w.heap.size w w') : AddS w xs l r w' := by
  unfold AddS addI addE addT
  rw [h]
  exact ⟨_, hr, .inl ⟨rfl, rfl⟩, hb⟩
theorem addS_go {w w' : World} {xs : List TN} {l : TN} {r : Ending} (h : addOk xs l = true) (hn : xs.length ≤ 140) (hr : AddP w xs l r w') : AddS w xs l r w' := by
  unfold AddS addI addE addT
  rw [h]
  obtain ⟨g, cap, qs, e, ht, hb⟩ := addP_ok hr (by unfold lvN; omega)
  exact ⟨_, e, .inr ⟨g, cap, qs, rfl, ht⟩, hb⟩
theorem leaf_cases {l : TN} (h : isLf l = true) : ∃ i e s h, l = ⟨1, i, e, s, h, []⟩ := by
  unfold isLf at h
  simp only [Bool.and_eq_true, beq_iff_eq] at h
  obtain ⟨k, i, e, s, h', u⟩ := l
  obtain ⟨hk, hul⟩ := h
  simp only at hk hul
  have hu0 : u = [] := List.eq_nil_of_length_eq_zero (by omega)
  subst hu0; subst hk
  exact ⟨i, e, s, h', rfl⟩
theorem few_sh {xs : List TN} (h : fewT xs = true) : ShB 70 xs := by
  unfold fewT at h
  simp only [Bool.and_eq_true, decide_eq_true_eq, List.all_eq_true] at h
  exact fun j x hx => h.2 x (List.mem_of_getElem? hx)
theorem chk_some {w : World} {A : Option Addr} {n c : Nat} {xs : List TN} (ht : Tr w A n c xs) (hc : chkB xs = true) : ∃ b o, A = some ⟨b, o, none⟩ := by
  have hn := ht.len
  have h1 := fullN_le (chk_full hc).1
  have h2 := (chk_full hc).2.1
  obtain ⟨b0, o0, _, _, _, hA, _⟩ := ht.at (j := 0) (by omega)
  exact ⟨b0, o0, hA⟩
theorem add_any (A : Option Addr) (n c : Nat) (xs : List TN) (l : TN) (B : Option Addr) (d : Nat) (w : World) (ht : Tr w A n c xs) (hf : fewT xs = true) (hT : Tab w) (hd : d ≤ maxLen) :
    Calls Tryd.prog 11 #[.slice A n c, .agg #[.int .i64 l.k, .int .i64 l.i, .int .i64 l.e, .int .i64 l.s, .int .i64 l.h, .slice B l.u.length d]] w (AddS w xs l) := by
  obtain ⟨s1, a1, o1, hx⟩ := few_shorts hf
  have hn : n ≤ 600 := by have := ht.len; omega
  rcases hc : chkB xs with _ | _
  · refine (add_no1 A n c xs (.int .i64 0) l.k l.i l.e l.s l.h B l.u.length d w ht hn hT s1 hc).mono fun r w' h => addS_no (by unfold addOk; rw [hc]; rfl) h.1 h.2
  · rcases hl : isLf l with _ | _
    · exact (add_no2 A n c xs l.k l.i l.e l.s l.h B l.u.length d w ht hn hT s1 hc hl).mono fun r w' h => addS_no (by unfold addOk; rw [hc, hl]; rfl) h.1 h.2
    · obtain ⟨i, e, s, h, rfl⟩ := leaf_cases hl
      obtain ⟨b, o, rfl⟩ := chk_some ht hc
      exact (add_go b o n c xs i e s h B d w ht hn hT s1 (a1 hc) (o1 hc) hc hd).mono fun r w' h => addS_go (by unfold addOk; rw [hc, hl]; rfl) hx h
theorem radd_any (A : Option Addr) (n c : Nat) (xs : List TN) (l : TN) (B : Option Addr) (d : Nat) (w : World) (ht : Tr w A n c xs) (hf : fewT xs = true) (hw : WfT xs) (hd : d ≤ maxLen) :
    Calls Tryd.prog 12 #[.slice A n c, .agg #[.int .i64 l.k, .int .i64 l.i, .int .i64 l.e, .int .i64 l.s, .int .i64 l.h, .slice B l.u.length d]] w (AddS w xs l) := by
  obtain ⟨s1, a1, o1, hx⟩ := few_shorts hf
  have hn : n ≤ 600 := by have := ht.len; omega
  rcases hc : chkB xs with _ | _
  · refine (radd_no1 A n c xs l.k l.i l.e l.s l.h B l.u.length d w ht hn s1 hw hc).mono fun r w' h => addS_no (by unfold addOk; rw [hc]; rfl) h.1 h.2
  · rcases hl : isLf l with _ | _
    · exact (radd_no2 A n c xs l.k l.i l.e l.s l.h B l.u.length d w ht hn s1 hw hc hl).mono fun r w' h => addS_no (by unfold addOk; rw [hc, hl]; rfl) h.1 h.2
    · obtain ⟨i, e, s, h, rfl⟩ := leaf_cases hl
      obtain ⟨b, o, rfl⟩ := chk_some ht hc
      exact (radd_go b o n c xs i e s h B d w ht hn s1 hw (a1 hc) (chk_asc hc (fun j x hx => Nat.le_trans (few_sh hf j x hx) (by omega))) hc hd).mono fun r w' h => addS_go (by unfold addOk; rw [hc, hl]; rfl) hx h
theorem addT_ok {xs : List TN} {l : TN} (hf : fewT xs = true) : (addT xs l).length ≤ 600 ∧ Shorts (addT xs l) := by
  have hx := (few_shorts hf).2.2.2
  unfold addT
  split
  · rename_i h
    have hl : l.u.length ≤ 70 := by
      unfold addOk isLf at h
      simp only [Bool.and_eq_true, beq_iff_eq] at h
      omega
    have := addL_le xs l
    refine ⟨by unfold lvN at this; omega, (addL_sh (few_sh hf) hl).shorts (by omega)⟩
  · exact ⟨by simp, fun j x hx => by simp at hx⟩
def newT (l : TN) : List TN := if isLf l then [l] else []
def newE (l : TN) : Int := if isLf l then 0 else 1
def NewS (w : World) (l : TN) (r : Ending) (w' : World) : Prop :=
  ∃ v, r = .returned (.tuple #[v, .int .i64 (newE l)]) ∧ OwnT w' w.heap.size v (newT l) ∧ Below w.heap.size w w'
theorem newS_of {w w' : World} {l : TN} {r : Ending} (h : NewP w l r w') : NewS w l r w' := by
  unfold NewS newT newE isLf
  obtain ⟨hb, ⟨h1, h2⟩ | ⟨h1, g, cap, qs, h2, h3⟩⟩ := h
  · rw [h1]; exact ⟨_, h2, .inl ⟨rfl, rfl⟩, hb⟩
  · rw [h1]; exact ⟨_, h2, .inr ⟨g, cap, qs, rfl, h3⟩, hb⟩
theorem newT_ok (l : TN) (h : l.u.length ≤ 20) : (newT l).length ≤ 600 ∧ Shorts (newT l) := by
  unfold newT
  split
  · refine ⟨by simp, fun j x hx => ?_⟩
    rcases j with _ | j
    · injection hx with hx; subst hx; omega
    · simp at hx
  · exact ⟨by simp, fun j x hx => by simp at hx⟩
def remOk (xs : List TN) (i : Int) : Option (List TN) := if chkB xs && pres xs i then remO xs i else none
def remT (xs : List TN) (i : Int) : List TN := (remOk xs i).getD []
def remE (xs : List TN) (i : Int) : Int := if chkB xs then (if pres xs i then (if (remO xs i).isSome then 0 else 1) else 4) else 1
def RemS (w : World) (xs : List TN) (i : Int) (r : Ending) (w' : World) : Prop :=
  ∃ v, r = .returned (.tuple #[v, .int .i64 (remE xs i)]) ∧ OwnT w' w.heap.size v (remT xs i) ∧ Below w.heap.size w w'
theorem remS_of {w w' : World} {xs : List TN} {i : Int} {r : Ending} (h : RemP w xs i r w') : RemS w xs i r w' := by
  unfold RemS remT remE remOk
  obtain ⟨hb, ⟨a, e⟩ | ⟨a, b, e⟩ | ⟨a, b, o, e⟩ | ⟨a, b, ys, o, g, cap, qs, e, ht⟩⟩ := h
  · rw [a]; exact ⟨_, e, .inl ⟨rfl, rfl⟩, hb⟩
  · rw [a, b]; exact ⟨_, e, .inl ⟨rfl, rfl⟩, hb⟩
  · rw [a, b, o]; exact ⟨_, e, .inl ⟨rfl, rfl⟩, hb⟩
  · rw [a, b, o]; exact ⟨_, e, .inr ⟨g, cap, qs, rfl, ht⟩, hb⟩
theorem remT_ok {xs : List TN} {i : Int} (hf : fewT xs = true) : (remT xs i).length ≤ 600 ∧ Shorts (remT xs i) := by
  have hx := (few_shorts hf).2.2.2
  unfold remT remOk
  split
  · rcases ho : remO xs i with _ | ys
    · exact ⟨by simp, fun j x hx => by simp at hx⟩
    · obtain ⟨h1, h2⟩ := remO_sh (few_sh hf) ho
      exact ⟨by simp; omega, h1.shorts (by omega)⟩
  · exact ⟨by simp, fun j x hx => by simp at hx⟩
def updT (xs : List TN) (i : Int) (l : TN) : List TN := if isLf l && (chkB xs && pres xs i) then chgL xs i l else []
def updE (xs : List TN) (i : Int) (l : TN) : Int := if isLf l then (if chkB xs then (if pres xs i then 0 else 4) else 1) else 1
def UpdS (w : World) (xs : List TN) (i : Int) (l : TN) (r : Ending) (w' : World) : Prop :=
  ∃ v, r = .returned (.tuple #[v, .int .i64 (updE xs i l)]) ∧ OwnT w' w.heap.size v (updT xs i l) ∧ Below w.heap.size w w'
theorem updS_of {w w' : World} {xs : List TN} {i : Int} {l : TN} {r : Ending} (h : UpdP w xs i l r w') : UpdS w xs i l r w' := by
  unfold UpdS updT updE isLf
  rcases h with ⟨hl, e, hb⟩ | ⟨hl, hb, ⟨a, e⟩ | ⟨a, b, e⟩ | ⟨a, b, g, cap, qs, e, ht⟩⟩
  · rw [hl]; exact ⟨_, e, .inl ⟨rfl, rfl⟩, hb⟩
  · rw [hl, a]; exact ⟨_, e, .inl ⟨rfl, rfl⟩, hb⟩
  · rw [hl, a, b]; exact ⟨_, e, .inl ⟨rfl, rfl⟩, hb⟩
  · rw [hl, a, b]; exact ⟨_, e, .inr ⟨g, cap, qs, by rw [← chgL_len xs i l]; rfl, ht⟩, hb⟩
theorem updT_ok {xs : List TN} {i : Int} {l : TN} (hf : fewT xs = true) : (updT xs i l).length ≤ 600 ∧ Shorts (updT xs i l) := by
  have hx := (few_shorts hf).2.2.2
  unfold updT
  split
  · rename_i h
    have hl : l.u.length ≤ 70 := by
      unfold isLf at h
      simp only [Bool.and_eq_true, beq_iff_eq] at h
      omega
    exact ⟨by rw [chgL_len]; omega, (chgL_sh (few_sh hf) hl).shorts (by omega)⟩
  · exact ⟨by simp, fun j x hx => by simp at hx⟩
set_option maxHeartbeats 1000000 in
theorem spoil_any (v : Value) (base : Nat) (ys : List TN) (w : World) (h : OwnT w base v ys) (hn : ys.length ≤ 600) :
    Calls Tryd.prog 14 #[v] w fun e w' => e = .returned (.tuple #[]) ∧ Below base w w' := by
  rcases h with ⟨rfl, rfl⟩ | ⟨g, cap, qs, rfl, ht⟩
  · go_enter Tryd.func14, Tryd.ntmps14
    go_wp2
    go_loopw [5] (fun i wr => i = .int .i64 0 ∧ wr = w) (fun i _ => 0)
    case atStart => exact ⟨rfl, rfl⟩
    case round =>
      obtain ⟨hi, hwr⟩ := hrel
      subst hi; subst hwr
      go_wp2
      go_end0
      exact ⟨rfl, Below.refl _ _⟩
  · have hrow := ht.row
    have HL := hid (ncs_len ht.ql)
    have hgb := ht.lt.1
    generalize ncs ys qs = L0 at *
    have HR := hid hrow
    clear ht hrow
    generalize ys.length = n at *
    go_enter Tryd.func14, Tryd.ntmps14
    go_wp2
    go_loopw [5] (fun i wr => ∃ (j : Nat) (L : List Value), i = .int .i64 j ∧ j ≤ n ∧ Hid (L.length = n * 6) ∧ wr.ownsRow base 25 6 (.slice (some ⟨g, 0, none⟩) n cap) n L ∧ Below base w wr) (fun i _ => n - (intOf i).toNat)
    case atStart => exact ⟨0, L0, rfl, by omega, hid (by have := HL.out; omega), HR.out, Below.refl _ _⟩
    case round =>
      obtain ⟨j, L, hi, hj, HLL, hrow, hbr⟩ := hrel
      subst hi
      have HRow := hid hrow; have HB := hid hbr
      clear hrow hbr
      by_cases hlt : j < n
      · have h0 : j * 6 < L.length := by have := HLL.out; omega
        have h1 : j * 6 + 1 < L.length := by have := HLL.out; omega
        have c0 := (HRow.out.cellAt (j * 6) (by omega)).trans (List.getElem?_eq_getElem h0)
        have c1 := (HRow.out.cellAt (j * 6 + 1) (by omega)).trans (List.getElem?_eq_getElem h1)
        have f0 := HRow.out.frozenAt (j * 6)
        have f1 := HRow.out.frozenAt (j * 6 + 1)
        generalize L[j * 6] = u0 at c0
        generalize L[j * 6 + 1] = u1 at c1
        clear h0 h1
        go_wp2
        go_roundw
        case rel =>
          have r1 := (HRow.out.stored (j * 6 + 1) (.int .i64 99)).1
          have r2 := (r1.stored (j * 6) (.int .i64 2)).1
          exact ⟨j + 1, _, by go_num, by omega, hid (by simp; exact HLL.out), r2, (HB.out.setCell hgb _).setCell hgb _⟩
        case measure => simp [intOf]; omega
      · go_wp2
        go_end0
        exact ⟨rfl, HB.out⟩
end Go.Proofs.YtimdohjlhbpmhaaDoor
