/- What a record is read as; what is read is written so. Plain. -/
import Derived.Test.YtdleikgcgbokmaaB7
namespace Go.Proofs.Ytdleikgcgbokmaa
open Go.RowKit Go.KK
set_option linter.unusedVariables false
set_option linter.unusedSimpArgs false

theorem rds_body : ∀ (l : List Int), (∀ x ∈ l, 0 ≤ x ∧ x ≤ 1073741823) → ∀ (k : Nat) (x pre r : List Int), rds k x = some (pre, body l ++ r) → rds (k + l.length) x = some (pre ++ l, r)
  | [], _, k, x, pre, r, h => by simpa [body] using h
  | y :: l, hl, k, x, pre, r, h => by
    obtain ⟨y0, y1⟩ := hl y (by simp)
    rw [body_cons, List.append_assoc] at h
    have h1 : rds (k + 1) x = some (pre ++ [y], body l ++ r) := by
      rw [rds_succ h, tint_enc y y0 y1]
      simp
    have := rds_body l (fun z hz => hl z (by simp [hz])) (k + 1) x (pre ++ [y]) r h1
    rw [List.length_cons, show k + (l.length + 1) = k + 1 + l.length by omega, this]
    simp
theorem reqAt_rcd {l : List Int} (h7 : l.length = 7) (h : mayR l = true) (r : List Int) : reqAt (rcd l ++ r) = some (l, (rcd l).length) := by
  have hb := body_le l
  have ht : tint (rcd l ++ r) = (((body l).length : Int), (enc ((body l).length : Int)).length, 0) := by
    unfold rcd
    rw [List.append_assoc]
    exact tint_enc _ (by omega) (by omega) _
  have htb : tbytes (rcd l ++ r) = (body l, (rcd l).length, 0) := by
    unfold tbytes
    rw [ht]
    have hn : ¬ (((rcd l ++ r).length : Int) - (enc ((body l).length : Int)).length < (body l).length) := by
      unfold rcd; simp only [List.length_append]; omega
    simp only [ne_eq, not_true_eq_false, if_false, hn, Int.toNat_natCast]
    unfold rcd
    rw [List.append_assoc, List.drop_left, List.take_left, List.length_append]
  have hr : rds 7 (body l) = some (l, []) := by
    have := rds_body l (mayR_in h) 0 (body l) [] [] (by simp [rds])
    rw [h7] at this
    simpa using this
  unfold reqAt
  rw [htb]
  simp only [ne_eq, not_true_eq_false, if_false, hr]
  have hg : 1 ≤ l.headD 0 ∧ l.headD 0 ≤ 6 := by
    unfold mayR at h
    rw [Bool.and_eq_true] at h
    exact of_decide_eq_true h.1
  rw [if_pos hg]
theorem reqAt_nil : reqAt [] = none := by rfl
theorem tape_two {l k : List Int} (h7 : l.length = 7) (hl : mayR l = true) (k7 : k.length = 7) (hk : mayR k = true) : Tape (rcd l ++ rcd k) [l, k] ((rcd l).length + (rcd k).length) := by
  have h1 : rdq 1 (rcd l ++ rcd k) = some ([l], (rcd l).length) := by
    rw [show (1 : Nat) = 0 + 1 from rfl, rdq_succ (show rdq 0 (rcd l ++ rcd k) = some ([], 0) from rfl), List.drop_zero, reqAt_rcd h7 hl]; simp
  have h2 : rdq 2 (rcd l ++ rcd k) = some ([l, k], (rcd l).length + (rcd k).length) := by
    rw [rdq_succ h1, List.drop_left]
    have := reqAt_rcd k7 hk []
    rw [List.append_nil] at this
    rw [this]; rfl
  refine ⟨2, h2, ?_⟩
  rw [List.drop_of_length_le (by simp)]
  exact reqAt_nil
theorem tape_cut {l : List Int} (h7 : l.length = 7) : Tape ((rcd l).take ((rcd l).length - 1)) [] 0 := by
  refine ⟨0, rfl, ?_⟩
  rw [List.drop_zero]
  have hb := body_le l
  have he : ∀ n : Int, n < 64 → enc n = [n] := fun n h => by unfold enc; rw [if_pos h]
  have h28 : (body l).length < 64 := by omega
  have hr : rcd l = ((body l).length : Int) :: body l := by unfold rcd; rw [he _ (by omega)]; rfl
  rcases hbl : body l with _ | ⟨x, m⟩
  · rw [hr, hbl]; rfl
  · have h2 : (rcd l).take ((rcd l).length - 1) = ((body l).length : Int) :: (body l).take ((body l).length - 1) := by
      rw [hr]
      simp only [List.length_cons, Nat.add_sub_cancel]
      rw [hbl]
      simp
    rw [h2]
    have ht : tint (((body l).length : Int) :: (body l).take ((body l).length - 1)) = (((body l).length : Int), 1, 0) := by
      show (if ((body l).length : Int) < 64 then _ else _) = _
      rw [if_pos (by omega)]
    unfold reqAt tbytes
    rw [ht]
    have hlt : ((((body l).length : Int) :: (body l).take ((body l).length - 1)).length : Int) - ((1 : Nat) : Int) < (body l).length := by
      rw [hbl]
      simp only [List.length_cons, List.length_take]
      omega
    simp only [ne_eq, not_true_eq_false, if_false, hlt, if_true]
    rfl

theorem tint_back (b : List Int) (hb : ∀ x ∈ b, 0 ≤ x ∧ x < 256) (h : (tint b).2.2 = 0) : 0 ≤ (tint b).1 ∧ (tint b).1 ≤ 1073741823 ∧ enc (tint b).1 ++ b.drop (tint b).2.1 = b := by
  rcases tint_facts b hb with ⟨_, h2, h3, h4, h5, h6, h7⟩ | ⟨h1, _, _⟩
  · exact ⟨h5, by omega, by rw [h7]; exact List.take_append_drop _ _⟩
  · omega
theorem rds_back : ∀ (k : Nat) (x l r : List Int), (∀ y ∈ x, 0 ≤ y ∧ y < 256) → rds k x = some (l, r) → body l ++ r = x ∧ ∀ y ∈ l, 0 ≤ y ∧ y ≤ 1073741823
  | 0, x, l, r, _, h => by
    simp [rds] at h
    obtain ⟨rfl, rfl⟩ := h
    simp [body]
  | k+1, x, l, r, hx, h => by
    rcases hr : rds k x with _ | ⟨l', b⟩
    · rw [rds, hr] at h; cases h
    · rw [rds_succ hr] at h
      obtain ⟨h1, h2⟩ := rds_back k x l' b hx hr
      have hb : ∀ y ∈ b, 0 ≤ y ∧ y < 256 := fun y hy => hx y (rds_mem k x l' b hr y hy)
      split at h
      · rename_i h0
        simp only [Option.some.injEq, Prod.mk.injEq] at h
        obtain ⟨rfl, rfl⟩ := h
        obtain ⟨t1, t2, t3⟩ := tint_back b hb h0
        refine ⟨?_, ?_⟩
        · rw [body_snoc, List.append_assoc, t3, h1]
        · intro y hy
          rcases List.mem_append.1 hy with hy | hy
          · exact h2 y hy
          · simp at hy; rw [hy]; exact ⟨t1, t2⟩
      · cases h
theorem reqAt_back {t l : List Int} {n : Nat} (ht : ∀ x ∈ t, 0 ≤ x ∧ x < 256) (h : reqAt t = some (l, n)) : mayR l = true ∧ rcd l = t.take n := by
  obtain ⟨h7, h1, h2, h3, h4, h5, h6, h0⟩ := reqAt_facts t ht h
  rcases tint_facts t ht with ⟨i1, i2, i3, i4, i5, i6, i7⟩ | ⟨i1, _, _⟩
  · have hb : tbytes t = ((t.drop (tint t).2.1).take (tint t).1.toNat, (tint t).2.1 + (tint t).1.toNat, 0) ∧ ((tint t).1.toNat : Int) ≤ t.length - (tint t).2.1 := by
      unfold tbytes at h0 ⊢
      rw [if_neg (by omega)] at h0 ⊢
      split at h0
      · cases h0
      · rename_i hlt
        rw [if_neg hlt]
        exact ⟨rfl, by omega⟩
    obtain ⟨hb, hle⟩ := hb
    rw [hb] at h5 h6
    dsimp only at h5 h6
    obtain ⟨r1, r2⟩ := rds_back 7 _ l [] (fun y hy => ht y (List.mem_of_mem_drop (List.mem_of_mem_take hy))) h5
    rw [List.append_nil] at r1
    have hlen : ((body l).length : Int) = (tint t).1 := by
      rw [r1, List.length_take, List.length_drop]; omega
    refine ⟨?_, ?_⟩
    · unfold mayR
      rw [Bool.and_eq_true]
      exact ⟨decide_eq_true ⟨h3, h4⟩, List.all_eq_true.2 fun x hx => by have := r2 x hx; simpa [inR] using this⟩
    · unfold rcd
      rw [hlen, i7, r1, h6, List.take_add]
  · exfalso
    unfold tbytes at h0
    rw [if_pos (by omega)] at h0
    dsimp only at h0
    omega
/-- The first j records. -/
def catR (ls : List (List Int)) (j : Nat) : List Int := ((ls.take j).map rcd).flatten
theorem catR_succ {ls : List (List Int)} {j : Nat} {l : List Int} (h : ls[j]? = some l) : catR ls (j + 1) = catR ls j ++ rcd l := by
  unfold catR; rw [take_snoc h]; simp
theorem catR_le (ls : List (List Int)) (j : Nat) : (catR ls j).length ≤ (catR ls ls.length).length := by
  unfold catR
  rw [List.take_of_length_le (Nat.le_refl _)]
  have h : (ls.map rcd).flatten = ((ls.take j).map rcd).flatten ++ ((ls.drop j).map rcd).flatten := by
    rw [← List.flatten_append, ← List.map_append, List.take_append_drop]
  rw [h, List.length_append]
  omega
theorem rdq_back : ∀ (j : Nat) (t : List Int), (∀ x ∈ t, 0 ≤ x ∧ x < 256) → ∀ ls p, rdq j t = some (ls, p) → (∀ l ∈ ls, mayR l = true) ∧ (ls.map rcd).flatten = t.take p
  | 0, t, _, ls, p, h => by
    simp [rdq] at h
    obtain ⟨rfl, rfl⟩ := h
    simp
  | j+1, t, ht, ls, p, h => by
    rcases hr : rdq j t with _ | ⟨ls', p'⟩
    · rw [rdq, hr] at h; cases h
    · rw [rdq_succ hr] at h
      obtain ⟨h1, h2⟩ := rdq_back j t ht ls' p' hr
      rcases hq : reqAt (t.drop p') with _ | ⟨l, n⟩
      · rw [hq] at h; cases h
      · rw [hq] at h
        simp only [Option.map_some, Option.some.injEq, Prod.mk.injEq] at h
        obtain ⟨rfl, rfl⟩ := h
        obtain ⟨q1, q2⟩ := reqAt_back (fun x hx => ht x (List.mem_of_mem_drop hx)) hq
        refine ⟨fun y hy => ?_, ?_⟩
        · rcases List.mem_append.1 hy with hy | hy
          · exact h1 y hy
          · simp at hy; rw [hy]; exact q1
        · rw [List.map_append, List.flatten_append, h2, List.take_add]
          simp [q2]
theorem tape_back {t : List Int} {ls : List (List Int)} {p : Nat} (ht : ∀ x ∈ t, 0 ≤ x ∧ x < 256) (h : Tape t ls p) : (∀ l ∈ ls, mayR l = true) ∧ catR ls ls.length = t.take p := by
  obtain ⟨j, hj, _⟩ := h
  have := rdq_back j t ht ls p hj
  refine ⟨this.1, ?_⟩
  unfold catR
  rw [List.take_of_length_le (Nat.le_refl _)]
  exact this.2
theorem run_cut_to {P : Program} {A : Option Addr} {n c : Nat} {t e : TypeId} (ht : P.underlying t = some (.slice e)) (hs : ∀ W : World, (sizeOf e).run P W = .ok 1 W) {p : Nat} (hp : p ≤ c) :
    ∀ W : World, (Instr.slice t (.slice A n c) none (some (.int .i64 (p : Int))) none).run P W = .ok (.slice A p c) W := by
  intro W
  have he : P.elem t = e := by simp [Program.elem, ht]
  rw [run_slice_h W t A n c (by rw [he]; exact ht) .i64 p (by omega) (by omega), he, hs W]
  have hz : ∀ a : Addr, a.add 0 = a := fun a => by simp [Addr.add]
  simp [Result.andThen, sliced, hz]
theorem sla_to {w : World} {A : Option Addr} {n c : Nat} {xs : List Value} (h : SlA w 1 A n c xs) {p : Nat} (hp : p ≤ n) : SlA w 1 A p c (xs.take p) := by
  have h1 := h.nc
  have h3 := h.len
  refine ⟨by omega, h.cm, by rw [List.length_take]; omega, fun j u hj => ?_⟩
  rw [List.getElem?_take] at hj
  split at hj
  · exact h.cells j u hj
  · cases hj

end Go.Proofs.Ytdleikgcgbokmaa
