/- A tape read, by both. -/
import Derived.Test.YtdleikgcgbokmaaB1
namespace Go.Proofs.Ytdleikgcgbokmaa
open Go.RowKit Go.KK
set_option linter.unusedVariables false
set_option linter.unusedSimpArgs false

/-- What the first j records are, and how many bytes they have. -/
def rdq : Nat → List Int → Option (List (List Int) × Nat)
  | 0, _ => some ([], 0)
  | j+1, t => (rdq j t).bind fun p => (reqAt (t.drop p.2)).map fun r => (p.1 ++ [r.1], p.2 + r.2)
theorem rdq_succ {j p : Nat} {t : List Int} {ls : List (List Int)} (h : rdq j t = some (ls, p)) : rdq (j + 1) t = (reqAt (t.drop p)).map fun r => (ls ++ [r.1], p + r.2) := by
  rw [rdq, h]; rfl
theorem rdq_none : ∀ {j k : Nat} {t : List Int}, rdq j t = none → j ≤ k → rdq k t = none
  | j, 0, t, h, hjk => by have : j = 0 := by omega
                          subst this; exact h
  | j, k+1, t, h, hjk => by
    rcases Nat.lt_or_ge j (k + 1) with hlt | hge
    · rw [rdq, rdq_none h (by omega : j ≤ k)]; rfl
    · have : j = k + 1 := by omega
      subst this; exact h
/-- A tape's requests, and how many bytes they have. -/
def Tape (t : List Int) (ls : List (List Int)) (p : Nat) : Prop := ∃ j, rdq j t = some (ls, p) ∧ reqAt (t.drop p) = none
theorem Tape.one_only {t : List Int} {ls ls' : List (List Int)} {p p' : Nat} (h : Tape t ls p) (h' : Tape t ls' p') : ls = ls' ∧ p = p' := by
  obtain ⟨j, hj, hn⟩ := h
  obtain ⟨k, hk, hm⟩ := h'
  have hj1 : rdq (j + 1) t = none := by rw [rdq_succ hj, hn]; rfl
  have hk1 : rdq (k + 1) t = none := by rw [rdq_succ hk, hm]; rfl
  have hjk : j = k := by
    rcases Nat.lt_trichotomy j k with h | h | h
    · have := rdq_none hj1 (by omega : j + 1 ≤ k); rw [hk] at this; cases this
    · exact h
    · have := rdq_none hk1 (by omega : k + 1 ≤ j); rw [hj] at this; cases this
  subst hjk
  rw [hj] at hk
  injection hk with hk
  injection hk with h1 h2
  exact ⟨h1, h2⟩

theorem tbytes_le (t : List Int) (hl : ∀ x ∈ t, 0 ≤ x ∧ x < 256) : (tbytes t).2.2 = 0 → 1 ≤ (tbytes t).2.1 ∧ (tbytes t).2.1 ≤ t.length := by
  intro h
  rcases tint_facts t hl with ⟨h1, h2, h3, h4, h5, h6, _⟩ | ⟨h1, h2, h3⟩
  · unfold tbytes at h ⊢
    rw [if_neg (by omega)] at h ⊢
    split
    · rename_i hlt
      rw [if_pos hlt] at h
      cases h
    · rename_i hlt
      dsimp only
      omega
  · unfold tbytes at h
    rw [if_pos (by omega)] at h
    dsimp only at h
    omega
theorem reqAt_facts (t : List Int) (hl : ∀ x ∈ t, 0 ≤ x ∧ x < 256) {l : List Int} {n : Nat} (h : reqAt t = some (l, n)) : l.length = 7 ∧ 1 ≤ n ∧ n ≤ t.length ∧ 1 ≤ l.headD 0 ∧ l.headD 0 ≤ 6 ∧ rds 7 (tbytes t).1 = some (l, []) ∧ n = (tbytes t).2.1 ∧ (tbytes t).2.2 = 0 := by
  unfold reqAt at h
  split at h
  · cases h
  · rename_i h0
    have h0' : (tbytes t).2.2 = 0 := by simpa using h0
    split at h
    · rename_i l' hr
      split at h
      · rename_i hg
        injection h with h; injection h with h1 h2
        subst h1; subst h2
        have := tbytes_le t hl h0'
        exact ⟨rds_len _ _ _ _ hr, this.1, this.2, hg.1, hg.2, hr, rfl, h0'⟩
      · cases h
    · cases h
theorem rdq_facts : ∀ (j : Nat) (t : List Int), (∀ x ∈ t, 0 ≤ x ∧ x < 256) → ∀ ls p, rdq j t = some (ls, p) → p ≤ t.length ∧ ls.length = j ∧ (∀ l ∈ ls, l.length = 7) ∧ j ≤ p
  | 0, t, _, ls, p, h => by
    simp [rdq] at h
    obtain ⟨rfl, rfl⟩ := h
    simp
  | j+1, t, hl, ls, p, h => by
    rcases hr : rdq j t with _ | ⟨ls', p'⟩
    · rw [rdq, hr] at h; cases h
    · rw [rdq_succ hr] at h
      obtain ⟨h1, h2, h3, h4⟩ := rdq_facts j t hl ls' p' hr
      rcases hq : reqAt (t.drop p') with _ | ⟨l, n⟩
      · rw [hq] at h; cases h
      · rw [hq] at h
        simp only [Option.map_some, Option.some.injEq, Prod.mk.injEq] at h
        obtain ⟨rfl, rfl⟩ := h
        obtain ⟨q1, q2, q3, _⟩ := reqAt_facts (t.drop p') (fun x hx => hl x (List.mem_of_mem_drop hx)) hq
        rw [List.length_drop] at q3
        refine ⟨by omega, by simp [h2], fun l' hl' => ?_, by omega⟩
        rcases List.mem_append.1 hl' with h | h
        · exact h3 l' h
        · simp at h; rw [h]; exact q1

/-- Requests as cells. -/
def rqc (ls : List (List Int)) : List Value := (ls.map fun l => l.map (Value.int .i64)).flatten
theorem rqc_snoc (ls : List (List Int)) (l : List Int) : rqc (ls ++ [l]) = rqc ls ++ l.map (Value.int .i64) := by simp [rqc]

theorem Try.infoReq : (Try.prog.info? 23).map (fun i => (i.zero, i.size, i.bytes)) = some (some (.agg #[.int .i64 0, .int .i64 0, .int .i64 0, .int .i64 0, .int .i64 0, .int .i64 0, .int .i64 0]), 7, 56) := by kernel_rfl

/-- What Read tells. -/
def ReadPost (t : List Int) (w : World) (e : Ending) (w' : World) : Prop :=
  ∃ ls p v, Tape t ls p ∧ e = .returned (.tuple #[v, .int .i64 (p : Nat)]) ∧ w'.ownsRow w.heap.size 23 7 v ls.length (rqc ls) ∧ Below w.heap.size w w'

theorem run_cut {P : Program} {w : World} {A : Option Addr} {n c : Nat} {xs : List Value} (h : SlA w 1 A n c xs) {t e : TypeId} (ht : P.underlying t = some (.slice e)) (hs : ∀ W : World, (sizeOf e).run P W = .ok 1 W) {p : Nat} (hp : p ≤ n) :
    ∃ A', (∀ W : World, (Instr.slice t (.slice A n c) (some (.int .i64 (p : Int))) none none).run P W = .ok (.slice A' (n - p) (c - p)) W) ∧ SlA w 1 A' (n - p) (c - p) (xs.drop p) := by
  obtain ⟨A', h1, h2⟩ := h.cut_from hp
  have he : P.elem t = e := by simp [Program.elem, ht]
  refine ⟨A', fun W => ?_, h2⟩
  rw [run_slice_l W t A n c (by rw [he]; exact ht) .i64 p (by omega) (by omega), he, hs W]
  simp only [Result.andThen, Int.toNat_natCast]
  rw [h1]

theorem blk_sla {w : World} {T : TypeId} (cs : List Value) (hcs : cs.length = 7) (b : Nat) (hb : b = w.heap.size) : SlA (w.alloc (.cells cs.toArray T)) 7 (some ⟨b, 0, none⟩) 1 1 cs := by
  subst hb
  have := (SlA.of_own (World.ownsRow_lit (e := T) (base := 0) (size := 7) w cs.toArray 1 (Nat.zero_le _) (by unfold maxLen; omega) (by simp [hcs]))).2
  simpa using this
theorem ints7_one (a0 a1 a2 a3 a4 a5 a6 : Int) : ∀ u ∈ [Value.int .i64 a0, .int .i64 a1, .int .i64 a2, .int .i64 a3, .int .i64 a4, .int .i64 a5, .int .i64 a6], u.oneCell' = true := ints_one .i64 [a0, a1, a2, a3, a4, a5, a6]

set_option maxHeartbeats 1000000 in
theorem read_any (A : Option Addr) (n c : Nat) (t : List Int) (w : World) (h : SlA w 1 A n c (t.map (.int .u8))) (hl : ∀ x ∈ t, 0 ≤ x ∧ x < 256) (hn47 : n ≤ 2147483648) :
    Calls Try.prog 9 #[.slice A n c] w (ReadPost t w) := by
  obtain ⟨i0, hi, hz0, hz1, hz2⟩ := info_parts Try.infoReq
  have htn := h.lenI
  have HTN := hid htn; clear htn
  go_enter Try.func9, Try.ntmps9
  go_wp2_with fail
  go_loopw [4, 5, 6, 7, 8] (fun v at_ _ _ _ wr => ∃ (j : Nat) (ls : List (List Int)) (p : Nat), rdq j t = some (ls, p) ∧ at_ = .int .i64 (p : Nat) ∧ wr.ownsRow w.heap.size 23 7 v j (rqc ls) ∧ Below w.heap.size w wr) (fun _ at_ _ _ _ _ => n - (intOf at_).toNat)
  case atStart => exact ⟨0, [], 0, rfl, by simp, World.ownsRow_nil _ _ _ _, Below.refl _ _⟩
  case round =>
    obtain ⟨j, ls, p, hr, ha', hown, hb⟩ := hrel
    subst ha'
    obtain ⟨f1, f2, f3, f4⟩ := rdq_facts j t hl ls p hr
    rw [HTN.out] at f1
    have HF2 := hid f2; clear f2
    have HF3 := hid f3; clear f3
    have HR := hid hr; clear hr
    have hbs := hb.size
    obtain ⟨A', hsl, hs2⟩ := run_cut (P := Try.prog) (h.ext hb) Try.underlying24 (fun W => Try.sizeOf5 W) f1
    rw [← List.map_drop] at hs2
    rcases hq : reqAt (t.drop p) with _ | ⟨l, m0⟩
    · have HT := hid (show Tape t ls p from ⟨j, HR.out, hq⟩)
      go_wp2_with (go_at_call 18; refine (first_any _ _ _ (t.drop p) _ hs2 (fun x hx => hl x (List.mem_of_mem_drop hx)) (by omega)).mono ?_; rintro e w1 ⟨y0, y1, y2, y3, y4, y5, y6, m, rfl, hyes, hb1⟩; clear hyes; have hsz1 := hb1.size)
      go_ret2
      refine ⟨ls, p, _, HT.out, rfl, ?_, (hb.trans (hb1.mono hbs)).alloc (by omega) _⟩
      rw [HF2.out]
      exact (own_ext hown hb1).alloc _
    · have hq' := reqAt_facts (t.drop p) (fun x hx => hl x (List.mem_of_mem_drop hx)) hq
      obtain ⟨q1, q2, q3, _⟩ := hq'
      rw [List.length_drop, HTN.out] at q3
      have HR2 := hid (show rdq (j + 1) t = some (ls ++ [l], p + m0) by rw [rdq_succ HR.out, hq]; rfl)
      have HQ1 := hid q1; clear q1
      go_wp2_with (first
        | (go_at_call 18; refine (first_any _ _ _ (t.drop p) _ hs2 (fun x hx => hl x (List.mem_of_mem_drop hx)) (by omega)).mono ?_; rintro e w1 ⟨y0, y1, y2, y3, y4, y5, y6, m, rfl, hyes, hb1⟩; obtain ⟨e1, e2⟩ := hyes _ _ hq; subst e2; have HE := hid e1; clear e1 hyes; have hsz1 := hb1.size; have hown1 := own_ext hown hb1)
        | (at_builtin; refine wpList_append_sl _ rfl _ _ 29 rfl w.heap.size 23 i0 (.agg #[.int .i64 0, .int .i64 0, .int .i64 0, .int .i64 0, .int .i64 0, .int .i64 0, .int .i64 0]) 7 56 Try.underlying29 hi hz0 hz1 hz2 rfl (by decide) _ _ _ rfl ((hown1.alloc _).alloc _) (some ⟨w1.heap.size + 1, 0, none⟩) 1 1 [.int .i64 y0, .int .i64 y1, .int .i64 y2, .int .i64 y3, .int .i64 y4, .int .i64 y5, .int .i64 y6] rfl (blk_sla [.int .i64 y0, .int .i64 y1, .int .i64 y2, .int .i64 y3, .int .i64 y4, .int .i64 y5, .int .i64 y6] rfl _ (by simp)) (ints7_one _ _ _ _ _ _ _) (by unfold maxLen; omega) (by omega) (by simp; omega) ?_; intro v4 w4 hown4 hg4 _))
      go_roundw
      case rel =>
        refine ⟨j + 1, ls ++ [l], p + m0, HR2.out, by go_num, ?_, below_append (((hb.trans (hb1.mono hbs)).alloc (by omega) _).alloc (by simp; omega) _) hg4 ((hown1.alloc _).alloc _) (Nat.le_refl _) (by simp; omega)⟩
        rw [rqc_snoc, HE.out]
        exact hown4
      case measure => simp [intOf]; omega

set_option maxHeartbeats 1000000 in
theorem rread_any (A : Option Addr) (n c : Nat) (t : List Int) (w : World) (h : SlA w 1 A n c (t.map (.int .u8))) (hl : ∀ x ∈ t, 0 ≤ x ∧ x < 256) (hn47 : n ≤ 2147483648) :
    Calls Try.prog 10 #[.slice A n c] w (ReadPost t w) := by
  obtain ⟨i0, hi, hz0, hz1, hz2⟩ := info_parts Try.infoReq
  have htn := h.lenI
  have HTN := hid htn; clear htn
  go_enter Try.func10, Try.ntmps10
  go_wp2_with fail
  go_loopw [4, 5, 6, 7, 8] (fun v at_ _ _ _ wr => ∃ (j : Nat) (ls : List (List Int)) (p : Nat), rdq j t = some (ls, p) ∧ at_ = .int .i64 (p : Nat) ∧ wr.ownsRow w.heap.size 23 7 v j (rqc ls) ∧ Below w.heap.size w wr) (fun _ at_ _ _ _ _ => n - (intOf at_).toNat)
  case atStart => exact ⟨0, [], 0, rfl, by simp, World.ownsRow_nil _ _ _ _, Below.refl _ _⟩
  case round =>
    obtain ⟨j, ls, p, hr, ha', hown, hb⟩ := hrel
    subst ha'
    obtain ⟨f1, f2, f3, f4⟩ := rdq_facts j t hl ls p hr
    rw [HTN.out] at f1
    have HF2 := hid f2; clear f2
    have HF3 := hid f3; clear f3
    have HR := hid hr; clear hr
    have hbs := hb.size
    obtain ⟨A', hsl, hs2⟩ := run_cut (P := Try.prog) (h.ext hb) Try.underlying24 (fun W => Try.sizeOf5 W) f1
    rw [← List.map_drop] at hs2
    rcases hq : reqAt (t.drop p) with _ | ⟨l, m0⟩
    · have HT := hid (show Tape t ls p from ⟨j, HR.out, hq⟩)
      go_wp2_with (go_at_call 19; refine (one_any _ _ _ (t.drop p) _ hs2 (fun x hx => hl x (List.mem_of_mem_drop hx)) (by omega)).mono ?_; rintro e w1 ⟨y0, y1, y2, y3, y4, y5, y6, m, rfl, hyes, hb1⟩; clear hyes; have hsz1 := hb1.size)
      go_ret2
      refine ⟨ls, p, _, HT.out, rfl, ?_, (hb.trans (hb1.mono hbs)).alloc (by omega) _⟩
      rw [HF2.out]
      exact (own_ext hown hb1).alloc _
    · have hq' := reqAt_facts (t.drop p) (fun x hx => hl x (List.mem_of_mem_drop hx)) hq
      obtain ⟨q1, q2, q3, _⟩ := hq'
      rw [List.length_drop, HTN.out] at q3
      have HR2 := hid (show rdq (j + 1) t = some (ls ++ [l], p + m0) by rw [rdq_succ HR.out, hq]; rfl)
      have HQ1 := hid q1; clear q1
      go_wp2_with (first
        | (go_at_call 19; refine (one_any _ _ _ (t.drop p) _ hs2 (fun x hx => hl x (List.mem_of_mem_drop hx)) (by omega)).mono ?_; rintro e w1 ⟨y0, y1, y2, y3, y4, y5, y6, m, rfl, hyes, hb1⟩; obtain ⟨e1, e2⟩ := hyes _ _ hq; subst e2; have HE := hid e1; clear e1 hyes; have hsz1 := hb1.size; have hown1 := own_ext hown hb1)
        | (at_builtin; refine wpList_append_sl _ rfl _ _ 29 rfl w.heap.size 23 i0 (.agg #[.int .i64 0, .int .i64 0, .int .i64 0, .int .i64 0, .int .i64 0, .int .i64 0, .int .i64 0]) 7 56 Try.underlying29 hi hz0 hz1 hz2 rfl (by decide) _ _ _ rfl ((hown1.alloc _).alloc _) (some ⟨w1.heap.size + 1, 0, none⟩) 1 1 [.int .i64 y0, .int .i64 y1, .int .i64 y2, .int .i64 y3, .int .i64 y4, .int .i64 y5, .int .i64 y6] rfl (blk_sla [.int .i64 y0, .int .i64 y1, .int .i64 y2, .int .i64 y3, .int .i64 y4, .int .i64 y5, .int .i64 y6] rfl _ (by simp)) (ints7_one _ _ _ _ _ _ _) (by unfold maxLen; omega) (by omega) (by simp; omega) ?_; intro v4 w4 hown4 hg4 _))
      go_roundw
      case rel =>
        refine ⟨j + 1, ls ++ [l], p + m0, HR2.out, by go_num, ?_, below_append (((hb.trans (hb1.mono hbs)).alloc (by omega) _).alloc (by simp; omega) _) hg4 ((hown1.alloc _).alloc _) (Nat.le_refl _) (by simp; omega)⟩
        rw [rqc_snoc, HE.out]
        exact hown4
      case measure => simp [intOf]; omega

end Go.Proofs.Ytdleikgcgbokmaa
