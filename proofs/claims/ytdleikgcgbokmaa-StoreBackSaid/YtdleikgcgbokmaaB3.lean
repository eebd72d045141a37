/- Two lists of requests held against each other. -/
import Derived.Test.YtdleikgcgbokmaaB2
import Derived.Deep.QuietTactic
import Derived.BigQuiet
namespace Go.Proofs.Ytdleikgcgbokmaa
open Go.RowKit Go.KK
set_option linter.unusedVariables false
set_option linter.unusedSimpArgs false

theorem rqc_len : ∀ ls : List (List Int), (∀ l ∈ ls, l.length = 7) → (rqc ls).length = ls.length * 7
  | [], _ => rfl
  | l :: ls, h => by
    have h1 := h l (by simp)
    have h2 := rqc_len ls (fun x hx => h x (by simp [hx]))
    simp only [rqc, List.map_cons, List.flatten_cons, List.length_append, List.length_map, List.length_cons] at h2 ⊢
    omega
theorem rqc_get : ∀ (ls : List (List Int)) (j k : Nat) (l : List Int), (∀ l ∈ ls, l.length = 7) → ls[j]? = some l → k < 7 → (rqc ls)[j * 7 + k]? = (l.map (Value.int .i64))[k]?
  | [], j, k, l, _, h, _ => by simp at h
  | x :: ls, 0, k, l, h, hj, hk => by
    have h1 := h x (by simp)
    simp at hj
    subst hj
    simp only [rqc, List.map_cons, List.flatten_cons]
    rw [List.getElem?_append_left (by simp; omega)]
    simp
  | x :: ls, j+1, k, l, h, hj, hk => by
    have h1 := h x (by simp)
    have ih := rqc_get ls j k l (fun y hy => h y (by simp [hy])) (by simpa using hj) hk
    simp only [rqc, List.map_cons, List.flatten_cons]
    rw [List.getElem?_append_right (by simp; omega)]
    have : (j + 1) * 7 + k - (x.map (Value.int .i64)).length = j * 7 + k := by simp; omega
    rw [this]
    exact ih

/-- The cells of request j. -/
theorem req_cells {w : World} {A : Option Addr} {n c : Nat} {ls : List (List Int)} (h : SlA w 7 A n c (rqc ls)) (h7 : ∀ l ∈ ls, l.length = 7) (hn : ls.length = n) {j : Nat} (hj : j < n) :
    ∃ b off y0 y1 y2 y3 y4 y5 y6, A = some ⟨b, off, none⟩ ∧ ls[j]? = some [y0, y1, y2, y3, y4, y5, y6] ∧ w.cell? ⟨b, off + j * 7, none⟩ = some (.int .i64 y0) ∧ w.cell? ⟨b, off + j * 7 + 1, none⟩ = some (.int .i64 y1) ∧ w.cell? ⟨b, off + j * 7 + 2, none⟩ = some (.int .i64 y2) ∧
      w.cell? ⟨b, off + j * 7 + 3, none⟩ = some (.int .i64 y3) ∧ w.cell? ⟨b, off + j * 7 + 4, none⟩ = some (.int .i64 y4) ∧ w.cell? ⟨b, off + j * 7 + 5, none⟩ = some (.int .i64 y5) ∧ w.cell? ⟨b, off + j * 7 + 6, none⟩ = some (.int .i64 y6) := by
  have hl : ls[j]? = some (ls[j]'(by omega)) := List.getElem?_eq_getElem (by omega)
  obtain ⟨y0, y1, y2, y3, y4, y5, y6, hy⟩ := seven (h7 _ (List.mem_of_getElem? hl))
  rw [hy] at hl
  have g := fun k hk => rqc_get ls j k _ h7 hl hk
  have cell : ∀ k (u : Value), k < 7 → ([Value.int .i64 y0, .int .i64 y1, .int .i64 y2, .int .i64 y3, .int .i64 y4, .int .i64 y5, .int .i64 y6])[k]? = some u → ∃ b off, A = some ⟨b, off, none⟩ ∧ w.cell? ⟨b, off + j * 7 + k, none⟩ = some u := by
    intro k u hk hu
    obtain ⟨b, off, e, hc⟩ := h.cells (j * 7 + k) u ((g k hk).trans hu)
    exact ⟨b, off, e, by rw [Nat.add_assoc]; exact hc⟩
  obtain ⟨b, off, rfl, c0⟩ := cell 0 _ (by omega) rfl
  have more : ∀ k (u : Value), k < 7 → ([Value.int .i64 y0, .int .i64 y1, .int .i64 y2, .int .i64 y3, .int .i64 y4, .int .i64 y5, .int .i64 y6])[k]? = some u → w.cell? ⟨b, off + j * 7 + k, none⟩ = some u := by
    intro k u hk hu
    obtain ⟨b', off', e, hc⟩ := cell k u hk hu
    injection e with e
    injection e with e1 e2
    subst e1; subst e2
    exact hc
  exact ⟨b, off, y0, y1, y2, y3, y4, y5, y6, rfl, hl, c0, more 1 _ (by omega) rfl, more 2 _ (by omega) rfl, more 3 _ (by omega) rfl, more 4 _ (by omega) rfl, more 5 _ (by omega) rfl, more 6 _ (by omega) rfl⟩

theorem req_held : Try.prog.stoodInHeld 23 = false := by kernel_rfl
theorem req_guard : Try.prog.eqGuardType Try.prog.depth 23 = false := by kernel_rfl
theorem req_neq (y0 y1 y2 y3 y4 y5 y6 z0 z1 z2 z3 z4 z5 z6 : Int) (W : World) :
    (binOp .neq 23 (.agg #[.int .i64 y0, .int .i64 y1, .int .i64 y2, .int .i64 y3, .int .i64 y4, .int .i64 y5, .int .i64 y6]) (.agg #[.int .i64 z0, .int .i64 z1, .int .i64 z2, .int .i64 z3, .int .i64 z4, .int .i64 z5, .int .i64 z6])).run Try.prog W = .ok (.bool (!decide ([y0, y1, y2, y3, y4, y5, y6] = [z0, z1, z2, z3, z4, z5, z6]))) W := by
  have hp := req_held
  rw [run_neq_struct, run_equalIn_struct _ _ _ _ _ Try.underlying23 hp]
  simp [Program.fieldsOf, Try.underlying23, Op.eqFields, go_sem]
  (repeat' split) <;> simp_all
theorem req_eql (y0 y1 y2 y3 y4 y5 y6 z0 z1 z2 z3 z4 z5 z6 : Int) (W : World) :
    (binOp .eql 23 (.agg #[.int .i64 y0, .int .i64 y1, .int .i64 y2, .int .i64 y3, .int .i64 y4, .int .i64 y5, .int .i64 y6]) (.agg #[.int .i64 z0, .int .i64 z1, .int .i64 z2, .int .i64 z3, .int .i64 z4, .int .i64 z5, .int .i64 z6])).run Try.prog W = .ok (.bool (decide ([y0, y1, y2, y3, y4, y5, y6] = [z0, z1, z2, z3, z4, z5, z6]))) W := by
  have hp := req_held
  rw [run_eql_struct, run_equalIn_struct _ _ _ _ _ Try.underlying23 hp]
  simp [Program.fieldsOf, Try.underlying23, Op.eqFields, go_sem]
  (repeat' split) <;> simp_all

theorem same_lens (A B : Option Addr) (n c m d : Nat) (w : World) (h : n ≠ m) :
    Calls Try.prog 11 #[.slice A n c, .slice B m d] w fun e w' => e = .returned (.bool false) ∧ ∃ q, w' = w.drewN q := by
  have hd : ((n : Int) != m) = true := by simp; omega
  go_enter Try.func11, Try.ntmps11
  go_wp2
  go_ret
  exact ⟨rfl, 0, rfl⟩

set_option maxHeartbeats 1000000 in
theorem same_any (A B : Option Addr) (n c d : Nat) (ls ks : List (List Int)) (w : World) (ha : SlA w 7 A n c (rqc ls)) (hb : SlA w 7 B n d (rqc ks)) (h1 : ∀ l ∈ ls, l.length = 7) (h2 : ∀ l ∈ ks, l.length = 7) (hn : ls.length = n) (hm : ks.length = n) (hn47 : n ≤ 2147483648) :
    Calls Try.prog 11 #[.slice A n c, .slice B n d] w fun e w' => e = .returned (.bool (decide (ls = ks))) ∧ ∃ q, w' = w.drewN q := by
  have HN := hid hn; have HM := hid hm; clear hn hm
  go_enter Try.func11, Try.ntmps11
  go_wp2_with fail
  go_loopw [5, 13] (fun _ i wr => ∃ (j q : Nat), j ≤ n ∧ i = .int .i64 (j : Nat) ∧ ls.take j = ks.take j ∧ wr = w.drewN q) (fun _ i _ => n - (intOf i).toNat)
  case atStart => exact ⟨0, 0, by omega, by simp, rfl, rfl⟩
  case round =>
    obtain ⟨j, q, hj, hi', ht, hw⟩ := hrel
    subst hi'; subst hw
    have HT := hid ht; clear ht
    by_cases hlt : j < n
    · obtain ⟨b1, o1, y0, y1, y2, y3, y4, y5, y6, hA, hl, c0, c1, c2, c3, c4, c5, c6⟩ := req_cells ha h1 HN.out hlt
      obtain ⟨b2, o2, z0, z1, z2, z3, z4, z5, z6, hB, hk, d0, d1, d2, d3, d4, d5, d6⟩ := req_cells hb h2 HM.out hlt
      subst hA; subst hB
      have HL := hid hl; have HK := hid hk; clear hl hk
      have hg := req_guard
      by_cases heq : [y0, y1, y2, y3, y4, y5, y6] = [z0, z1, z2, z3, z4, z5, z6]
      · have hne := fun (W : World) => req_neq y0 y1 y2 y3 y4 y5 y6 z0 z1 z2 z3 z4 z5 z6 W
        rw [show decide ([y0, y1, y2, y3, y4, y5, y6] = [z0, z1, z2, z3, z4, z5, z6]) = true by simp only [heq, decide_true]] at hne
        have HE := hid heq; clear heq
        go_wp2
        go_quiet (fail)
        go_wp2
        go_roundw
        case rel =>
          refine ⟨j + 1, q + nq, by omega, by go_num, ?_, rfl⟩
          rw [take_snoc HL.out, take_snoc HK.out, HT.out, HE.out]
        case measure => simp [intOf]; omega
      · have hne := fun (W : World) => req_neq y0 y1 y2 y3 y4 y5 y6 z0 z1 z2 z3 z4 z5 z6 W
        rw [show decide ([y0, y1, y2, y3, y4, y5, y6] = [z0, z1, z2, z3, z4, z5, z6]) = false from decide_eq_false heq] at hne
        have HE := hid heq; clear heq
        go_wp2
        go_quiet (fail)
        go_wp2
        go_ret
        refine ⟨?_, q + nq, by simp⟩
        have hne2 : ls ≠ ks := by
          intro e
          have h1 := HL.out
          rw [e, HK.out] at h1
          injection h1 with h1
          exact HE.out h1.symm
        rw [decide_eq_false hne2]
        rfl
    · have hje : j = n := by omega
      have HJ := hid hje; clear hje
      have hdec : decide (ls = ks) = true := by
        have := HT.out
        rw [List.take_of_length_le (by rw [HN.out, HJ.out]; exact Nat.le_refl _), List.take_of_length_le (by rw [HM.out, HJ.out]; exact Nat.le_refl _)] at this
        exact decide_eq_true this
      have HD := hid hdec
      clear hdec
      go_wp2
      go_ret
      exact ⟨by rw [HD.out]; rfl, _, rfl⟩

end Go.Proofs.Ytdleikgcgbokmaa
