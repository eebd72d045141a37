/- StoreNumbers walked. -/
import Derived.Test.YtdleikgcgbokmaaB6
namespace Go.Proofs.Ytdleikgcgbokmaa
open Go.RowKit Go.KK
set_option linter.unusedVariables false
set_option linter.unusedSimpArgs false

/-- What Record answers, in one form for both ways. -/
theorem rec_form {l : List Int} {w : World} {e : Ending} {w' : World} {b : Bool} (hm : mayR l = b) (h : RecPost l w e w') :
    ∃ (A : Option Addr) (n c : Nat) (x : List Int) (er : Int), e = .returned (.tuple #[.slice A n c, .int .i64 er]) ∧ SlA w' 1 A n c (x.map (.int .u8)) ∧ x = (if b = true then rcd l else []) ∧ er = (if b = true then 0 else 1) ∧ Below w.heap.size w w' := by
  obtain ⟨hy, hn, hb⟩ := h
  rw [hm] at hy hn
  cases b
  · exact ⟨none, 0, 0, [], 1, hn rfl, SlA.nil _ _, rfl, rfl, hb⟩
  · obtain ⟨v, hv, hown⟩ := hy rfl
    obtain ⟨A2, c2, rfl, hs⟩ := SlA.owned hown
    exact ⟨A2, _, c2, _, 0, hv, hs, rfl, rfl, hb⟩
theorem rcd_pos (l : List Int) : 0 < (rcd l).length := by
  have : 0 < (enc ((body l).length : Int)).length := by
    have := enc_nb ((body l).length : Int)
    unfold nb at this
    split at this <;> (try split at this) <;> omega
  unfold rcd
  rw [List.length_append]
  omega

set_option maxHeartbeats 1000000 in
theorem numbers_bad (a0 a1 a2 a3 a4 a5 a6 z0 z1 z2 z3 z4 z5 z6 : Int) (w : World) (b d : Bool) (hb : mayR [a0, a1, a2, a3, a4, a5, a6] = b) (hd : mayR [z0, z1, z2, z3, z4, z5, z6] = d) (hbd : b = false ∨ d = false) :
    Calls Try.prog 5 #[.agg #[.int .i64 a0, .int .i64 a1, .int .i64 a2, .int .i64 a3, .int .i64 a4, .int .i64 a5, .int .i64 a6], .agg #[.int .i64 z0, .int .i64 z1, .int .i64 z2, .int .i64 z3, .int .i64 z4, .int .i64 z5, .int .i64 z6]] w fun e w' => e = .returned (.bool true) ∧ Below w.heap.size w w' := by
  have HB := hid hb; have HD := hid hd; have HBD := hid hbd; clear hb hd hbd
  go_enter Try.func5, Try.ntmps5
  go_wp2_with fail
  refine (live_any _).mono ?_
  rintro e w1 ⟨rfl, hb1⟩
  have hsz1 := hb1.size
  simp only [World.size_alloc] at hsz1
  have hk1 : Blk w1 w.heap.size 23 [.int .i64 a0, .int .i64 a1, .int .i64 a2, .int .i64 a3, .int .i64 a4, .int .i64 a5, .int .i64 a6] := Blk.below (Blk.alloc_old (Blk.new w 23 _) _) hb1 (by simp; omega)
  have hm1 : Blk w1 (w.heap.size + 1) 23 [.int .i64 z0, .int .i64 z1, .int .i64 z2, .int .i64 z3, .int .i64 z4, .int .i64 z5, .int .i64 z6] := Blk.below (by have := Blk.new (w.alloc (.cells #[.int .i64 a0, .int .i64 a1, .int .i64 a2, .int .i64 a3, .int .i64 a4, .int .i64 a5, .int .i64 a6] 23)) 23 [.int .i64 z0, .int .i64 z1, .int .i64 z2, .int .i64 z3, .int .i64 z4, .int .i64 z5, .int .i64 z6]; simpa using this) hb1 (by simp)
  have hw1 : Below w.heap.size w w1 := (((Below.refl _ _).alloc (Nat.le_refl _) _).alloc (by simp) _).trans (hb1.mono (by simp; omega))
  obtain ⟨q0, q1, q2, q3, q4, q5, q6⟩ := cells7 hk1
  clear hb1
  go_wp2_with fail
  refine (record_any _ _ _ _ _ _ _ _).mono ?_
  intro e w2 hpost
  obtain ⟨A2, n2, c2, x2, er, rfl, hs2, hx2, her, hb2⟩ := rec_form HB.out hpost
  have hsz2 := hb2.size
  have hm2 := hm1.below hb2 (by omega)
  obtain ⟨r0, r1, r2, r3, r4, r5, r6⟩ := cells7 hm2
  clear hpost q0 q1 q2 q3 q4 q5 q6 hk1 hm1
  have HX2 := hid hx2; have HER := hid her; clear hx2 her
  go_wp2_with fail
  refine (record_any _ _ _ _ _ _ _ _).mono ?_
  intro e w3 hpost
  obtain ⟨A3, n3, c3, x3, es, rfl, hs3, hx3, hes, hb3⟩ := rec_form HD.out hpost
  clear hpost r0 r1 r2 r3 r4 r5 r6 hm2
  have hw3 := hid (hw1.trans ((hb2.trans (hb3.mono hsz2)).mono (by omega)))
  have HX3 := hid hx3; have HES := hid hes; clear hx3 hes hb2 hb3 hw1
  have hn2 : b = true → 0 < n2 := by
    intro h
    have := hs2.lenI
    rw [HX2.out, if_pos h] at this
    have := rcd_pos [a0, a1, a2, a3, a4, a5, a6]
    omega
  have hn3 : d = true → 0 < n3 := by
    intro h
    have := hs3.lenI
    rw [HX3.out, if_pos h] at this
    have := rcd_pos [z0, z1, z2, z3, z4, z5, z6]
    omega
  clear hs2 hs3
  have he := HER.out
  have hs := HES.out
  rcases b with _ | _ <;> rcases d with _ | _
  · simp only [Bool.false_eq_true, if_false] at he hs
    subst he; subst hs
    clear hn2 hn3
    go_wp2
    go_ret
    exact ⟨rfl, hw3.out⟩
  · simp only [Bool.false_eq_true, if_false, if_true] at he hs
    subst he; subst hs
    have hp := hn3 rfl
    clear hn2 hn3
    go_wp2
    go_ret
    exact ⟨rfl, hw3.out⟩
  · simp only [Bool.false_eq_true, if_false, if_true] at he hs
    subst he; subst hs
    have hp := hn2 rfl
    clear hn2 hn3
    go_wp2
    go_ret
    exact ⟨rfl, hw3.out⟩
  · have := HBD.out
    simp at this

end Go.Proofs.Ytdleikgcgbokmaa
