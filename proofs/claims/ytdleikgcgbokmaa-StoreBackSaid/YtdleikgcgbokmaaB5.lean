/- StoreReads walked: whatever the request and the tape, true. -/
import Derived.Test.YtdleikgcgbokmaaB4
namespace Go.Proofs.Ytdleikgcgbokmaa
open Go.RowKit Go.KK
set_option linter.unusedVariables false
set_option linter.unusedSimpArgs false

theorem below_drewN {B : Nat} {a w : World} (h : Below B a w) (n : Nat) : Below B a (w.drewN n) := ⟨h.os, h.tape, h.output, h.size, h.block⟩
theorem cells7 {W : World} {g : Nat} {T : TypeId} {u0 u1 u2 u3 u4 u5 u6 : Value} (h : Blk W g T [u0, u1, u2, u3, u4, u5, u6]) :
    W.cell? ⟨g, 0, none⟩ = some u0 ∧ W.cell? ⟨g, 1, none⟩ = some u1 ∧ W.cell? ⟨g, 2, none⟩ = some u2 ∧ W.cell? ⟨g, 3, none⟩ = some u3 ∧ W.cell? ⟨g, 4, none⟩ = some u4 ∧ W.cell? ⟨g, 5, none⟩ = some u5 ∧ W.cell? ⟨g, 6, none⟩ = some u6 :=
  ⟨h.cell 0, h.cell 1, h.cell 2, h.cell 3, h.cell 4, h.cell 5, h.cell 6⟩
theorem str_conv {W : World} {A : Option Addr} {n c : Nat} {l : List Int} (h : SlA W 1 A n c (l.map (.int .u8))) : (convert 24 9 (.slice A n c)).run Try.prog W = .ok (.string (strOfNums l)) W :=
  run_str_sl (P := Try.prog) W 24 9 5 Try.underlying24 Try.underlying5 Try.underlying9 A n c l h

theorem Blk.alloc_old {w : World} {g : Nat} {T : TypeId} {cs : List Value} (h : Blk w g T cs) (o : Obj) : Blk (w.alloc o) g T cs := (Below.heap_alloc w o g h.lt).trans h

/-- A tape has requests. -/
theorem tape_7 {t : List Int} {ls : List (List Int)} {p : Nat} (hl : ∀ x ∈ t, 0 ≤ x ∧ x < 256) (h : Tape t ls p) : (∀ l ∈ ls, l.length = 7) ∧ p ≤ t.length ∧ ls.length ≤ p := by
  obtain ⟨j, hj, _⟩ := h
  obtain ⟨h1, h2, h3, h4⟩ := rdq_facts j t hl ls p hj
  exact ⟨h3, h1, by omega⟩

set_option maxHeartbeats 1000000 in
theorem reads_long (a0 a1 a2 a3 a4 a5 a6 : Int) (A : Option Addr) (n c : Nat) (w : World) (hn : 20000 < n) :
    Calls Try.prog 3 #[.agg #[.int .i64 a0, .int .i64 a1, .int .i64 a2, .int .i64 a3, .int .i64 a4, .int .i64 a5, .int .i64 a6], .slice A n c] w fun e w' => e = .returned (.bool true) ∧ Below w.heap.size w w' := by
  go_enter Try.func3, Try.ntmps3
  go_wp2_with (go_at_call 6; refine (live_any _).mono ?_; rintro e w1 ⟨rfl, hb1⟩)
  go_ret
  exact ⟨rfl, ((Below.refl _ _).alloc (Nat.le_refl _) _).trans (hb1.mono (by simp))⟩

set_option maxHeartbeats 2000000 in
theorem reads_short (a0 a1 a2 a3 a4 a5 a6 : Int) (A : Option Addr) (n c : Nat) (t : List Int) (w : World) (h : SlA w 1 A n c (t.map (.int .u8))) (hl : ∀ x ∈ t, 0 ≤ x ∧ x < 256) (hn : n ≤ 20000) :
    Calls Try.prog 3 #[.agg #[.int .i64 a0, .int .i64 a1, .int .i64 a2, .int .i64 a3, .int .i64 a4, .int .i64 a5, .int .i64 a6], .slice A n c] w fun e w' => e = .returned (.bool true) ∧ Below w.heap.size w w' := by
  have hfin : ∃ (b : Bool), mayR [a0, a1, a2, a3, a4, a5, a6] = b := ⟨_, rfl⟩
  obtain ⟨b, hmay⟩ := hfin
  have HMAY := hid hmay; clear hmay
  have HTN := hid h.lenI
  go_enter Try.func3, Try.ntmps3
  go_wp2_with fail
  refine (live_any _).mono ?_
  rintro e w1 ⟨rfl, hb1⟩
  have hsz1 := hb1.size
  simp only [World.size_alloc] at hsz1
  have hk1 : Blk w1 w.heap.size 23 [.int .i64 a0, .int .i64 a1, .int .i64 a2, .int .i64 a3, .int .i64 a4, .int .i64 a5, .int .i64 a6] := (Blk.new w 23 [.int .i64 a0, .int .i64 a1, .int .i64 a2, .int .i64 a3, .int .i64 a4, .int .i64 a5, .int .i64 a6]).below hb1 (by simp)
  have hw1 : Below w.heap.size w w1 := ((Below.refl _ _).alloc (Nat.le_refl _) _).trans (hb1.mono (by simp))
  have h1 := h.ext hw1
  obtain ⟨q0, q1, q2, q3, q4, q5, q6⟩ := cells7 hk1
  clear hb1
  go_wp2_with fail
  refine (record_any _ _ _ _ _ _ _ _).mono ?_
  rintro e w2 ⟨hy2, hn2, hb2⟩
  rw [HMAY.out] at hy2 hn2
  have hsz2 := hb2.size
  have hk2 := hk1.below hb2 (by omega)
  obtain ⟨r0, r1, r2, r3, r4, r5, r6⟩ := cells7 hk2
  have h2 := h1.ext hb2
  have hrec : ∃ (A2 : Option Addr) (n2 c2 : Nat) (l2 : List Int) (er : Int), e = .returned (.tuple #[.slice A2 n2 c2, .int .i64 er]) ∧ SlA w2 1 A2 n2 c2 (l2.map (.int .u8)) ∧ l2 = (if b = true then rcd [a0, a1, a2, a3, a4, a5, a6] else []) ∧ er = (if b = true then 0 else 1) := by
    cases b
    · exact ⟨none, 0, 0, [], 1, hn2 rfl, SlA.nil _ _, rfl, rfl⟩
    · obtain ⟨v, hv, hown⟩ := hy2 rfl
      obtain ⟨A2, c2, rfl, hs⟩ := SlA.owned hown
      exact ⟨A2, _, c2, _, 0, hv, hs, rfl, rfl⟩
  obtain ⟨A2, n2, c2, l2, er, rfl, hs2, hl2, her⟩ := hrec
  have HL2 := hid hl2; have HER := hid her
  clear hy2 hn2 hl2 her q0 q1 q2 q3 q4 q5 q6 hk1 h1
  go_wp2_with fail
  refine (rrecord_any _ _ _ _ _ _ _ _).mono ?_
  rintro e w3 ⟨hy3, hn3, hb3⟩
  rw [HMAY.out] at hy3 hn3
  have hsz3 := hb3.size
  have h3 := h2.ext hb3
  have hrec : ∃ (A3 : Option Addr) (n3 c3 : Nat) (l3 : List Int) (es : Int), e = .returned (.tuple #[.slice A3 n3 c3, .int .i64 es]) ∧ SlA w3 1 A3 n3 c3 (l3.map (.int .u8)) ∧ l3 = (if b = true then rcd [a0, a1, a2, a3, a4, a5, a6] else []) ∧ es = (if b = true then 0 else 1) := by
    cases b
    · exact ⟨none, 0, 0, [], 1, hn3 rfl, SlA.nil _ _, rfl, rfl⟩
    · obtain ⟨v, hv, hown⟩ := hy3 rfl
      obtain ⟨A2, c2, rfl, hs⟩ := SlA.owned hown
      exact ⟨A2, _, c2, _, 0, hv, hs, rfl, rfl⟩
  obtain ⟨A3, n3, c3, l3, es, rfl, hs3, hl3, hes⟩ := hrec
  have hll : l3 = l2 := by rw [hl3, HL2.out]
  have hee : es = er := by rw [hes, HER.out]
  subst hll; subst hee
  clear hy3 hn3 hl3 hes r0 r1 r2 r3 r4 r5 r6 hk2 h2
  go_wp2_with fail
  refine (read_any _ _ _ t _ h3 hl (by omega)).mono ?_
  rintro e w4 ⟨ls, p, v4, hT4, rfl, hown4, hb4⟩
  obtain ⟨A4, c4, rfl, hs4⟩ := SlA.owned hown4
  have hsz4 := hb4.size
  have h4 := h3.ext hb4
  have HT4 := hid hT4
  clear hown4 h3 hT4
  go_wp2_with fail
  refine (rread_any _ _ _ t _ h4 hl (by omega)).mono ?_
  rintro e w5 ⟨ls5, p5, v5, hT5, rfl, hown5, hb5⟩
  obtain ⟨rfl, rfl⟩ := hT5.one_only HT4.out
  obtain ⟨A5, c5, rfl, hs5⟩ := SlA.owned hown5
  have hsz5 := hb5.size
  obtain ⟨g7, gp, gl⟩ := tape_7 hl hT5
  rw [HTN.out] at gp
  have HG7 := hid g7
  have cx := str_conv ((hs2.ext hb3).ext (hb4.trans (hb5.mono hsz4)))
  have cy := str_conv (hs3.ext (hb4.trans (hb5.mono hsz4)))
  have hw5 : Below w.heap.size w w5 := hw1.trans ((hb2.trans ((hb3.trans ((hb4.trans (hb5.mono hsz4)).mono hsz3)).mono hsz2)).mono (by omega))
  have HW := hid hw5
  have hs45 := hs4.ext hb5
  clear hw5 hb5 hb4 hb3 hb2 hw1 hown5 hT5 g7 h4 hs2 hs3 h
  go_wp2_with (go_at_call 11; refine (same_any A4 A5 _ c4 c5 _ _ _ hs45 hs5 HG7.out HG7.out rfl rfl (by omega)).mono ?_; rintro e w6 ⟨rfl, q, rfl⟩)
  go_ret
  exact ⟨by simp, below_drewN HW.out q⟩

/-- StoreReads, walked. -/
theorem reads_any (a0 a1 a2 a3 a4 a5 a6 : Int) (A : Option Addr) (n c : Nat) (t : List Int) (w : World) (h : SlA w 1 A n c (t.map (.int .u8))) (hl : ∀ x ∈ t, 0 ≤ x ∧ x < 256) :
    Calls Try.prog 3 #[.agg #[.int .i64 a0, .int .i64 a1, .int .i64 a2, .int .i64 a3, .int .i64 a4, .int .i64 a5, .int .i64 a6], .slice A n c] w fun e w' => e = .returned (.bool true) ∧ Below w.heap.size w w' := by
  rcases Nat.lt_or_ge 20000 n with hn | hn
  · exact reads_long a0 a1 a2 a3 a4 a5 a6 A n c w hn
  · exact reads_short a0 a1 a2 a3 a4 a5 a6 A n c t w h hl hn

end Go.Proofs.Ytdleikgcgbokmaa
