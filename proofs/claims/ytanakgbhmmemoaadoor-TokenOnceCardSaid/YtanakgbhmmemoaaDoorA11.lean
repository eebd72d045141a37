/- token: New, Ask, Finish. -/
import Derived.Test.YtanakgbhmmemoaaDoorA10
namespace Go.Proofs.YtanakgbhmmemoaaDoor
open Go.RowKit Go.KK Go.Shelf Go.Maps
set_option linter.unusedVariables false
set_option linter.unusedSimpArgs false

/-- The table of tens and the arena's blocks lie so that what is made turns nothing below B. -/
structure Cx (B : Nat) (w : World) (Z : Nat → Prop) : Prop where
  tb : Tb B w
  le : B ≤ w.heap.size
  z : ∀ b, Z b → B ≤ b
theorem Cx.below {B : Nat} {w w1 : World} {Z : Nat → Prop} (h : Cx B w Z) (hb : Below w.heap.size w w1) : Cx B w1 Z := ⟨h.tb.on (hb.mono h.le), Nat.le_trans h.le hb.size, h.z⟩
theorem Cx.turn {B : Nat} {w w1 : World} {Z Z1 : Nat → Prop} (h : Cx B w Z) (ht : Turn Z w w1) (hz : ∀ b, Z1 b → Z b ∨ w.heap.size ≤ b) : Cx B w1 Z1 :=
  ⟨h.tb.on (ht.below h.z h.le), Nat.le_trans h.le ht.size, fun b hb => (hz b hb).elim (h.z b) fun h1 => Nat.le_trans h.le h1⟩
theorem I64.idx {xs : List ND} (hok : Okay xs) (x : ND) : I64 (makI xs x) := by
  have := hok.len
  unfold makI I64
  split
  · split
    · have h1 := List.idxOf_le_length (a := x) (l := xs); omega
    · split <;> omega
  · omega
/-- A mint's value, whose rows' heads are these. -/
def mtV (m : MT) (g p : Value) : Value := .agg #[.int .i64 m.k, .int .i64 m.q, g, p]
section
variable (Z : Nat → Prop) (st : Nat) (xs : List ND) (B : Nat) (w : World)
theorem kno_one (t : Int) : kno xs [t] = hasB xs t := by unfold kno; simp
set_option maxHeartbeats 1000000 in
theorem tnew_any (sk quota : Int) (h : ArV w 93 st xs) :
    Calls Tryd.prog 10 #[.pointer (some ⟨st, 0, none⟩), .int .i64 sk, .int .i64 quota] w fun e w' => e = .returned (.tuple #[mtV (newF xs sk quota).1 (.slice none 0 0) (.slice none 0 0), .int .i64 (newF xs sk quota).2]) ∧ Below w.heap.size w w' := by
  have H := hid h
  have B0 := hid (show Below w.heap.size w (w.alloc (.cells #[.int .i64 0, .int .i64 0, .slice none 0 0, .slice none 0 0] 31)) from (Below.refl _ _).alloc (Nat.le_refl _) _)
  have X0 := hid (show (w.alloc (.cells #[.int .i64 0, .int .i64 0, .slice none 0 0, .slice none 0 0] 31)).ownsRow w.heap.size 31 4 (.slice (some ⟨w.heap.size, 0, none⟩) 1 1) 1 [.int .i64 0, .int .i64 0, .slice none 0 0, .slice none 0 0] from
    ⟨by simp, .inr ⟨w.heap.size, 1, _, rfl, Nat.le_refl _, heap_alloc_new w _, Nat.le_refl _, by decide, rfl, by simp⟩⟩)
  have hf : newF xs sk quota = if hasB xs sk && decide (0 ≤ quota) then (⟨sk, quota, [], []⟩, 0) else (mt0, 1) := rfl
  have HF := hid hf
  clear h hf
  go_enter Tryd.func10, Tryd.ntmps10
  go_upto_region 1 with fail
  generalize w.alloc (.cells #[.int .i64 0, .int .i64 0, .slice none 0 0, .slice none 0 0] 31) = W0 at *
  have B1 := hid (B0.out.alloc B0.out.size (.cells #[.int .i64 sk] 3))
  have HKN := hid (known_any st xs (W0.alloc (.cells #[.int .i64 sk] 3)) (some ⟨W0.heap.size, 0, none⟩) 1 1 [sk] (H.out.ext B1.out) (sla_row #[.int .i64 sk] (by unfold maxLen; simp)) (by decide))
  have X1 := hid (X0.out.alloc (.cells #[.int .i64 sk] 3))
  go_wp2_with fail
  refine HKN.out.mono ?_
  rintro e1 w1 ⟨rfl, b1⟩
  rw [kno_one]
  have B2 := hid (B1.out.trans (b1.mono B1.out.size))
  have X2 := hid (own_ext X1.out b1)
  obtain ⟨⟨k0, k1, k2, k3⟩, f0, f1, f2, f3⟩ := box4 X2.out
  clear b1 HKN
  have hend : ∀ v0 v1 v2 v3 : Value, Below w.heap.size w ((((w1.setCell ⟨w.heap.size, 0, none⟩ v0).setCell ⟨w.heap.size, 1, none⟩ v1).setCell ⟨w.heap.size, 2, none⟩ v2).setCell ⟨w.heap.size, 3, none⟩ v3) := fun v0 v1 v2 v3 =>
    (((B2.out.setCell (p := ⟨w.heap.size, 0, none⟩) (Nat.le_refl _) _).setCell (p := ⟨w.heap.size, 1, none⟩) (Nat.le_refl _) _).setCell (p := ⟨w.heap.size, 2, none⟩) (Nat.le_refl _) _).setCell (p := ⟨w.heap.size, 3, none⟩) (Nat.le_refl _) _
  have HEND := hid hend
  clear hend
  by_cases hq : hasB xs sk = true ∧ 0 ≤ quota
  · have HR := hid (show newF xs sk quota = (⟨sk, quota, [], []⟩, 0) by rw [HF.out, hq.1, decide_eq_true hq.2]; rfl)
    obtain ⟨q1, q2⟩ := hq
    rw [q1]
    clear q1
    go_wp2_with fail
    refine bodyPost_ret (v := .tuple #[.agg #[.int .i64 sk, .int .i64 quota, .slice none 0 0, .slice none 0 0], .int .i64 0]) ?_ rfl ⟨?_, HEND.out _ _ _ _⟩
    · rw [results_cell_tmp rfl]
      go_simp
    · rw [HR.out]; rfl
  · have HR := hid (show newF xs sk quota = (mt0, 1) by
      rw [HF.out, if_neg]
      simpa using hq)
    have hq2 : hasB xs sk = false ∨ (hasB xs sk = true ∧ quota < 0) := by
      rcases hb : hasB xs sk with _ | _
      · exact .inl rfl
      · exact .inr ⟨rfl, by have : ¬ 0 ≤ quota := fun h => hq ⟨hb, h⟩; omega⟩
    clear hq
    rcases hq2 with q1 | ⟨q1, q2⟩
    all_goals
      rw [q1]
      clear q1
      go_wp2_with fail
      refine bodyPost_ret (v := .tuple #[.agg #[.int .i64 0, .int .i64 0, .slice none 0 0, .slice none 0 0], .int .i64 1]) ?_ rfl ⟨?_, HEND.out _ _ _ _⟩
      · rw [results_cell_tmp rfl]
        go_simp
      · rw [HR.out]; rfl
theorem ask_any (nonce draw : Int) (h : AR w Z st xs) (hT : Cx B w Z) (hd : I64 draw) :
    Calls Tryd.prog 15 #[.pointer (some ⟨st, 0, none⟩), .int .i64 nonce, .int .i64 draw] w (StpS w Z st (askF xs nonce draw)) := by
  have H := hid h; have HT := hid hT; have HD := hid hd
  have B0 := hid (show Below w.heap.size w (w.alloc (.cells #[.int .i64 nonce] 3)) from (Below.refl _ _).alloc (Nat.le_refl _) _)
  have hf : askF xs nonce draw = if hasB xs nonce && decide (0 ≤ draw) then if makE xs (atN draw) == 0 then mk (makT xs (atN draw)) (ndN 12 [nonce, makI xs (atN draw)]) else (makT xs (atN draw), 0, makE xs (atN draw)) else (xs, 0, 1) := rfl
  have HF := hid hf
  have hok := h.ok
  clear h hT hf
  go_enter Tryd.func15, Tryd.ntmps15
  go_wp2_with fail
  refine (known_any st xs _ _ 1 1 [nonce] (H.out.vw.ext B0.out) (sla_row #[.int .i64 nonce] (by unfold maxLen; simp)) (by decide)).mono ?_
  rintro e1 w1 ⟨rfl, b1⟩
  rw [kno_one]
  have B1 := hid (B0.out.trans (b1.mono B0.out.size))
  clear b1
  rcases hh : hasB xs nonce with _ | _
  · have HR := hid (show askF xs nonce draw = (xs, 0, 1) by rw [HF.out, hh]; rfl)
    go_wp2_with fail
    go_ret2
    rw [HR.out]
    exact stay_s Z st xs w H.out B1.out
  by_cases hd0 : 0 ≤ draw
  · have HR := hid (show askF xs nonce draw = if makE xs (atN draw) == 0 then mk (makT xs (atN draw)) (ndN 12 [nonce, makI xs (atN draw)]) else (makT xs (atN draw), 0, makE xs (atN draw)) by rw [HF.out, hh, decide_eq_true hd0]; rfl)
    have HN := hid (has_i64 hok hh)
    have HIJ := hid (I64.idx hok (atN draw))
    clear hh
    go_wp2_with fail
    refine (fresh_any Z st xs B _ draw (H.out.ext B1.out) (HT.out.below B1.out).tb (HT.out.below B1.out).le HD.out).mono ?_
    rintro e2 w2 ⟨rfl, s2⟩
    have S2 := hid (s2.first B1.out)
    clear s2
    rcases he : (makE xs (atN draw) == 0) with _ | _
    · have hne : (makE xs (atN draw) != 0) = true := by rw [bne, he]; rfl
      have HE := hid (show askF xs nonce draw = (makT xs (atN draw), 0, makE xs (atN draw)) by rw [HR.out, he]; rfl)
      generalize makE xs (atN draw) = ee at *
      go_wp2_with fail
      go_ret2
      rw [HE.out]
      exact ⟨rfl, S2.out⟩
    · have hne : (makE xs (atN draw) != 0) = false := by rw [bne, he]; rfl
      have HE := hid (show askF xs nonce draw = mk (makT xs (atN draw)) (ndN 12 [nonce, makI xs (atN draw)]) by rw [HR.out, he]; rfl)
      generalize makE xs (atN draw) = ee at *
      obtain ⟨Z2, a2, t2, z2⟩ := S2.out
      have A2 := hid a2
      have T2 := hid t2
      have C2 := hid (HT.out.turn t2 z2)
      have Z2' := hid z2
      clear a2 t2 z2
      go_wp2_with fail
      refine (blind_any Z2 st _ B _ nonce _ A2.out C2.out.tb C2.out.le HN.out HIJ.out).mono ?_
      rintro e3 w3 ⟨rfl, s3⟩
      have S3 := hid (ArS.chain T2.out Z2'.out s3)
      clear s3
      go_wp2_with fail
      go_ret2
      rw [HE.out]
      exact ⟨rfl, S3.out⟩
  · have HR := hid (show askF xs nonce draw = (xs, 0, 1) by rw [HF.out, hh, decide_eq_false hd0]; rfl)
    go_wp2_with fail
    go_ret2
    rw [HR.out]
    exact stay_s Z st xs w H.out B1.out
theorem fin_any (sig draw : Int) (h : AR w Z st xs) (hT : Cx B w Z) (hd : I64 draw) :
    Calls Tryd.prog 20 #[.pointer (some ⟨st, 0, none⟩), .int .i64 sig, .int .i64 draw] w (StpS w Z st (finF xs sig draw)) := by
  have H := hid h; have HT := hid hT; have HD := hid hd
  have hf : finF xs sig draw = if makE xs (atN draw) == 0 then unblF (makT xs (atN draw)) sig (makI xs (atN draw)) else (makT xs (atN draw), 0, makE xs (atN draw)) := rfl
  have HF := hid hf
  clear h hT hf
  go_enter Tryd.func20, Tryd.ntmps20
  go_wp2_with fail
  refine (fresh_any Z st xs B _ draw H.out HT.out.tb HT.out.le HD.out).mono ?_
  rintro e2 w2 ⟨rfl, s2⟩
  have S2 := hid s2
  clear s2
  rcases he : (makE xs (atN draw) == 0) with _ | _
  · have hne : (makE xs (atN draw) != 0) = true := by rw [bne, he]; rfl
    have HE := hid (show finF xs sig draw = (makT xs (atN draw), 0, makE xs (atN draw)) by rw [HF.out, he]; rfl)
    generalize makE xs (atN draw) = ee at *
    go_wp2_with fail
    go_ret2
    rw [HE.out]
    exact ⟨rfl, S2.out⟩
  · have hne : (makE xs (atN draw) != 0) = false := by rw [bne, he]; rfl
    have HE := hid (show finF xs sig draw = unblF (makT xs (atN draw)) sig (makI xs (atN draw)) by rw [HF.out, he]; rfl)
    generalize makE xs (atN draw) = ee at *
    obtain ⟨Z2, a2, t2, z2⟩ := S2.out
    have A2 := hid a2
    have T2 := hid t2
    have C2 := hid (HT.out.turn t2 z2)
    have Z2' := hid z2
    clear a2 t2 z2
    go_wp2_with fail
    refine (unblind_any Z2 st _ B _ sig _ A2.out C2.out.tb C2.out.le).mono ?_
    rintro e3 w3 ⟨rfl, s3⟩
    have S3 := hid (ArS.chain T2.out Z2'.out s3)
    clear s3
    go_wp2_with fail
    go_ret2
    rw [HE.out]
    exact ⟨rfl, S3.out⟩
end
end Go.Proofs.YtanakgbhmmemoaaDoor
