import Derived.Test.YtfmkniakfgpgjaaDoorY04
import Derived.Test.YtfmkniakfgpgjaaDoorY03
import Derived.Test.YtfmkniakfgpgjaaDoorY02
import Derived.Lib.Builder
import Derived.Lib.AppendStr
import Derived.Lib.UnsafeStr
import Derived.Laws.Externs
import Derived.Lib.ItoaLen
import Derived.Deep.RegionHeld3
import Derived.Shelf.Spec.SlicesInsert
/- token: New, Ask, Finish. -/
namespace Go.Proofs.YtfmkniakfgpgjaaDoor
open Go.RowKit Go.KK Go.Shelf Go.Maps
set_option linter.unusedVariables false
set_option linter.unusedSimpArgs false

/-- The table of tens and the arena's blocks lie so that what is made turns nothing below B. -/
structure Cx (B : Nat) (w : World) (Z : Nat → Prop) : Prop where
  tb : Tb B w
  le : B ≤ w.heap.size
  z : ∀ b, Z b → B ≤ b
theorem Cx.below {B : Nat} {w w1 : World} {Z : Nat → Prop} (h : Cx B w Z) (hb : Below w.heap.size w w1) : Cx B w1 Z := ⟨h.tb.on (hb.mono h.le), Nat.le_trans h.le hb.size, h.z⟩
theorem Cx.turn {B : Nat} {w w1 : World} {Z Z1 : Nat → Prop} (h : Cx B w Z) (ht : Turn Z w w1) (hz : ∀ b, Z1 b → Z b ∨ w.heap.size ≤ b) : Cx B w1 Z1 :=
  ⟨h.tb.on (ht.below h.z h.le), Nat.le_trans h.le ht.size, fun b hb => (hz b hb).elim (h.z b) fun h1 => Nat.le_trans h.le h1⟩
theorem I64.idx {xs : List ND} (hok : Okay xs) (x : ND) : I64 (makI xs x) := by
  have := hok.len
  unfold makI I64
  split
  · split
    · have h1 := List.idxOf_le_length (a := x) (l := xs); omega
    · split <;> omega
  · omega
/-- A mint's value, whose rows' heads are these. -/
def mtV (m : MT) (g p : Value) : Value := .agg #[.int .i64 m.k, .int .i64 m.q, g, p]
section
variable (Z : Nat → Prop) (st : Nat) (xs : List ND) (B : Nat) (w : World)
theorem kno_one (t : Int) : kno xs [t] = hasB xs t := by unfold kno; simp
set_option maxHeartbeats 1000000 in
theorem tnew_any (sk quota : Int) (h : ArV w 85 st xs) :
    Calls Tryd.prog 6 #[.pointer (some ⟨st, 0, none⟩), .int .i64 sk, .int .i64 quota] w fun e w' => e = .returned (.tuple #[mtV (newF xs sk quota).1 (.slice none 0 0) (.slice none 0 0), .int .i64 (newF xs sk quota).2]) ∧ Below w.heap.size w w' := by
  have H := hid h
  have B0 := hid (show Below w.heap.size w (w.alloc (.cells #[.int .i64 0, .int .i64 0, .slice none 0 0, .slice none 0 0] 31)) from (Below.refl _ _).alloc (Nat.le_refl _) _)
  have X0 := hid (show (w.alloc (.cells #[.int .i64 0, .int .i64 0, .slice none 0 0, .slice none 0 0] 31)).ownsRow w.heap.size 31 4 (.slice (some ⟨w.heap.size, 0, none⟩) 1 1) 1 [.int .i64 0, .int .i64 0, .slice none 0 0, .slice none 0 0] from
    ⟨by simp, .inr ⟨w.heap.size, 1, _, rfl, Nat.le_refl _, heap_alloc_new w _, Nat.le_refl _, by decide, rfl, by simp⟩⟩)
  have hf : newF xs sk quota = if hasB xs sk && decide (0 ≤ quota) then (⟨sk, quota, [], []⟩, 0) else (mt0, 1) := rfl
  have HF := hid hf
  clear h hf
  go_enter Tryd.func6, Tryd.ntmps6
  go_upto_region 1 with fail
  generalize w.alloc (.cells #[.int .i64 0, .int .i64 0, .slice none 0 0, .slice none 0 0] 31) = W0 at *
  have B1 := hid (B0.out.alloc B0.out.size (.cells #[.int .i64 sk] 3))
  have HKN := hid (known_any st xs (W0.alloc (.cells #[.int .i64 sk] 3)) (some ⟨W0.heap.size, 0, none⟩) 1 1 [sk] (H.out.ext B1.out) (sla_row #[.int .i64 sk] (by unfold maxLen; simp)) (by decide))
  have X1 := hid (X0.out.alloc (.cells #[.int .i64 sk] 3))
  go_wp2_with fail
  refine HKN.out.mono ?_
  rintro e1 w1 ⟨rfl, b1⟩
  rw [kno_one]
  have B2 := hid (B1.out.trans (b1.mono B1.out.size))
  have X2 := hid (own_ext X1.out b1)
  obtain ⟨⟨k0, k1, k2, k3⟩, f0, f1, f2, f3⟩ := box4 X2.out
  clear b1 HKN
  have hend : ∀ v0 v1 v2 v3 : Value, Below w.heap.size w ((((w1.setCell ⟨w.heap.size, 0, none⟩ v0).setCell ⟨w.heap.size, 1, none⟩ v1).setCell ⟨w.heap.size, 2, none⟩ v2).setCell ⟨w.heap.size, 3, none⟩ v3) := fun v0 v1 v2 v3 =>
    (((B2.out.setCell (p := ⟨w.heap.size, 0, none⟩) (Nat.le_refl _) _).setCell (p := ⟨w.heap.size, 1, none⟩) (Nat.le_refl _) _).setCell (p := ⟨w.heap.size, 2, none⟩) (Nat.le_refl _) _).setCell (p := ⟨w.heap.size, 3, none⟩) (Nat.le_refl _) _
  have HEND := hid hend
  clear hend
  by_cases hq : hasB xs sk = true ∧ 0 ≤ quota
  · have HR := hid (show newF xs sk quota = (⟨sk, quota, [], []⟩, 0) by rw [HF.out, hq.1, decide_eq_true hq.2]; rfl)
    obtain ⟨q1, q2⟩ := hq
    rw [q1]
    clear q1
    go_wp2_with fail
    refine bodyPost_ret (v := .tuple #[.agg #[.int .i64 sk, .int .i64 quota, .slice none 0 0, .slice none 0 0], .int .i64 0]) ?_ rfl ⟨?_, HEND.out _ _ _ _⟩
    · rw [results_cell_tmp rfl]
      go_simp
    · rw [HR.out]; rfl
  · have HR := hid (show newF xs sk quota = (mt0, 1) by
      rw [HF.out, if_neg]
      simpa using hq)
    have hq2 : hasB xs sk = false ∨ (hasB xs sk = true ∧ quota < 0) := by
      rcases hb : hasB xs sk with _ | _
      · exact .inl rfl
      · exact .inr ⟨rfl, by have : ¬ 0 ≤ quota := fun h => hq ⟨hb, h⟩; omega⟩
    clear hq
    rcases hq2 with q1 | ⟨q1, q2⟩
    all_goals
      rw [q1]
      clear q1
      go_wp2_with fail
      refine bodyPost_ret (v := .tuple #[.agg #[.int .i64 0, .int .i64 0, .slice none 0 0, .slice none 0 0], .int .i64 1]) ?_ rfl ⟨?_, HEND.out _ _ _ _⟩
      · rw [results_cell_tmp rfl]
        go_simp
      · rw [HR.out]; rfl
theorem ask_any (nonce draw : Int) (h : AR w Z st xs) (hT : Cx B w Z) (hd : I64 draw) :
    Calls Tryd.prog 11 #[.pointer (some ⟨st, 0, none⟩), .int .i64 nonce, .int .i64 draw] w (StpS w Z st (askF xs nonce draw)) := by
  have H := hid h; have HT := hid hT; have HD := hid hd
  have B0 := hid (show Below w.heap.size w (w.alloc (.cells #[.int .i64 nonce] 3)) from (Below.refl _ _).alloc (Nat.le_refl _) _)
  have hf : askF xs nonce draw = if hasB xs nonce && decide (0 ≤ draw) then if makE xs (atN draw) == 0 then mk (makT xs (atN draw)) (ndN 12 [nonce, makI xs (atN draw)]) else (makT xs (atN draw), 0, makE xs (atN draw)) else (xs, 0, 1) := rfl
  have HF := hid hf
  have hok := h.ok
  clear h hT hf
  go_enter Tryd.func11, Tryd.ntmps11
  go_wp2_with fail
  refine (known_any st xs _ _ 1 1 [nonce] (H.out.vw.ext B0.out) (sla_row #[.int .i64 nonce] (by unfold maxLen; simp)) (by decide)).mono ?_
  rintro e1 w1 ⟨rfl, b1⟩
  rw [kno_one]
  have B1 := hid (B0.out.trans (b1.mono B0.out.size))
  clear b1
  rcases hh : hasB xs nonce with _ | _
  · have HR := hid (show askF xs nonce draw = (xs, 0, 1) by rw [HF.out, hh]; rfl)
    go_wp2_with fail
    go_ret2
    rw [HR.out]
    exact stay_s Z st xs w H.out B1.out
  by_cases hd0 : 0 ≤ draw
  · have HR := hid (show askF xs nonce draw = if makE xs (atN draw) == 0 then mk (makT xs (atN draw)) (ndN 12 [nonce, makI xs (atN draw)]) else (makT xs (atN draw), 0, makE xs (atN draw)) by rw [HF.out, hh, decide_eq_true hd0]; rfl)
    have HN := hid (has_i64 hok hh)
    have HIJ := hid (I64.idx hok (atN draw))
    clear hh
    go_wp2_with fail
    refine (fresh_any Z st xs B _ draw (H.out.ext B1.out) (HT.out.below B1.out).tb (HT.out.below B1.out).le HD.out).mono ?_
    rintro e2 w2 ⟨rfl, s2⟩
    have S2 := hid (s2.first B1.out)
    clear s2
    rcases he : (makE xs (atN draw) == 0) with _ | _
    · have hne : (makE xs (atN draw) != 0) = true := by rw [bne, he]; rfl
      have HE := hid (show askF xs nonce draw = (makT xs (atN draw), 0, makE xs (atN draw)) by rw [HR.out, he]; rfl)
      generalize makE xs (atN draw) = ee at *
      go_wp2_with fail
      go_ret2
      rw [HE.out]
      exact ⟨rfl, S2.out⟩
    · have hne : (makE xs (atN draw) != 0) = false := by rw [bne, he]; rfl
      have HE := hid (show askF xs nonce draw = mk (makT xs (atN draw)) (ndN 12 [nonce, makI xs (atN draw)]) by rw [HR.out, he]; rfl)
      generalize makE xs (atN draw) = ee at *
      obtain ⟨Z2, a2, t2, z2⟩ := S2.out
      have A2 := hid a2
      have T2 := hid t2
      have C2 := hid (HT.out.turn t2 z2)
      have Z2' := hid z2
      clear a2 t2 z2
      go_wp2_with fail
      refine (blind_any Z2 st _ B _ nonce _ A2.out C2.out.tb C2.out.le HN.out HIJ.out).mono ?_
      rintro e3 w3 ⟨rfl, s3⟩
      have S3 := hid (ArS.chain T2.out Z2'.out s3)
      clear s3
      go_wp2_with fail
      go_ret2
      rw [HE.out]
      exact ⟨rfl, S3.out⟩
  · have HR := hid (show askF xs nonce draw = (xs, 0, 1) by rw [HF.out, hh, decide_eq_false hd0]; rfl)
    go_wp2_with fail
    go_ret2
    rw [HR.out]
    exact stay_s Z st xs w H.out B1.out
theorem fin_any (sig draw : Int) (h : AR w Z st xs) (hT : Cx B w Z) (hd : I64 draw) :
    Calls Tryd.prog 16 #[.pointer (some ⟨st, 0, none⟩), .int .i64 sig, .int .i64 draw] w (StpS w Z st (finF xs sig draw)) := by
  have H := hid h; have HT := hid hT; have HD := hid hd
  have hf : finF xs sig draw = if makE xs (atN draw) == 0 then unblF (makT xs (atN draw)) sig (makI xs (atN draw)) else (makT xs (atN draw), 0, makE xs (atN draw)) := rfl
  have HF := hid hf
  clear h hT hf
  go_enter Tryd.func16, Tryd.ntmps16
  go_wp2_with fail
  refine (fresh_any Z st xs B _ draw H.out HT.out.tb HT.out.le HD.out).mono ?_
  rintro e2 w2 ⟨rfl, s2⟩
  have S2 := hid s2
  clear s2
  rcases he : (makE xs (atN draw) == 0) with _ | _
  · have hne : (makE xs (atN draw) != 0) = true := by rw [bne, he]; rfl
    have HE := hid (show finF xs sig draw = (makT xs (atN draw), 0, makE xs (atN draw)) by rw [HF.out, he]; rfl)
    generalize makE xs (atN draw) = ee at *
    go_wp2_with fail
    go_ret2
    rw [HE.out]
    exact ⟨rfl, S2.out⟩
  · have hne : (makE xs (atN draw) != 0) = false := by rw [bne, he]; rfl
    have HE := hid (show finF xs sig draw = unblF (makT xs (atN draw)) sig (makI xs (atN draw)) by rw [HF.out, he]; rfl)
    generalize makE xs (atN draw) = ee at *
    obtain ⟨Z2, a2, t2, z2⟩ := S2.out
    have A2 := hid a2
    have T2 := hid t2
    have C2 := hid (HT.out.turn t2 z2)
    have Z2' := hid z2
    clear a2 t2 z2
    go_wp2_with fail
    refine (unblind_any Z2 st _ B _ sig _ A2.out C2.out.tb C2.out.le).mono ?_
    rintro e3 w3 ⟨rfl, s3⟩
    have S3 := hid (ArS.chain T2.out Z2'.out s3)
    clear s3
    go_wp2_with fail
    go_ret2
    rw [HE.out]
    exact ⟨rfl, S3.out⟩
end
end Go.Proofs.YtfmkniakfgpgjaaDoor

/- the document's term: New, Atom; the law's arenas. -/
namespace Go.Proofs.YtfmkniakfgpgjaaDoor
open Go.RowKit Go.KK Go.Shelf Go.Maps
set_option linter.unusedVariables false
set_option linter.unusedSimpArgs false

/-- The document's arena at block st, all of its blocks in Z. -/
def AQ (w : World) (Z : Nat → Prop) (st : Nat) (xs : List ND) : Prop := ∃ mp v qs, ArR w Z st mp v xs qs
def AqS (w : World) (Z : Nat → Prop) (st : Nat) (xs : List ND) (w' : World) : Prop := ∃ Z', AQ w' Z' st xs ∧ Turn Z w w' ∧ ∀ b, Z' b → Z b ∨ w.heap.size ≤ b
theorem AqS.of {w w' : World} {Z : Nat → Prop} {st mp : Nat} {xs : List ND} (h : MakR w Z st mp xs w') : AqS w Z st xs w' := by
  obtain ⟨Z', v, qs, h1, h2, h3⟩ := h
  exact ⟨Z', ⟨mp, v, qs, h1⟩, h2, h3⟩
theorem AQ.ext {w w' : World} {Z : Nat → Prop} {st : Nat} {xs : List ND} (h : AQ w Z st xs) (hb : Below w.heap.size w w') : AQ w' Z st xs := by
  obtain ⟨mp, v, qs, h1⟩ := h
  exact ⟨mp, v, qs, h1.ext hb⟩
theorem AQ.zlt {w : World} {Z : Nat → Prop} {st : Nat} {xs : List ND} (h : AQ w Z st xs) : ∀ b, Z b → b < w.heap.size := by
  obtain ⟨mp, v, qs, h1⟩ := h
  exact h1.zlt
theorem AQ.ok {w : World} {Z : Nat → Prop} {st : Nat} {xs : List ND} (h : AQ w Z st xs) : Okay xs := by
  obtain ⟨mp, v, qs, h1⟩ := h
  exact h1.ok
theorem AQ.vw {w : World} {Z : Nat → Prop} {st : Nat} {xs : List ND} (h : AQ w Z st xs) : ArV w 78 st xs := by
  obtain ⟨mp, v, qs, h1⟩ := h
  exact Ar.v h1
theorem AQ.turn {F : Nat → Prop} {w w' : World} {Z : Nat → Prop} {st : Nat} {xs : List ND} (h : AQ w Z st xs) (ht : Turn F w w') (hd : ∀ b, Z b → ¬ F b) : AQ w' Z st xs := by
  obtain ⟨mp, v, qs, h1⟩ := h
  exact ⟨mp, v, qs, h1.turn ht hd⟩
theorem AR.turn {F : Nat → Prop} {w w' : World} {Z : Nat → Prop} {st : Nat} {xs : List ND} (h : AR w Z st xs) (ht : Turn F w w') (hd : ∀ b, Z b → ¬ F b) : AR w' Z st xs := by
  obtain ⟨mp, v, qs, h1⟩ := h
  exact ⟨mp, v, qs, h1.turn ht hd⟩
theorem AqS.first {w w1 w2 : World} {Z : Nat → Prop} {st : Nat} {xs : List ND} (hb : Below w.heap.size w w1) (h : AqS w1 Z st xs w2) : AqS w Z st xs w2 := by
  obtain ⟨Z', h1, h2, h3⟩ := h
  refine ⟨Z', h1, (Turn.of_below hb).trans h2 (fun _ h => .inl h), fun b hz => (h3 b hz).imp id fun h => Nat.le_trans hb.size h⟩
theorem rmke_any (Z : Nat → Prop) (st : Nat) (xs : List ND) (w : World) (x : ND) (A : Option Addr) (c : Nat) (h : AQ w Z st xs) (hl : SlA w 1 A x.l.length c (x.l.map (.int .i64))) (hx : NdI x) :
    Calls Tryd.prog 50 #[.pointer (some ⟨st, 0, none⟩), .agg #[.int .i64 x.o, .int .i64 x.n, .string x.s, .slice A x.l.length c]] w fun e w' => e = .returned (.tuple #[.int .i64 (makI xs x), .int .i64 (makE xs x)]) ∧ AqS w Z st (makT xs x) w' := by
  obtain ⟨mp, v, qs, h⟩ := h
  exact (rmake_any Z st mp v xs qs x A c w h hl hx).mono fun e w' ⟨h1, h2⟩ => ⟨h1, .of h2⟩
theorem ratom_any (Z : Nat → Prop) (st : Nat) (xs : List ND) (w : World) (n : Int) (h : AQ w Z st xs) (hn : I64 n) :
    Calls Tryd.prog 27 #[.pointer (some ⟨st, 0, none⟩), .int .i64 n] w fun e w' => e = .returned (.tuple #[.int .i64 (makI xs (atN n)), .int .i64 (makE xs (atN n))]) ∧ AqS w Z st (makT xs (atN n)) w' := by
  have HM := hid (rmke_any Z st xs w (atN n) none 0 h (SlA.nil _ _) (ndI_at hn))
  clear h
  go_enter Tryd.func27, Tryd.ntmps27
  go_wp2_with fail
  refine HM.out.mono ?_
  rintro e w' ⟨rfl, hs⟩
  have HS := hid hs
  clear hs
  go_wp2_with fail
  go_ret2
  exact ⟨rfl, HS.out⟩
theorem rnew_any (w : World) : Calls Tryd.prog 25 #[] w fun e w' => ∃ Z st, e = .returned (.pointer (some ⟨st, 0, none⟩)) ∧ AQ w' Z st [] ∧ (∀ b, Z b → w.heap.size ≤ b) ∧ Below w.heap.size w w' := by
  have hmm := @run_makeMap Tryd.prog
  go_enter Tryd.func25, Tryd.ntmps25
  go_wp2
  go_ret
  have B1 : Below w.heap.size w (w.alloc (.map #[] 0)) := (Below.refl _ _).alloc (Nat.le_refl _) _
  have hm0 := World.ownsMap_made (H := Unit) w Tryd.prog 9 (plainElem Tryd.prog 3)
  refine ⟨fun b => b = w.heap.size ∨ b = w.heap.size + 1, w.heap.size + 1, by simp, ⟨w.heap.size, .slice none 0 0, [], ?_⟩, fun b hb => by rcases hb with rfl | rfl <;> omega, B1.alloc (by simp) _⟩
  have hsz : (w.alloc (.map #[] 0)).heap.size = w.heap.size + 1 := by simp
  refine ⟨?_, World.ownsRow_nil _ _ _ _, rfl, fun j x q h => by simp at h, fun j x q b h => by simp at h, ⟨.map [], ?_, mapOk_nil _⟩, .inr rfl, ⟨.inl rfl, by omega⟩, fun b h => (by cases h), fun b hb => ?_, okay_nil⟩
  · have := heap_alloc_new (w.alloc (.map #[] 0)) (.cells #[.slice none 0 0, .map (some w.heap.size)] 78)
    rw [hsz] at this
    exact this
  · exact hm0.alloc _
  · have h2 : ((w.alloc (.map #[] 0)).alloc (.cells #[.slice none 0 0, .map (some w.heap.size)] 78)).heap.size = w.heap.size + 1 + 1 := by simp
    rcases hb with rfl | rfl <;> omega
/-- Both arenas, with n secrets. -/
def TwoI (w : World) (sa sb n : Nat) (w' : World) : Prop := ∃ Z Z', AR w' Z sa (atoms n) ∧ AQ w' Z' sb (atoms n) ∧ (∀ b, Z b → ¬ Z' b) ∧ (∀ b, Z b → w.heap.size ≤ b) ∧ (∀ b, Z' b → w.heap.size ≤ b) ∧ Below w.heap.size w w'
def TwoS (n : Nat) (w : World) (e : Ending) (w' : World) : Prop := ∃ sa sb, e = .returned (.tuple #[.pointer (some ⟨sa, 0, none⟩), .pointer (some ⟨sb, 0, none⟩)]) ∧ TwoI w sa sb n w'
theorem twoI_a {w w1 w2 : World} {sa sb n : Nat} {Z Z' : Nat → Prop} (hn : n < 1000) (hq : AQ w1 Z' sb (atoms n)) (hd : ∀ b, Z b → ¬ Z' b) (hz : ∀ b, Z b → w.heap.size ≤ b) (hz' : ∀ b, Z' b → w.heap.size ≤ b) (hb : Below w.heap.size w w1) (hs : ArS w1 Z sa (makT (atoms n) (atN n)) w2) :
    ∃ Z2, AR w2 Z2 sa (atoms (n + 1)) ∧ AQ w2 Z' sb (atoms n) ∧ (∀ b, Z2 b → ¬ Z' b) ∧ (∀ b, Z2 b → w.heap.size ≤ b) ∧ Below w.heap.size w w2 := by
  obtain ⟨Z2, h1, h2, h3⟩ := hs
  rw [atoms_step (by omega)] at h1
  refine ⟨Z2, h1, hq.turn h2 (fun b h k => hd b k h), fun b h2 h' => ?_, fun b h => (h3 b h).elim (hz b) fun h => Nat.le_trans hb.size h, hb.trans (h2.below hz hb.size)⟩
  rcases h3 b h2 with h | h
  · exact hd b h h'
  · have := hq.zlt b h'; omega
theorem twoI_b {w w1 w2 : World} {sa sb n : Nat} {Z Z' : Nat → Prop} (hn : n < 1000) (ha : AR w1 Z sa (atoms (n + 1))) (hd : ∀ b, Z b → ¬ Z' b) (hz : ∀ b, Z b → w.heap.size ≤ b) (hz' : ∀ b, Z' b → w.heap.size ≤ b) (hb : Below w.heap.size w w1) (hs : AqS w1 Z' sb (makT (atoms n) (atN n)) w2) :
    TwoI w sa sb (n + 1) w2 := by
  obtain ⟨Z2, h1, h2, h3⟩ := hs
  rw [atoms_step (by omega)] at h1
  refine ⟨Z, Z2, ha.turn h2 (fun b h k => hd b h k), h1, fun b h2 h' => ?_, hz, fun b h => (h3 b h).elim (hz' b) fun h => Nat.le_trans hb.size h, hb.trans (h2.below hz' hb.size)⟩
  rcases h3 b h' with h | h
  · exact hd b h2 h
  · have := ha.zlt b h2; omega
end Go.Proofs.YtfmkniakfgpgjaaDoor

/- what the arena's Make leaves (over crypto's text of it). -/

/- term: a strings.Builder at the head of a writer: copyCheck, Len, WriteString, WriteByte, String. -/
namespace Go.Proofs.YtfmkniakfgpgjaaDoor
open Go.RowKit Go.KK Go.Shelf Go.Maps
set_option linter.unusedVariables false
set_option linter.unusedSimpArgs false

/-- All blocks but b and rows of bytes are as they were. -/
def Oth (b : Nat) (w w' : World) : Prop := ∀ k cs T fz, w.heap[k]? = some (.cells cs T fz) → T ≠ 5 → k ≠ b → w'.heap[k]? = w.heap[k]?
theorem Oth.refl (b : Nat) (w : World) : Oth b w w := fun _ _ _ _ _ _ _ => rfl
theorem Oth.trans {b : Nat} {w w' w'' : World} (h : Oth b w w') (k : Oth b w' w'') : Oth b w w'' := fun i cs T fz e hT hb => (k i cs T fz ((h i cs T fz e hT hb).trans e) hT hb).trans (h i cs T fz e hT hb)
theorem Oth.below {b : Nat} {w w' : World} (h : Below w.heap.size w w') : Oth b w w' := fun i cs T fz e _ _ => h.block i (by
  rcases Nat.lt_or_ge i w.heap.size with h' | h'
  · exact h'
  · simp [Array.getElem?_eq_none h'] at e)
theorem Oth.set (b o : Nat) (w : World) (v : Value) : Oth b w (w.setCell ⟨b, o, none⟩ v) := fun i _ _ _ _ _ hb => Below.heap_setCell w ⟨b, o, none⟩ v i hb
theorem Oth.grown {b base n : Nat} {v : Value} {bs : List Value} {w w' : World} (h : w.ownsRow base 5 1 v n bs) (hg : w.grownBy w' v.ownBlock) : Oth b w w' := fun i cs T fz e hT _ => hg.block i (by
  rcases Nat.lt_or_ge i w.heap.size with h' | h'
  · exact h'
  · simp [Array.getElem?_eq_none h'] at e) (fun e2 => by
    rcases h.2 with ⟨rfl, _⟩ | ⟨g, cap, cur, rfl, _, hg', _⟩
    · cases e2
    · injection e2 with e2
      simp only at e2
      subst e2
      rw [hg'] at e
      injection e with e
      injection e with _ e _
      exact hT e.symm)
theorem Oth.cell {b : Nat} {w w' : World} {k o : Nat} {cs : Array Value} {T : TypeId} {fz : Nat × Nat} {v : Value} (h : Oth b w w') (e : w.heap[k]? = some (.cells cs T fz)) (hT : T ≠ 5) (hb : k ≠ b) (hc : w.cell? ⟨k, o, none⟩ = some v) : w'.cell? ⟨k, o, none⟩ = some v :=
  (World.cell?_of_block (a := ⟨k, o, none⟩) (h k cs T fz e hT hb)).trans hc
section
variable {B b : Nat} {p a : Value} {bs : List Value} {w w' : World}
end
section
variable (B b : Nat) (a : Value) (bs : List Value) (w : World)
end
end Go.Proofs.YtfmkniakfgpgjaaDoor

/- plain: nodes made one behind the other: a node that is made again is the same term (TermOnce). -/
namespace Go.KK
open Go.RowKit
set_option linter.unusedVariables false
set_option linter.unusedSimpArgs false

theorem has_iff {xs : List ND} {t : Int} : hasB xs t = true ↔ 0 ≤ t ∧ t < (xs.length : Nat) := by
  unfold hasB
  simp only [Bool.and_eq_true, decide_eq_true_eq]
theorem may_app {xs : List ND} (l : List ND) {x : ND} (h : mayB xs x = true) : mayB (xs ++ l) x = true := by
  unfold mayB at h ⊢
  simp only [Bool.and_eq_true, List.all_eq_true, Bool.or_eq_true] at h ⊢
  refine ⟨⟨h.1.1, fun t ht => ?_⟩, h.2.imp id fun h2 => ?_⟩
  · have := h.1.2 t ht
    unfold hasB at this ⊢
    simp only [Bool.and_eq_true, decide_eq_true_eq, List.length_append] at this ⊢
    omega
  · have h3 : opAt xs (x.l.getD 1 0) = 2 := eq_of_beq h2
    have h4 : opAt (xs ++ l) (x.l.getD 1 0) = 2 := by
      unfold opAt at h3 ⊢
      rcases hh : xs[(x.l.getD 1 0).toNat]? with _ | y
      · rw [hh] at h3; exact absurd h3 (by decide)
      · rw [List.getElem?_append_left (List.getElem?_eq_some_iff.1 hh).1, hh]
        rw [hh] at h3; exact h3
    exact beq_iff_eq.2 h4
theorem take_one {α : Type} {l : List α} {j : Nat} {x : α} (h : l[j]? = some x) : l.take (j + 1) = l.take j ++ [x] := by rw [List.take_add_one, h]; rfl
end Go.KK

/- plain: a term's text, and what a writer writes of it that stops behind 4000 bytes. -/
namespace Go.KK
open Go.RowKit
set_option linter.unusedVariables false
set_option linter.unusedSimpArgs false

/-- Behind n bytes: all of it is written, if it ends by 4000; else so much that it is beyond. -/
def Cut (n : Nat) (tgt out : List UInt8) : Prop := (n + tgt.length ≤ 4000 → out = tgt) ∧ (4000 < n + tgt.length → 4000 < n + out.length)
theorem Cut.app {n : Nat} {t1 o1 t2 o2 : List UInt8} (h : Cut n t1 o1) (k : Cut (n + o1.length) t2 o2) : Cut n (t1 ++ t2) (o1 ++ o2) := by
  refine ⟨fun h' => ?_, fun h' => ?_⟩
  · rw [List.length_append] at h'
    have e1 := h.1 (by omega)
    subst e1
    rw [k.1 (by omega)]
  · rw [List.length_append] at h' ⊢
    by_cases h1 : n + t1.length ≤ 4000
    · have e1 := h.1 h1
      subst e1
      have := k.2 (by omega)
      omega
    · have := h.2 (by omega)
      omega
end Go.KK

/- term: a writer writes a term (of its texts what a Replacer makes of them). -/
namespace Go.Proofs.YtfmkniakfgpgjaaDoor
open Go.RowKit Go.KK Go.Shelf Go.Maps
set_option linter.unusedVariables false
set_option linter.unusedSimpArgs false

section
variable (W0 : World) (sa b : Nat) (xs : List ND)
end
end Go.Proofs.YtfmkniakfgpgjaaDoor

/- token: find, Had. -/
namespace Go.Proofs.YtfmkniakfgpgjaaDoor
open Go.RowKit Go.KK Go.Shelf Go.Maps
set_option linter.unusedVariables false
set_option linter.unusedSimpArgs false

/-- The cells of a row of counts. -/
def cts (g : List (Int × Int)) : List Value := g.flatMap fun c => [.int .i64 c.1, .int .i64 c.2]
theorem cts_len (g : List (Int × Int)) : (cts g).length = g.length * 2 := by
  unfold cts
  induction g with
  | nil => rfl
  | cons c g ih => rw [List.flatMap_cons, List.length_append, ih, List.length_cons]; simp; omega
theorem cts_get : ∀ {g : List (Int × Int)} {j : Nat} {c : Int × Int}, g[j]? = some c → (cts g)[j * 2]? = some (.int .i64 c.1) ∧ (cts g)[j * 2 + 1]? = some (.int .i64 c.2)
  | [], _, _, h => by simp at h
  | d :: g, 0, c, h => by
    injection h with h
    subst h
    exact ⟨rfl, rfl⟩
  | d :: g, j + 1, c, h => by
    have := cts_get (g := g) (j := j) (c := c) (by simpa using h)
    have e : cts (d :: g) = .int .i64 d.1 :: .int .i64 d.2 :: cts g := rfl
    rw [e, show (j + 1) * 2 = j * 2 + 1 + 1 by omega, show j * 2 + 1 + 1 + 1 = j * 2 + 1 + 1 + 1 from rfl]
    exact ⟨by simpa using this.1, by simpa using this.2⟩
/-- A row of counts that reads. -/
abbrev CtA (w : World) (A : Option Addr) (c : Nat) (g : List (Int × Int)) : Prop := SlA w 2 A g.length c (cts g)
theorem ctA_at {w : World} {A : Option Addr} {c : Nat} {g : List (Int × Int)} (h : CtA w A c g) {j : Nat} (hj : j < g.length) : ∃ b o x, A = some ⟨b, o, none⟩ ∧ g[j]? = some x ∧ w.cell? ⟨b, o + j * 2, none⟩ = some (.int .i64 x.1) ∧ w.cell? ⟨b, o + j * 2 + 1, none⟩ = some (.int .i64 x.2) := by
  have hx : g[j]? = some g[j] := List.getElem?_eq_getElem hj
  obtain ⟨g1, g2⟩ := cts_get hx
  obtain ⟨b, o, rfl, h1⟩ := h.cells _ _ g1
  obtain ⟨b', o', e, h2⟩ := h.cells _ _ g2
  injection e with e
  injection e with e1 e2
  subst e1; subst e2
  exact ⟨b, o, g[j], rfl, hx, h1, h2⟩
/-- By who, rising. -/
def CtS (g : List (Int × Int)) : Prop := g.Pairwise fun a b => a.1 < b.1
theorem cts_rise {g : List (Int × Int)} (h : CtS g) {i j : Nat} {a b : Int × Int} (ha : g[i]? = some a) (hb : g[j]? = some b) (hij : i < j) : a.1 < b.1 := by
  obtain ⟨hi, rfl⟩ := List.getElem?_eq_some_iff.1 ha
  obtain ⟨hj, rfl⟩ := List.getElem?_eq_some_iff.1 hb
  exact List.pairwise_iff_getElem.1 h i j hi hj hij
theorem lb_is {g : List (Int × Int)} (w : Int) {i : Nat} (hi : i ≤ g.length) (h1 : ∀ (k : Nat) c, g[k]? = some c → k < i → c.1 < w) (h2 : ∀ (k : Nat) c, g[k]? = some c → i ≤ k → w ≤ c.1) : lbF g w = i := by
  unfold lbF
  rw [← List.take_append_drop i g, List.countP_append]
  have e1 : List.countP (fun c => decide (c.1 < w)) (g.take i) = (g.take i).length := by
    rw [List.countP_eq_length]
    intro c hc
    obtain ⟨k, hk, rfl⟩ := List.mem_iff_getElem.1 hc
    rw [List.getElem_take]
    have hk' : k < i := by rw [List.length_take] at hk; omega
    exact decide_eq_true (h1 k _ (List.getElem?_eq_getElem (by omega)) hk')
  have e2 : List.countP (fun c => decide (c.1 < w)) (g.drop i) = 0 := by
    rw [List.countP_eq_zero]
    intro c hc
    obtain ⟨k, hk, rfl⟩ := List.mem_iff_getElem.1 hc
    rw [List.getElem_drop]
    rw [List.length_drop] at hk
    have := h2 (i + k) _ (List.getElem?_eq_getElem (by omega)) (by omega)
    simp; omega
  rw [e1, e2, List.length_take]
  omega
theorem is_at {g : List (Int × Int)} (h : CtS g) (w : Int) {i : Nat} (h1 : ∀ (k : Nat) c, g[k]? = some c → k < i → c.1 < w) (h2 : ∀ (k : Nat) c, g[k]? = some c → i ≤ k → w ≤ c.1) : isF g w = (match g[i]? with | some c => c.1 == w | none => false) := by
  unfold isF
  rcases hc : g[i]? with _ | c
  · rw [List.any_eq_false]
    intro d hd
    obtain ⟨k, hk, rfl⟩ := List.mem_iff_getElem.1 hd
    have hk' : k < i := by
      have := List.getElem?_eq_none_iff.1 hc; omega
    have := h1 k _ (List.getElem?_eq_getElem hk) hk'
    simp; omega
  · by_cases hcw : c.1 = w
    · show _ = (c.1 == w)
      rw [beq_iff_eq.2 hcw, List.any_eq_true]
      exact ⟨c, List.mem_of_getElem? hc, beq_iff_eq.2 hcw⟩
    · show _ = (c.1 == w)
      rw [beq_eq_false_iff_ne.2 hcw, List.any_eq_false]
      intro d hd
      obtain ⟨k, hk, rfl⟩ := List.mem_iff_getElem.1 hd
      have hd' := List.getElem?_eq_getElem hk
      rcases Nat.lt_trichotomy k i with h3 | h3 | h3
      · have := h1 k _ hd' h3; simp; omega
      · subst h3
        rw [hd'] at hc
        injection hc with hc
        rw [hc]; simpa using hcw
      · have h4 := h2 i c hc (Nat.le_refl _)
        have h5 := cts_rise h hc hd' h3
        simp; omega
theorem find1_any (c1 c2 who : Int) (w : World) :
    Calls Tryd.prog 56 #[.agg #[.int .i64 c1, .int .i64 c2], .int .i64 who] w fun e w' => e = .returned (.int .i64 (Lib.compareInt c1 who)) ∧ Below w.heap.size w w' := by
  have B0 := hid (show Below w.heap.size w (w.alloc (.cells #[.int .i64 c1, .int .i64 c2] 66)) from (Below.refl _ _).alloc (Nat.le_refl _) _)
  go_enter Tryd.func56, Tryd.ntmps56
  go_wp2_with fail
  refine (Tryd.cmp_Compare_int c1 who _).mono ?_
  rintro e w' ⟨rfl, hw⟩
  subst hw
  go_wp2
  go_ret
  exact ⟨rfl, B0.out⟩
end Go.Proofs.YtfmkniakfgpgjaaDoor

/- token: find, walked. -/
namespace Go.Proofs.YtfmkniakfgpgjaaDoor
open Go.RowKit Go.KK Go.Shelf Go.Maps
set_option linter.unusedVariables false
set_option linter.unusedSimpArgs false

theorem cmp_lt {a b : Int} (h : a < b) : Lib.compareInt a b = -1 := by unfold Lib.compareInt; rw [if_pos h]
theorem cmp_eq (a : Int) : Lib.compareInt a a = 0 := by unfold Lib.compareInt; simp
theorem cmp_gt {a b : Int} (h : b < a) : Lib.compareInt a b = 1 := by unfold Lib.compareInt; rw [if_neg (by omega), if_pos h]
set_option maxHeartbeats 2000000 in
set_option maxRecDepth 20000 in
theorem bsf_any (A : Option Addr) (c : Nat) (g : List (Int × Int)) (who : Int) (w : World) (h : CtA w A c g) (hs : CtS g) (hn : g.length ≤ 1000000) :
    Calls Tryd.prog 55 #[.slice A g.length c, .int .i64 who, .func (.func 56) #[] #[]] w fun e w' => e = .returned (.tuple #[.int .i64 (lbF g who), .bool (isF g who)]) ∧ Below w.heap.size w w' := by
  have H := hid h; have HS := hid hs
  clear h hs
  go_enter Tryd.func55, Tryd.ntmps55
  go_wp2
  go_loopw [9, 10] (fun p q wr => ∃ i j : Nat, p = .int .i64 i ∧ q = .int .i64 j ∧ i ≤ j ∧ j ≤ g.length ∧ Hid (∀ (k : Nat) c, g[k]? = some c → k < i → c.1 < who) ∧ Hid (∀ (k : Nat) c, g[k]? = some c → j ≤ k → who ≤ c.1) ∧ Below w.heap.size w wr) (fun p q _ => (intOf q).toNat - (intOf p).toNat)
  case atStart => exact ⟨0, g.length, rfl, rfl, Nat.zero_le _, Nat.le_refl _, hid (fun k c _ h => by omega), hid (fun k c hk h => by have := (List.getElem?_eq_some_iff.1 hk).1; omega), Below.refl _ _⟩
  case round =>
    obtain ⟨i, j, hi, hj, hij, hjn, HI, HJ, hb⟩ := hrel
    subst hi; subst hj
    have HB := hid hb
    clear hb
    by_cases hlt : i < j
    · have hm : (i + j) / 2 < g.length := by omega
      obtain ⟨b, o, x, rfl, hx, hc0, hc1⟩ := ctA_at (SlA.ext H.out HB.out) hm
      have HX := hid hx
      clear hx
      have hlt' : (i : Int) < (j : Int) := by omega
      go_wp2_with fail
      refine (find1_any x.1 x.2 who _).mono ?_
      rintro e1 w1 ⟨rfl, b1⟩
      have B1 := hid (HB.out.trans (b1.mono HB.out.size))
      clear b1
      by_cases hx : x.1 < who
      · rw [cmp_lt hx]
        have HXW := hid hx
        clear hx
        go_wp2_with fail
        go_roundw
        case rel =>
          refine ⟨(i + j) / 2 + 1, j, congrArg (Value.int .i64) (by omega), rfl, by omega, hjn, hid (fun k c hk hki => ?_), HJ, B1.out⟩
          rcases Nat.lt_or_ge k ((i + j) / 2) with h1 | h1
          · have := cts_rise HS.out hk HX.out h1
            have := HXW.out
            omega
          · have : k = (i + j) / 2 := by omega
            subst this
            rw [HX.out] at hk
            injection hk with hk
            subst hk
            exact HXW.out
        case measure => simp [intOf]; omega
      · have HXW := hid hx
        have hJ2 := hid (fun (k : Nat) (c : Int × Int) (hk : g[k]? = some c) (hki : (i + j) / 2 ≤ k) => (by
          rcases Nat.lt_or_ge ((i + j) / 2) k with h1 | h1
          · have := cts_rise HS.out HX.out hk h1
            have := HXW.out
            omega
          · have : k = (i + j) / 2 := by omega
            subst this
            have hx2 := HX.out
            rw [hk] at hx2
            injection hx2 with hx2
            subst hx2
            have := HXW.out
            omega : who ≤ c.1))
        have hcc : Lib.compareInt x.1 who = 0 ∨ Lib.compareInt x.1 who = 1 := by
          rcases Int.lt_trichotomy x.1 who with h1 | h1 | h1
          · exact absurd h1 hx
          · left; rw [h1]; exact cmp_eq who
          · right; exact cmp_gt h1
        clear hx
        rcases hcc with hcc | hcc
        all_goals
          rw [hcc]
          go_wp2_with fail
          go_roundw
          case rel => exact ⟨i, (i + j) / 2, rfl, congrArg (Value.int .i64) (by omega), by omega, by omega, HI, hJ2, B1.out⟩
          case measure => simp [intOf]; omega
    · have hij' : i = j := by omega
      subst hij'
      have HL := hid (lb_is who hjn HI.out HJ.out)
      have HIS := hid (is_at HS.out who HI.out HJ.out)
      by_cases hin : i < g.length
      · obtain ⟨b, o, x, rfl, hx, hc0, hc1⟩ := ctA_at (SlA.ext H.out HB.out) hin
        have HF := hid (show isF g who = (x.1 == who) by rw [HIS.out, hx])
        have hin' : (i : Int) < (g.length : Int) := by omega
        clear hx hlt
        go_wp2_with fail
        refine (find1_any x.1 x.2 who _).mono ?_
        rintro e1 w1 ⟨rfl, b1⟩
        have B1 := hid (HB.out.trans (b1.mono HB.out.size))
        clear b1
        rcases Int.lt_trichotomy x.1 who with h1 | h1 | h1
        · have HG := hid (show isF g who = false by rw [HF.out]; exact beq_eq_false_iff_ne.2 (by omega))
          rw [cmp_lt h1]
          clear h1
          go_wp2_with fail
          go_ret2
          exact ⟨by rw [HL.out, HG.out]; rfl, B1.out⟩
        · have HG := hid (show isF g who = true by rw [HF.out, h1]; simp)
          rw [h1, cmp_eq]
          clear h1
          go_wp2_with fail
          go_ret2
          exact ⟨by rw [HL.out, HG.out]; rfl, B1.out⟩
        · have HG := hid (show isF g who = false by rw [HF.out]; exact beq_eq_false_iff_ne.2 (by omega))
          rw [cmp_gt h1]
          clear h1
          go_wp2_with fail
          go_ret2
          exact ⟨by rw [HL.out, HG.out]; rfl, B1.out⟩
      · have HF := hid (show isF g who = false by rw [HIS.out, List.getElem?_eq_none (by omega)])
        have hin' : ¬ (i : Int) < (g.length : Int) := by omega
        clear hlt
        go_wp2_with fail
        go_ret2
        exact ⟨by rw [HL.out, HF.out]; rfl, HB.out⟩
theorem find_any (m : MT) (A : Option Addr) (c : Nat) (p : Value) (who : Int) (w : World) (h : CtA w A c m.g) (hs : CtS m.g) (hn : m.g.length ≤ 1000000) :
    Calls Tryd.prog 38 #[.agg #[.int .i64 m.k, .int .i64 m.q, .slice A m.g.length c, p], .int .i64 who] w fun e w' => e = .returned (.tuple #[.int .i64 (lbF m.g who), .bool (isF m.g who)]) ∧ Below w.heap.size w w' := by
  have B0 := hid (show Below w.heap.size w (w.alloc (.cells #[.int .i64 m.k, .int .i64 m.q, .slice A m.g.length c, p] 31)) from (Below.refl _ _).alloc (Nat.le_refl _) _)
  have HX := hid (bsf_any A c m.g who _ (SlA.ext h B0.out) hs hn)
  clear h hs
  go_enter Tryd.func38, Tryd.ntmps38
  go_wp2_with fail
  refine HX.out.mono ?_
  rintro e w' ⟨rfl, hb⟩
  have HB := hid (B0.out.trans (hb.mono B0.out.size))
  clear hb
  go_wp2_with fail
  go_ret2
  exact ⟨rfl, HB.out⟩
end Go.Proofs.YtfmkniakfgpgjaaDoor

/- token: Had. -/
namespace Go.Proofs.YtfmkniakfgpgjaaDoor
open Go.RowKit Go.KK Go.Shelf Go.Maps
set_option linter.unusedVariables false
set_option linter.unusedSimpArgs false

/-- Counts that stay numbers. -/
def CtB (g : List (Int × Int)) : Prop := ∀ c ∈ g, 0 ≤ c.2 ∧ c.2 ≤ 1000000
theorem lb_of {g : List (Int × Int)} (h : CtS g) {k : Nat} {c : Int × Int} (hk : g[k]? = some c) : lbF g c.1 = k := by
  have hlt := (List.getElem?_eq_some_iff.1 hk).1
  refine lb_is c.1 (by omega) (fun i d hd hi => cts_rise h hd hk hi) (fun i d hd hi => ?_)
  rcases Nat.lt_or_ge k i with h1 | h1
  · have := cts_rise h hk hd h1; omega
  · have : i = k := by omega
    subst this
    rw [hk] at hd
    injection hd with hd
    rw [hd]; omega
theorem cnt_yes {g : List (Int × Int)} (h : CtS g) {w : Int} (hi : isF g w = true) : ∃ c, g[lbF g w]? = some c ∧ c.1 = w ∧ cntF g w = c.2 ∧ c ∈ g := by
  have hs : (g.find? fun c => c.1 == w).isSome = true := by
    rw [List.find?_isSome]
    unfold isF at hi
    rw [List.any_eq_true] at hi
    obtain ⟨c, h1, h2⟩ := hi
    exact ⟨c, h1, h2⟩
  obtain ⟨c, hc⟩ := Option.isSome_iff_exists.1 hs
  have h1 := List.find?_some hc
  have h2 := List.mem_of_find?_eq_some hc
  have h3 : c.1 = w := by simpa using h1
  obtain ⟨k, hk, e⟩ := List.mem_iff_getElem.1 h2
  have hkc : g[k]? = some c := by rw [List.getElem?_eq_getElem hk, e]
  have hl := lb_of h hkc
  rw [h3] at hl
  exact ⟨c, by rw [hl]; exact hkc, h3, by unfold cntF; rw [hc], h2⟩
theorem cnt_no {g : List (Int × Int)} {w : Int} (hi : isF g w = false) : cntF g w = 0 := by
  unfold cntF
  have : (g.find? fun c => c.1 == w) = none := by
    rw [List.find?_eq_none]
    unfold isF at hi
    rw [List.any_eq_false] at hi
    exact hi
  rw [this]
theorem cnt_le {g : List (Int × Int)} (h : CtS g) (hb : CtB g) (w : Int) : 0 ≤ cntF g w ∧ cntF g w ≤ 1000000 := by
  rcases hi : isF g w with _ | _
  · rw [cnt_no hi]; omega
  · obtain ⟨c, _, _, e, hm⟩ := cnt_yes h hi
    rw [e]; exact hb c hm
theorem had_le {g : List (Int × Int)} (h : CtS g) (hb : CtB g) : ∀ l : List Int, 0 ≤ hadF g l ∧ hadF g l ≤ 1000000 * l.length
  | [] => by simp [hadF]
  | x :: l => by
    have h1 := cnt_le h hb x
    have h2 := had_le h hb l
    unfold hadF at h2 ⊢
    rw [List.map_cons, List.sum_cons, List.length_cons]
    omega
theorem had_snoc (g : List (Int × Int)) (l : List Int) (x : Int) : hadF g (l ++ [x]) = hadF g l + cntF g x := by
  unfold hadF; rw [List.map_append, List.sum_append]; simp
set_option maxHeartbeats 2000000 in
set_option maxRecDepth 20000 in
theorem had_any (m : MT) (A : Option Addr) (c : Nat) (p : Value) (A' : Option Addr) (n' c' : Nat) (l : List Int) (w : World) (h : CtA w A c m.g) (hs : CtS m.g) (hcb : CtB m.g) (hn : m.g.length ≤ 1000000) (hl : SlA w 1 A' n' c' (l.map (.int .i64))) (hln : n' ≤ 1000) :
    Calls Tryd.prog 22 #[.agg #[.int .i64 m.k, .int .i64 m.q, .slice A m.g.length c, p], .slice A' n' c'] w fun e w' => e = .returned (.int .i64 (hadF m.g l)) ∧ Below w.heap.size w w' := by
  have H := hid h; have HS := hid hs; have HCB := hid hcb; have HL := hid hl; have HLN := hid hl.lenI
  have B0 := hid (show Below w.heap.size w (w.alloc (.cells #[.int .i64 m.k, .int .i64 m.q, .slice A m.g.length c, p] 31)) from (Below.refl _ _).alloc (Nat.le_refl _) _)
  have X0 := hid (show (w.alloc (.cells #[.int .i64 m.k, .int .i64 m.q, .slice A m.g.length c, p] 31)).ownsRow w.heap.size 31 4 (.slice (some ⟨w.heap.size, 0, none⟩) 1 1) 1 [.int .i64 m.k, .int .i64 m.q, .slice A m.g.length c, p] from
    ⟨by simp, .inr ⟨w.heap.size, 1, _, rfl, Nat.le_refl _, heap_alloc_new w _, Nat.le_refl _, by decide, rfl, by simp⟩⟩)
  clear h hs hcb hl
  go_enter Tryd.func22, Tryd.ntmps22
  go_wp2
  go_loopw [12, 5] (fun i v wr => ∃ j : Nat, i = .int .i64 j ∧ j ≤ n' ∧ v = .int .i64 (hadF m.g (l.take j)) ∧ Below w.heap.size w wr ∧ wr.ownsRow w.heap.size 31 4 (.slice (some ⟨w.heap.size, 0, none⟩) 1 1) 1 [.int .i64 m.k, .int .i64 m.q, .slice A m.g.length c, p]) (fun i _ _ => n' - (intOf i).toNat)
  case atStart => exact ⟨0, rfl, Nat.zero_le _, rfl, B0.out, X0.out⟩
  case round =>
    obtain ⟨j, hi, hj, hv, hb, hx⟩ := hrel
    subst hi; subst hv
    have HB := hid hb; have HX := hid hx
    clear hb hx
    by_cases hlt : j < n'
    · obtain ⟨b1, o, z, rfl, hz, hc⟩ := (SlA.ext HL.out HB.out).elemI hlt
      have HZ := hid hz
      clear hz
      have HTK := hid (show hadF m.g (l.take (j + 1)) = hadF m.g (l.take j) + cntF m.g z by rw [take_snoc HZ.out, had_snoc])
      have hb1 := had_le HS.out HCB.out (l.take j)
      have hb2 := cnt_le HS.out HCB.out z
      have hb3 : ((l.take j).length : Int) ≤ 1000 := by rw [List.length_take]; omega
      have HB1 := hid hb1; have HB2 := hid hb2; have HB3 := hid hb3
      clear hb1 hb2 hb3
      obtain ⟨⟨k0, k1, k2, k3⟩, -⟩ := box4 HX.out
      go_wp2_with fail
      refine (find_any m A c p z _ (SlA.ext H.out HB.out) HS.out hn).mono ?_
      rintro e1 w1 ⟨rfl, b1'⟩
      have B1 := hid (HB.out.trans (b1'.mono HB.out.size))
      have X1 := hid (own_ext HX.out b1')
      clear b1' k0 k1 k2 k3 hc
      obtain ⟨⟨k0, k1, k2, k3⟩, -⟩ := box4 X1.out
      rcases hi : isF m.g z with _ | _
      · have HC := hid (cnt_no hi)
        clear hi
        generalize hadF m.g (l.take j) = acc at *
        go_wp2_with fail
        go_roundw
        case rel => exact ⟨j + 1, by go_num, by omega, by rw [HTK.out, HC.out, Int.add_zero], B1.out, X1.out⟩
        case measure => simp [intOf]; omega
      · obtain ⟨x, hx1, hx2, hx3, hx4⟩ := cnt_yes HS.out hi
        have hll := (List.getElem?_eq_some_iff.1 hx1).1
        obtain ⟨b2, o2, y, hA, hy, y0, y1⟩ := ctA_at (SlA.ext H.out B1.out) hll
        rw [hx1] at hy
        injection hy with hy
        subst hy
        have HC := hid hx3
        generalize lbF m.g z = lb at *
        generalize hadF m.g (l.take j) = acc at *
        have hq1 : 0 ≤ acc := HB1.out.1
        have hq2 : acc ≤ 1000000000 := by have := HB1.out.2; have := HB3.out; omega
        have hq3 : 0 ≤ x.2 := by have := HB2.out.1; rw [HC.out] at this; exact this
        have hq4 : x.2 ≤ 1000000 := by have := HB2.out.2; rw [HC.out] at this; exact this
        have hll' : (lb : Int) < (m.g.length : Int) := by omega
        subst hA
        clear hi hx1 hx2 hx3 hx4
        go_wp2_with fail
        go_roundw
        case rel => exact ⟨j + 1, by go_num, by omega, by rw [HTK.out, HC.out], B1.out, X1.out⟩
        case measure => simp [intOf]; omega
    · have HF := hid (show l.take j = l from List.take_of_length_le (by have := HLN.out; omega))
      go_wp2
      go_ret
      exact ⟨by rw [HF.out]; rfl, HB.out⟩
end Go.Proofs.YtfmkniakfgpgjaaDoor

/- slices.Clone of counts, slices.Insert at the end. -/
namespace Go.Proofs.YtfmkniakfgpgjaaDoor
open Go.RowKit Go.KK Go.Shelf Go.Maps
set_option linter.unusedVariables false
set_option linter.unusedSimpArgs false

theorem infoC : (Tryd.prog.info? 66).map (fun i => (i.zero, i.size, i.bytes)) = some (some (.agg #[.int .i64 0, .int .i64 0]), 2, 16) := by kernel_rfl
theorem cts_one (g : List (Int × Int)) : ∀ u ∈ cts g, u.oneCell' = true := by
  intro u hu
  unfold cts at hu
  obtain ⟨c, _, hc⟩ := List.mem_flatMap.1 hu
  simp only [List.mem_cons, List.mem_nil_iff, or_false] at hc
  rcases hc with rfl | rfl <;> rfl
set_option maxHeartbeats 1000000 in
theorem cloneC_any (A : Option Addr) (c : Nat) (g : List (Int × Int)) (w : World) (h : CtA w A c g) (hn : g.length ≤ 1000000) :
    Calls Tryd.prog 36 #[.slice A g.length c] w fun e w' => ∃ v, e = .returned v ∧ w'.ownsRow w.heap.size 66 2 v g.length (cts g) ∧ Below w.heap.size w w' := by
  obtain ⟨i0, hi, hz0, hz1, hz2⟩ := info_parts infoC
  rcases A with _ | ad
  · have hg : g = [] := by
      rcases g with _ | ⟨x, g⟩
      · rfl
      · obtain ⟨b, o, e, _⟩ := h.cells 0 (.int .i64 x.1) rfl
        cases e
    subst hg
    have he := fun (W : World) => Lib.run_eql_slice_nil (P := Tryd.prog) W 28 66 none 0 c 0 0 Tryd.underlying28
    go_enter Tryd.func36, Tryd.ntmps36
    go_wp2
    go_ret
    exact ⟨_, rfl, World.ownsRow_nil _ _ _ _, Below.refl _ _⟩
  · have h' := SlA.alloc h (.cells #[] 66)
    have he := fun (W : World) => Lib.run_eql_slice_nil (P := Tryd.prog) W 28 66 (some ad) g.length c 0 0 Tryd.underlying28
    go_enter Tryd.func36, Tryd.ntmps36
    go_wp2_with (at_builtin; refine wpList_append_sl _ rfl _ _ 28 rfl w.heap.size 66 i0 (.agg #[.int .i64 0, .int .i64 0]) 2 16 Tryd.underlying28 hi hz0 hz1 hz2 rfl (by decide) _ 0 [] rfl (World.ownsRow_lit w #[] 0 (Nat.le_refl _) (by unfold maxLen; omega) rfl) _ g.length c _ rfl h' (cts_one _) (by unfold maxLen; omega) (by omega) (by simp) ?_; intro v1 w1 hown1 hg1 _)
    go_ret
    refine ⟨_, rfl, by simpa using hown1, ?_⟩
    exact below_append (base := w.heap.size) (size := 2) (xs := []) (n := 0) ((Below.refl _ _).alloc (Nat.le_refl _) _) hg1 (World.ownsRow_lit w #[] 0 (Nat.le_refl _) (by unfold maxLen; omega) rfl) (Nat.le_refl _) (by simp)
theorem sizeC (W : World) : (sizeOf 66).run Tryd.prog W = .ok 2 W := by kernel_rfl
/-- s[n:] of a row of n. -/
theorem run_slice_from {W : World} {A : Option Addr} {n c : Nat} (h : n ≤ c) (hn : n ≤ 1000000) : (Instr.slice 28 (.slice A n c) (some (.int .i64 n)) none none).run Tryd.prog W = .ok (sliced A n n c 2) W := by
  have he : Tryd.prog.elem 28 = 66 := by simp [Program.elem, Tryd.underlying28]
  rw [run_slice_l W 28 A n c (by rw [he]; exact Tryd.underlying28) .i64 (n : Int) (by omega) (by omega), he, sizeC W]
  simp [Result.andThen]
set_option maxHeartbeats 1000000 in
theorem insC_end (base : Nat) (v : Value) (n : Nat) (cs : List Value) (A' : Option Addr) (c' : Nat) (news : List Value) (w : World) (h : w.ownsRow base 66 2 v n cs) (hs : SlA w 2 A' 1 c' news) (h1 : ∀ u ∈ news, u.oneCell' = true) (hn : n ≤ 1000000) (hb : base ≤ w.heap.size) :
    Calls Tryd.prog 39 #[v, .int .i64 n, .slice A' 1 c'] w fun e w' => ∃ v', e = .returned v' ∧ w'.ownsRow base 66 2 v' (n + 1) (cs ++ news) ∧ w.grownBy w' v.ownBlock := by
  obtain ⟨i0, hi, hz0, hz1, hz2⟩ := info_parts infoC
  obtain ⟨A, c, rfl, hsl⟩ := SlA.owned h
  have hnc := hsl.nc; have HCM := hid hsl.cm
  obtain ⟨V, hsl0⟩ : ∃ V, ∀ W : World, (Instr.slice 28 (.slice A n c) (some (.int .i64 n)) none none).run Tryd.prog W = .ok V W := ⟨_, fun W => run_slice_from (W := W) (A := A) hnc hn⟩
  have H := hid h; have HS := hid hs; have H1 := hid h1
  have HN := hid hn; have HB := hid hb
  clear h hs h1 hsl hn hb
  go_enter Tryd.func39, Tryd.ntmps39
  go_wp2_with (at_builtin; refine wpList_append_sl _ rfl _ _ 28 rfl base 66 i0 (.agg #[.int .i64 0, .int .i64 0]) 2 16 Tryd.underlying28 hi hz0 hz1 hz2 rfl (by decide) _ n cs rfl H.out _ 1 c' _ rfl HS.out H1.out (by have := HN.out; unfold maxLen; omega) (by have := HN.out; omega) HB.out ?_; intro v1 w1 hown1 hg1 _; have HO1 := hid hown1; have HG1 := hid hg1; clear hown1 hg1)
  go_ret
  exact ⟨_, rfl, HO1.out, HG1.out⟩
end Go.Proofs.YtfmkniakfgpgjaaDoor

/- Words for rows of structs: copy, and what is stored into a row of the call's own, at any size of an element. -/
namespace Go.KK
open Go.RowKit
set_option linter.unusedVariables false
set_option linter.unusedSimpArgs false

theorem run_copy_sized {P : Program} (w : World) (dT sT ty elem : TypeId) (size b o dLen dCap : Nat) (a : Addr) (sLen sCap : Nat) (cs : List Value)
    (hu : P.underlying dT = some (.slice elem)) (hs : (P.info? elem).map (·.size) = some size) (hn : cs.length = Nat.min sLen dLen * size)
    (hsrc : ∀ j v, cs[j]? = some v → w.cell? (a.add j) = some v) (hc : ∀ j, j < cs.length → (w.cell? ⟨b, o + j, none⟩).isSome = true) (hf : ∀ j, j < cs.length → w.frozen? ⟨b, o + j, none⟩ = false) (h1 : ∀ v ∈ cs, v.oneCell' = true) :
    (Builtin.copy_ #[dT, sT] ty #[.slice (some ⟨b, o, none⟩) dLen dCap, .slice (some a) sLen sCap]).run P w = .ok (goInt (Nat.min sLen dLen)) (w.setCells b o cs) := by
  have hl := run_loadCells_list (P := P) w a cs hsrc
  have hst := run_storeCells_cells (P := P) b o cs 0 w (by simpa using hc) (by simpa using hf) h1
  cases hq : P.info? elem with
  | none => simp [hq] at hs
  | some i =>
    have hi : i.size = size := by simpa [hq] using hs
    simp [Builtin.copy_, run_underlying hu, Builtin.lenOf, Builtin.firstCells, sizeOf, typeInfo, hq, hi, ← hn, hl, hst]

section
variable {w : World} {base : Nat} {e : TypeId} {size g n cap : Nat} {xs : List Value}
theorem own_fullS (h : w.ownsRow base e size (.slice (some ⟨g, 0, none⟩) n cap) n xs) : ∃ L : List Value, w.ownsRow base e size (.slice (some ⟨g, 0, none⟩) cap cap) cap L ∧ L.length = cap * size ∧ L.take (n * size) = xs ∧ n ≤ cap ∧ cap ≤ maxLen := by
  rcases h.2 with ⟨h', _⟩ | ⟨g', cap', cur, h', hb, hg, hnc, hcm, hcs, htake⟩
  · simp at h'
  · simp only [Value.slice.injEq, Option.some.injEq, Addr.mk.injEq, and_true, true_and] at h'
    obtain ⟨rfl, rfl⟩ := h'
    have hl : cur.toList.length = cap * size := by simpa using hcs
    exact ⟨cur.toList, ⟨hl, .inr ⟨g, cap, cur, rfl, hb, hg, Nat.le_refl _, hcm, hcs, List.take_of_length_le (by omega)⟩⟩, hl, htake, hnc, hcm⟩
theorem own_partS {L : List Value} (h : w.ownsRow base e size (.slice (some ⟨g, 0, none⟩) cap cap) cap L) (hn : n ≤ cap) : w.ownsRow base e size (.slice (some ⟨g, 0, none⟩) n cap) n (L.take (n * size)) := by
  rcases h.2 with ⟨h', _⟩ | ⟨g', cap', cur, h', hb, hg, hnc, hcm, hcs, htake⟩
  · simp at h'
  · simp only [Value.slice.injEq, Option.some.injEq, Addr.mk.injEq, and_true, true_and] at h'
    obtain ⟨rfl, rfl⟩ := h'
    have hl : cur.toList.length = cap * size := by simpa using hcs
    have hL : L = cur.toList := by rw [← htake]; exact List.take_of_length_le (by omega)
    subst hL
    exact ⟨by rw [List.length_take, hl]; exact Nat.min_eq_left (Nat.mul_le_mul_right _ hn), .inr ⟨g, cap, cur, rfl, hb, hg, hn, hcm, hcs, rfl⟩⟩
theorem own_madeS {cur : Array Value} (hb : base ≤ w.heap.size) (hm : cap ≤ maxLen) (hs : cur.size = cap * size) :
    (w.alloc (.cells cur e)).ownsRow base e size (.slice (some ⟨w.heap.size, 0, none⟩) cap cap) cap cur.toList :=
  ⟨by simpa using hs, .inr ⟨w.heap.size, cap, cur, rfl, hb, heap_alloc_new w _, Nat.le_refl _, hm, by omega, List.take_of_length_le (by simpa using by omega)⟩⟩
theorem own_setCellsS : ∀ (vs : List Value) (o : Nat) (w : World) (L : List Value), w.ownsRow base e size (.slice (some ⟨g, 0, none⟩) n cap) n L → (w.setCells g o vs).ownsRow base e size (.slice (some ⟨g, 0, none⟩) n cap) n (setL L o vs)
  | [], _, _, _, h => h
  | v :: r, o, w, L, h => by
    rw [World.setCells, setL]
    exact own_setCellsS r (o + 1) _ _ (h.stored o v).1
end
theorem grown_far : ∀ (vs : List Value) (o : Nat) {w : World} (W : World) {k : Nat}, w.heap.size ≤ k → w.grownBy W none → w.grownBy (W.setCells k o vs) none
  | [], _, _, _, _, _, h => h
  | v :: r, o, w, W, k, hk, h => by
    rw [World.setCells]
    exact grown_far r (o + 1) _ hk ⟨h.os, h.tape, h.output, by simpa [World.setCell] using h.size, fun i hi hn => (Below.heap_setCell W ⟨k, o, none⟩ v i (show i ≠ k by omega)).trans (h.block i hi hn)⟩
theorem grown_some {w W : World} {r : Option Nat} (h : w.grownBy W none) : w.grownBy W r := ⟨h.os, h.tape, h.output, h.size, fun k hk _ => h.block k hk (by simp)⟩
/-- A row with another one laid over the end of what stands ahead. -/
theorem setL_ins {L cs vs : List Value} {k : Nat} (hk : k ≤ cs.length) (hL : cs.length + vs.length ≤ L.length) (h : L.take k = cs.take k) :
    (setL (setL L (k + vs.length) (cs.drop k)) k vs).take (cs.length + vs.length) = cs.take k ++ vs ++ cs.drop k := by
  have hdl : (cs.drop k).length = cs.length - k := List.length_drop
  have htl : (cs.take k).length = k := by rw [List.length_take]; omega
  apply List.ext_getElem?
  intro j
  rw [List.append_assoc]
  by_cases hj : j < cs.length + vs.length
  · rw [List.getElem?_take, if_pos hj, setL_get _ _ _ _ (by rw [setL_len]; omega), setL_get _ _ _ _ (by rw [hdl]; omega)]
    by_cases c1 : j < k
    · rw [if_neg (by omega), if_neg (by omega), List.getElem?_append_left (by omega)]
      have := congrArg (·[j]?) h
      simp only [List.getElem?_take, if_pos c1] at this
      rw [this, List.getElem?_take, if_pos c1]
    · rw [List.getElem?_append_right (by omega), htl]
      by_cases c2 : j < k + vs.length
      · rw [if_pos (by omega), List.getElem?_append_left (by omega)]
      · rw [if_neg (by omega), if_pos (by omega), List.getElem?_append_right (by omega), show j - (k + vs.length) = j - k - vs.length by omega]
  · rw [List.getElem?_take, if_neg hj, List.getElem?_eq_none]
    simp only [List.length_append, htl, hdl]
    omega
/-- The same where the part is laid first. -/
theorem setL_ins2 {L cs vs : List Value} {k : Nat} (hk : k ≤ cs.length) (hL : cs.length + vs.length ≤ L.length) (h : L.take k = cs.take k) :
    (setL (setL L k vs) (k + vs.length) (cs.drop k)).take (cs.length + vs.length) = cs.take k ++ vs ++ cs.drop k := by
  have hdl : (cs.drop k).length = cs.length - k := List.length_drop
  have htl : (cs.take k).length = k := by rw [List.length_take]; omega
  apply List.ext_getElem?
  intro j
  rw [List.append_assoc]
  by_cases hj : j < cs.length + vs.length
  · rw [List.getElem?_take, if_pos hj, setL_get _ _ _ _ (by rw [setL_len, hdl]; omega), setL_get _ _ _ _ (by omega)]
    by_cases c1 : j < k
    · rw [if_neg (by omega), if_neg (by omega), List.getElem?_append_left (by omega)]
      have := congrArg (·[j]?) h
      simp only [List.getElem?_take, if_pos c1] at this
      rw [this, List.getElem?_take, if_pos c1]
    · rw [List.getElem?_append_right (by omega), htl]
      by_cases c2 : j < k + vs.length
      · rw [if_neg (by omega), if_pos (by omega), List.getElem?_append_left (by omega)]
      · rw [if_pos (by omega), List.getElem?_append_right (by omega), show j - (k + vs.length) = j - k - vs.length by omega]
  · rw [List.getElem?_take, if_neg hj, List.getElem?_eq_none]
    simp only [List.length_append, htl, hdl]
    omega
end Go.KK

