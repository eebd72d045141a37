import Derived.Test.YtfmkniakfgpgjaaDoorY13
import Derived.Test.YtfmkniakfgpgjaaDoorY14
import Derived.Test.YtfmkniakfgpgjaaDoorY08
import Derived.Deep.RegionHeld3
import Derived.Deep.DeepCutAuto
import Derived.Deep.CutBlock
import Derived.Test.YtfmkniakfgpgjaaDoorY11
/- token's law: TokenDoes walked. -/
namespace Go.Proofs.YtfmkniakfgpgjaaDoor
open Go.RowKit Go.KK Go.Shelf Go.Maps
set_option linter.unusedVariables false
set_option linter.unusedSimpArgs false

/-- What is to be done, three numbers each. -/
def o3 (l : List (Int × Int × Int)) : List Value := l.flatMap fun o => [.int .i64 o.1, .int .i64 o.2.1, .int .i64 o.2.2]
theorem o3_get : ∀ {l : List (Int × Int × Int)} {j : Nat} {o : Int × Int × Int}, l[j]? = some o → (o3 l)[j * 3]? = some (.int .i64 o.1) ∧ (o3 l)[j * 3 + 1]? = some (.int .i64 o.2.1) ∧ (o3 l)[j * 3 + 2]? = some (.int .i64 o.2.2)
  | [], j, o, h => by simp at h
  | x :: l, 0, o, h => by simp at h; subst h; exact ⟨rfl, rfl, rfl⟩
  | x :: l, j + 1, o, h => by
    have h' : l[j]? = some o := by simpa using h
    have e : o3 (x :: l) = [.int .i64 x.1, .int .i64 x.2.1, .int .i64 x.2.2] ++ o3 l := rfl
    obtain ⟨a, b, c⟩ := o3_get h'
    rw [e, show (j + 1) * 3 = j * 3 + 3 by omega]
    refine ⟨?_, ?_, ?_⟩
    · rw [List.getElem?_append_right (by simp)]; simpa using a
    · rw [List.getElem?_append_right (by simp)]; simpa using b
    · rw [List.getElem?_append_right (by simp)]; simpa using c
theorem o3_at {w : World} {A : Option Addr} {n c : Nat} {l : List (Int × Int × Int)} (h : SlA w 3 A n c (o3 l)) (hl : l.length = n) {j : Nat} (hj : j < n) : ∃ b o x, A = some ⟨b, o, none⟩ ∧ l[j]? = some x ∧ w.cell? ⟨b, o + j * 3, none⟩ = some (.int .i64 x.1) ∧ w.cell? ⟨b, o + j * 3 + 1, none⟩ = some (.int .i64 x.2.1) ∧ w.cell? ⟨b, o + j * 3 + 2, none⟩ = some (.int .i64 x.2.2) := by
  have hx : l[j]? = some (l[j]'(by omega)) := List.getElem?_eq_getElem (by omega)
  obtain ⟨g0, g1, g2⟩ := o3_get hx
  obtain ⟨b, o, rfl, c0⟩ := h.cells _ _ g0
  obtain ⟨b1, o1, e1, c1⟩ := h.cells _ _ g1
  obtain ⟨b2, o2, e2, c2⟩ := h.cells _ _ g2
  injection e1 with e1; injection e1 with e1 f1; subst e1; subst f1
  injection e2 with e2; injection e2 with e2 f2; subst e2; subst f2
  exact ⟨b, o, _, rfl, hx, c0, c1, c2⟩
theorem sp_mtr {W W' : World} {Z : Nat → Prop} {m : MT} {g p : Value} (hz : ∀ b, Z b → b < W.heap.size) (og : W'.ownsRow W.heap.size 66 2 g m.g.length (cts m.g)) (op : W'.ownsRow W.heap.size 3 1 p m.p.length (m.p.map (.int .i64))) : MtR W' Z m g p ∧ NewV W g p := by
  obtain ⟨A1, c1, rfl, s1⟩ := SlZ.of_own og hz
  obtain ⟨A2, c2, rfl, s2⟩ := SlZ.of_own op hz
  exact ⟨⟨A1, c1, A2, c2, rfl, rfl, s1, s2⟩, fun b hb => hb.elim (fun h => (og.lt b h).1) fun h => (op.lt b h).1⟩
theorem MtR.sl {W : World} {Z : Nat → Prop} {m : MT} {A B : Option Addr} {n c k d : Nat} (h : MtR W Z m (.slice A n c) (.slice B k d)) : SlA W 2 A m.g.length c (cts m.g) ∧ SlA W 1 B m.p.length d (m.p.map (.int .i64)) := by
  obtain ⟨Ag, cg, Ap, cp, e, e', s1, s2⟩ := h
  injection e with e1 e2 e3
  injection e' with f1 f2 f3
  subst e1; subst e2; subst e3; subst f1; subst f2; subst f3
  exact ⟨s1.1, s2.1⟩
theorem Tx.two {w w' : World} {sa sb n : Nat} (h : TwoI w sa sb n w') : ∃ Z Z', Tx w w' sa sb Z Z' (atoms n) (atoms n) := by
  obtain ⟨Z, Z', h1, h2, h3, h4, h5, h6⟩ := h
  exact ⟨Z, Z', ⟨h1, h4, h6⟩, ⟨h2, h5, h6⟩, h3⟩
/-- What a round tells: the arena, the term, the mint, the error. -/
def rdF (X : List ND) (m : MT) (l : List Int) (od oa ob : Int) : List ND × Int × MT × Int :=
  if od = 0 then ((askF X oa ob).1, (askF X oa ob).2.1, m, (askF X oa ob).2.2)
  else if od = 1 then issF X m oa (lastF l ob)
  else if od = 2 then ((finF X (lastF l oa) ob).1, (finF X (lastF l oa) ob).2.1, m, (finF X (lastF l oa) ob).2.2)
  else (X, 0, (spF X m oa (lastF l ob)).1, (spF X m oa (lastF l ob)).2)
theorem rd_j {j : Nat} {X : List ND} {m : MT} (h : MtJ j m) (l : List Int) (od : Int) {oa : Int} (ha : I64 oa) (ob : Int) : MtJ (j + 1) (rdF X m l od oa ob).2.2.1 := by
  unfold rdF
  split
  · exact h.up
  · split
    · exact mtj_iss h _ _
    · split
      · exact h.up
      · exact mtj_sp h ha _
theorem rd_has {X : List ND} {m : MT} {l : List Int} {od oa ob : Int} (h0 : 0 ≤ od) (h3 : od < 3) (h : (rdF X m l od oa ob).2.2.2 = 0) : hasB (rdF X m l od oa ob).1 (rdF X m l od oa ob).2.1 = true := by
  unfold rdF at h ⊢
  split at h
  · rename_i h1
    rw [if_pos h1]; exact ask_has h
  · rename_i h1
    rw [if_neg h1]
    split at h
    · rename_i h2
      rw [if_pos h2]; exact iss_has h
    · rename_i h2
      rw [if_neg h2]
      split at h
      · rename_i h4
        rw [if_pos h4]; exact fin_has h
      · rename_i h4
        exact absurd h4 (by omega)
/-- Ahead of a round. -/
def RdI (w W : World) (sa sb bm bn mb j : Nat) (v v' : Value) : Prop := ∃ c Z Z' X m g p g' p' l l', TdS w W c sa sb bm bn mb Z Z' X m g p g' p' v v' l l' ∧ l = l' ∧ MtJ j m ∧ (∀ i ∈ l, I64 i) ∧ l.length ≤ j
theorem td_start {w W : World} {sa sb bm bn mb : Nat} {Z Z' : Nat → Prop} {X : List ND} {mk mq : Int} (tx : Tx w W sa sb Z Z' X X)
    (hm : HasO (.cells #[.int .i64 mk, .int .i64 mq, .slice none 0 0, .slice none 0 0] 31 (0, 0)) bm W) (hn : HasO (.cells #[.int .i64 mk, .int .i64 mq, .slice none 0 0, .slice none 0 0] 31 (0, 0)) bn W) (hp : MtP W mb [])
    (lm : w.heap.size ≤ bm) (ln : w.heap.size ≤ bn) (lp : w.heap.size ≤ mb) (z1 : ¬ Z bm ∧ ¬ Z' bm) (z2 : ¬ Z bn ∧ ¬ Z' bn) (z3 : ¬ Z mb ∧ ¬ Z' mb) (h1 : bm ≠ bn) (h2 : bm ≠ mb) (h3 : bn ≠ mb) (hj : MtJ 0 ⟨mk, mq, [], []⟩) :
    RdI w W sa sb bm bn mb 0 (.slice none 0 0) (.slice none 0 0) := by
  classical
  refine ⟨fun b => if Z b then 1 else if Z' b then 2 else if b = bm then 3 else if b = bn then 4 else if b = mb then 7 else 0, Z, Z', X, ⟨mk, mq, [], []⟩, .slice none 0 0, .slice none 0 0, .slice none 0 0, .slice none 0 0, [], [], ⟨⟨tx, fun b hb => ?_, fun b hb => ?_⟩, ⟨hm, MtR.mt _ _ _ _, lm, ?_⟩, ⟨hn, MtR.mt _ _ _ _, ln, ?_⟩, Rw.nil _ _ _ _, Rw.nil _ _ _ _, ⟨⟨[], hp⟩, ?_, lp⟩⟩, rfl, hj, fun i hi => by simp at hi, Nat.le_refl _⟩
  · rw [if_pos hb]
  · rw [if_neg (fun h => tx.d b h hb), if_pos hb]
  · rw [if_neg z1.1, if_neg z1.2, if_pos rfl]
  · rw [if_neg z2.1, if_neg z2.2, if_neg h1.symm, if_pos rfl]
  · rw [if_neg z3.1, if_neg z3.2, if_neg h2.symm, if_neg h3.symm, if_pos rfl]
/-- A round begins: what is to be done, a copy of the mint, and the mints that are told, each in its box. -/
theorem td_round {w W V : World} {c : Nat → Nat} {sa sb bm bn mb bo bw bp bq N : Nat} {Z Z' : Nat → Prop} {X : List ND} {m : MT} {g p g' p' gw pw v v' : Value} {l l' : List Int} {od oa ob : Int}
    (h : TdS w W c sa sb bm bn mb Z Z' X m g p g' p' v v' l l') (hb : Below W.heap.size W V) (hbo : HasO (.cells #[.int .i64 od, .int .i64 oa, .int .i64 ob] 39 (0, 0)) bo V)
    (hw : HasO (mO m gw pw) bw V) (hp : HasO (mO m g p) bp V) (hq : HasO (mO m g' p') bq V) (og : V.ownsRow N 66 2 gw m.g.length (cts m.g)) (op : V.ownsRow N 3 1 pw m.p.length (m.p.map (.int .i64)))
    (hlt : ∀ b, gw.ownBlock = some b ∨ pw.ownBlock = some b → b < bw) (e0 : W.heap.size ≤ bo) (e1 : bo < N) (e2 : bo < bw) (e3 : bw < bp) (e4 : bp < bq) :
    ∃ c', TdR w V c' sa sb bm bn mb bo bw bp bq Z Z' X X m g p g' p' gw pw m g p m g' p' v v' l l' od oa ob := by
  classical
  have hsz := h.bl.size
  obtain ⟨c', hc'⟩ : ∃ c' : Nat → Nat, c' = fun b => if b < W.heap.size then c b else if b = bo then 11 else if b = bw then 10 else if b = bp then 8 else if b = bq then 9 else 0 := ⟨_, rfl⟩
  have s : Stp w W V c c' 20 := Stp.new hb 20 fun b hb => by rw [hc']; exact if_pos hb
  have c0 : c' bo = 11 := by rw [hc']; show (if _ then _ else _) = _; rw [if_neg (by omega), if_pos rfl]
  have c1 : c' bw = 10 := by rw [hc']; show (if _ then _ else _) = _; rw [if_neg (by omega), if_neg (by omega), if_pos rfl]
  have c2 : c' bp = 8 := by rw [hc']; show (if _ then _ else _) = _; rw [if_neg (by omega), if_neg (by omega), if_neg (by omega), if_pos rfl]
  have c3 : c' bq = 9 := by rw [hc']; show (if _ then _ else _) = _; rw [if_neg (by omega), if_neg (by omega), if_neg (by omega), if_neg (by omega), if_pos rfl]
  have cz : ∀ b, N ≤ b → b < bw → c' b = 0 := fun b h1 h2 => by rw [hc']; show (if _ then _ else _) = _; rw [if_neg (by omega), if_neg (by omega), if_neg (by omega), if_neg (by omega), if_neg (by omega)]
  obtain ⟨Ag, cg, rfl, sg⟩ := SlA.owned og
  obtain ⟨Ap, cp, rfl, sp⟩ := SlA.owned op
  refine ⟨c', h.ta.stp s (by decide) (by decide), h.bm.stp s (by decide) (by decide), h.bn.stp s (by decide) (by decide), h.rv.stp s (by decide), h.rv'.stp s (by decide), h.mp.stp s (by decide), ⟨hp, h.bm.r.stp s (by decide), by omega, c2⟩, ⟨hq, h.bn.r.stp s (by decide), by omega, c3⟩, ⟨hw, ⟨Ag, cg, Ap, cp, rfl, rfl, ⟨sg, fun _ b o e hb => ?_⟩, ⟨sp, fun _ b o e hb => ?_⟩⟩, by omega, c1⟩, ⟨hbo, c0⟩⟩
  · subst e; exact hb (cz b (og.lt b rfl).1 (hlt b (.inl rfl)))
  · subst e; exact hb (cz b (op.lt b rfl).1 (hlt b (.inr rfl)))
/-- One term beyond those that are handed in. -/
def beyB (x : Int) : Bool := decide (12 ≤ x) && decide (x < 1073741824)
theorem bey1 (x : Int) (w : World) : Calls Tryd.prog 9 #[.int .i64 12, .slice (some ⟨w.heap.size, 0, none⟩) 1 1] (w.alloc (.cells #[.int .i64 x] 3)) fun e w' => e = .returned (.bool (beyB x)) ∧ Below w.heap.size w w' := by
  have H := hid (SlA.lit1 (w := w) (T := 3) (.int .i64 x))
  have HB := hid ((Below.refl w.heap.size w).alloc (Nat.le_refl _) (.cells #[.int .i64 x] 3))
  generalize w.alloc (.cells #[.int .i64 x] 3) = W at *
  generalize w.heap.size = b at *
  have HF := hid (show beyB x = (decide (12 ≤ x) && decide (x < 1073741824)) from rfl)
  go_enter Tryd.func9, Tryd.ntmps9
  go_wp2_with fail
  go_loopw [9] (fun v wr => ∃ j : Nat, v = .int .i64 j ∧ j ≤ 1 ∧ (j = 1 → beyB x = false) ∧ wr = W) (fun v _ => 1 - (intOf v).toNat)
  case atStart => exact ⟨0, rfl, Nat.zero_le _, fun h => by omega, rfl⟩
  case round =>
    obtain ⟨j, hv, hj, hb, hw⟩ := hrel
    subst hv; subst hw
    by_cases hlt : j < 1
    · obtain rfl : j = 0 := by omega
      obtain ⟨b1, off, z, e, hz, hc⟩ := (show SlA wr 1 (some ⟨b, 0, none⟩) 1 1 (([x] : List Int).map (Value.int .i64)) from H.out).elemI (k := 0) (by decide)
      injection e with e
      injection e with e1 e2
      subst e1; subst e2
      injection hz with hz
      subst hz
      clear hb
      by_cases h1 : 12 ≤ x
      · by_cases h2 : x < 1073741824
        · have HT := hid (show beyB x = true by rw [HF.out, decide_eq_true h1, decide_eq_true h2]; rfl)
          go_wp2_with fail
          go_ret
          exact ⟨by rw [HT.out]; rfl, HB.out⟩
        · have HT := hid (show beyB x = false by rw [HF.out, decide_eq_false h2, Bool.and_false])
          go_wp2_with fail
          go_roundw
          case rel => exact ⟨1, rfl, by omega, fun _ => HT.out, by first | rfl | trivial⟩
          case measure => simp [intOf]
      · have HT := hid (show beyB x = false by rw [HF.out, decide_eq_false h1]; rfl)
        go_wp2_with fail
        go_roundw
        case rel => exact ⟨1, rfl, by omega, fun _ => HT.out, by first | rfl | trivial⟩
        case measure => simp [intOf]
    · obtain rfl : j = 1 := by omega
      have HT := hid (hb rfl)
      clear hb
      go_wp2_with fail
      go_ret
      exact ⟨by rw [HT.out]; rfl, HB.out⟩
theorem rl_had {W : World} {Z : Nat → Prop} {m : MT} {g p : Value} (hm : MtR W Z m g p) (ho : MtO m) {A' : Option Addr} {n' c' : Nat} {l : List Int} (hl : SlA W 1 A' n' c' (l.map (.int .i64))) (hln : n' ≤ 1000) :
    Calls Tryd.prog 23 #[.agg #[.int .i64 m.k, .int .i64 m.q, g, p], .slice A' n' c'] W fun e w' => e = .returned (.int .i64 (hadF m.g l)) ∧ Below W.heap.size W w' := by
  obtain ⟨Ag, cg, Ap, cp, rfl, rfl, h1, h2⟩ := hm
  exact rhad_any m Ag cg (.slice Ap m.p.length cp) A' n' c' l W h1.1 ho.s ho.b ho.n hl hln
theorem rd_i64 {X : List ND} {m : MT} {l : List Int} {od oa ob : Int} (hl : (rdF X m l od oa ob).1.length ≤ 100000) (he : (rdF X m l od oa ob).2.2.2 = 0) : I64 (rdF X m l od oa ob).2.1 := by
  by_cases h : 0 ≤ od ∧ od < 3
  · have h1 := rd_has h.1 h.2 he
    unfold hasB at h1
    simp only [Bool.and_eq_true, decide_eq_true_eq] at h1
    unfold I64; omega
  · have : (rdF X m l od oa ob).2.1 = 0 := by
      unfold rdF
      rw [if_neg (by omega), if_neg (by omega), if_neg (by omega)]
    rw [this]; exact ⟨by decide, by decide⟩
/-- The first mint is laid, the second not yet. -/
def Md (w W : World) (sa sb bm bn mb bq bo : Nat) (Z Z' : Nat → Prop) (X : List ND) (m : MT) (g p g' p' v v' : Value) (l : List Int) (m2 : MT) (gp pp gq pq : Value) (od oa ob : Int) : Prop := ∃ c, (Ta w W c sa sb Z Z' X X ∧ Bx w W c bm 3 m2 gp pp ∧ Bx w W c bn 4 m g' p' ∧ Rw w W c v 5 l ∧ Rw w W c v' 6 l ∧ Mp w W c mb 7) ∧ Bx w W c bq 9 m2 gq pq ∧ Ob w W c bo od oa ob
theorem td_put1 {w W : World} {c : Nat → Nat} {sa sb bm bn mb bp bq bo : Nat} {Z Z' : Nat → Prop} {X : List ND} {m m2 : MT} {g p g' p' gp pp gq pq v v' : Value} {l : List Int} {od oa ob : Int}
    (h : TdS w W c sa sb bm bn mb Z Z' X m g p g' p' v v' l l) (hp : Bx w W c bp 8 m2 gp pp) (hq : Bx w W c bq 9 m2 gq pq) (ho : Ob w W c bo od oa ob) : Md w (put4 W bm m2 gp pp) sa sb bm bn mb bq bo Z Z' X m g p g' p' v v' l m2 gp pp gq pq od oa ob := by
  have s : Stp w W (put4 W bm m2 gp pp) c c 3 := Stp.put h.bm.c h.bm.lo
  exact ⟨c, ⟨h.ta.stp s (by decide) (by decide), h.bm.put hp.r (by decide), h.bn.stp s (by decide) (by decide), h.rv.stp s (by decide), h.rv'.stp s (by decide), h.mp.stp s (by decide)⟩, hq.stp s (by decide) (by decide), ho.stp s (by decide)⟩
theorem td_put2 {w W : World} {sa sb bm bn mb bq bo : Nat} {Z Z' : Nat → Prop} {X : List ND} {m m2 : MT} {g p g' p' gp pp gq pq v v' : Value} {l : List Int} {od oa ob : Int}
    (h : Md w W sa sb bm bn mb bq bo Z Z' X m g p g' p' v v' l m2 gp pp gq pq od oa ob) : ∃ c, TdS w (put4 W bn m2 gq pq) c sa sb bm bn mb Z Z' X m2 gp pp gq pq v v' l l ∧ Ob w (put4 W bn m2 gq pq) c bo od oa ob := by
  obtain ⟨c, ⟨h1, h2, h3, h4, h5, h6⟩, h7, h8⟩ := h
  have t : Stp w W (put4 W bn m2 gq pq) c c 4 := Stp.put h3.c h3.lo
  exact ⟨c, ⟨h1.stp t (by decide) (by decide), h2.stp t (by decide) (by decide), h3.put h7.r (by decide), h4.stp t (by decide), h5.stp t (by decide), h6.stp t (by decide)⟩, h8.stp t (by decide)⟩
theorem Md.cells {w W : World} {sa sb bm bn mb bq bo : Nat} {Z Z' : Nat → Prop} {X : List ND} {m m2 : MT} {g p g' p' gp pp gq pq v v' : Value} {l : List Int} {od oa ob : Int}
    (h : Md w W sa sb bm bn mb bq bo Z Z' X m g p g' p' v v' l m2 gp pp gq pq od oa ob) : (W.cell? ⟨bq, 0, none⟩ = some (.int .i64 m2.k) ∧ W.cell? ⟨bq, 1, none⟩ = some (.int .i64 m2.q) ∧ W.cell? ⟨bq, 2, none⟩ = some gq ∧ W.cell? ⟨bq, 3, none⟩ = some pq) ∧ (W.cell? ⟨bn, 0, none⟩ = some (.int .i64 m.k) ∧ W.cell? ⟨bn, 1, none⟩ = some (.int .i64 m.q) ∧ W.cell? ⟨bn, 2, none⟩ = some g' ∧ W.cell? ⟨bn, 3, none⟩ = some p') ∧ W.frozen? ⟨bn, 0, none⟩ = false ∧ W.frozen? ⟨bn, 1, none⟩ = false ∧ W.frozen? ⟨bn, 2, none⟩ = false ∧ W.frozen? ⟨bn, 3, none⟩ = false := by
  obtain ⟨c, ⟨-, -, h3, -⟩, h7, -⟩ := h
  exact ⟨h7.cells.1, h3.cells.1, h3.cells.2⟩
set_option maxHeartbeats 8000000 in
set_option maxRecDepth 100000 in
theorem does_go (sk quota : Int) (A : Option Addr) (n c : Nat) (ops : List (Int × Int × Int)) (w : World) (hsk : I64 sk) (hqu : I64 quota) (hl : SlA w 3 A n c (o3 ops)) (hol : ops.length = n) (hoi : ∀ o ∈ ops, I64 o.1 ∧ I64 o.2.1 ∧ I64 o.2.2) (hT : Tb w.heap.size w) :
    Calls Tryd.prog 3 #[.int .i64 sk, .int .i64 quota, .slice A n c] w fun e w' => e = .returned (.bool true) ∧ Below w.heap.size w w' := by
  have HT := hid hT; have HL := hid hl; have HOI := hid hoi; have HOL := hid hol; have HQU := hid hqu; have HSK := hid hsk
  have HLV := hid (live_any w hT)
  clear hT hl hoi hol hqu hsk
  by_cases hbig : 40 < n
  · have hb' : (40 : Int) < (n : Int) := by omega
    clear hbig
    go_enter Tryd.func3, Tryd.ntmps3
    go_wp2_with fail
    refine HLV.out.mono ?_
    rintro e w1 ⟨rfl, b1⟩
    have HB := hid b1
    clear b1
    go_wp2_with fail
    go_ret
    exact ⟨rfl, HB.out⟩
  have hb' : ¬ (40 : Int) < (n : Int) := by omega
  have hmm := @run_makeMap Tryd.prog
  go_enter Tryd.func3, Tryd.ntmps3
  go_wp2_with fail
  refine HLV.out.mono ?_
  rintro e w1 ⟨rfl, b1⟩
  have HB := hid b1
  clear b1 HLV
  go_wp2_with fail
  refine (two_any _ (Tb.up (HT.out.on HB.out) HB.out.size)).mono ?_
  rintro e w2 ⟨sa, sb, rfl, ht⟩
  obtain ⟨Z, Z', htx⟩ := Tx.two ht
  have TX := hid (show Tx w w2 sa sb Z Z' (atoms 12) (atoms 12) from ⟨⟨htx.a.ar, fun b hb => Nat.le_trans HB.out.size (htx.a.z b hb), HB.out.trans (htx.a.bl.mono HB.out.size)⟩, ⟨htx.b.ar, fun b hb => Nat.le_trans HB.out.size (htx.b.z b hb), HB.out.trans (htx.b.bl.mono HB.out.size)⟩, htx.d⟩)
  clear ht htx HB
  obtain ⟨m0, hm0⟩ : ∃ m0 : MT × Int, m0 = newF (atoms 12) sk quota := ⟨_, rfl⟩
  have HJ := hid (show MtJ 0 m0.1 from by
    rw [hm0]; unfold newF
    split
    · exact mtj_mt 0 HSK.out HQU.out
    · exact mtj_0 0)
  have HG := hid (show m0.1.g = [] ∧ m0.1.p = [] from by
    rw [hm0]; unfold newF
    split <;> exact ⟨rfl, rfl⟩)
  have HA := hid (tnew_any sa (atoms 12) w2 sk quota TX.out.a.ar.vw)
  have HR := hid (fun (U : World) (hU : Below w2.heap.size w2 U) => rtnew_any (w := U) (xs := atoms 12) (st := sb) sk quota (TX.out.ext hU).b.ar.vw)
  rw [← hm0] at HA HR
  clear hm0 HSK HQU
  obtain ⟨⟨mk, mq, mg, mp⟩, me⟩ := m0
  obtain ⟨rfl, rfl⟩ := HG.out
  clear HG
  unfold mtV at HA HR
  dsimp only at HA HR HJ
  go_wp2_with fail
  refine HA.out.mono ?_
  rintro e w3 ⟨rfl, b3⟩
  have B3 := hid (b3.alloc b3.size (.cells #[.int .i64 mk, .int .i64 mq, .slice none 0 0, .slice none 0 0] 31))
  have H3 := hid (HasO.new (.cells #[.int .i64 mk, .int .i64 mq, .slice none 0 0, .slice none 0 0] 31 (0, 0)) w3)
  have L3 := hid (show w.heap.size ≤ w3.heap.size ∧ w2.heap.size ≤ w3.heap.size from ⟨Nat.le_trans TX.out.a.bl.size b3.size, b3.size⟩)
  clear b3 HA
  go_upto_region 6 with fail
  obtain ⟨bm, hbm⟩ : ∃ bm, bm = w3.heap.size := ⟨_, rfl⟩
  have HBM := hid (show w2.heap.size ≤ bm from by rw [hbm]; exact L3.out.2)
  rw [← hbm] at H3 ⊢
  refine forget (R := fun V => Below w2.heap.size w2 V ∧ HasO (.cells #[.int .i64 mk, .int .i64 mq, .slice none 0 0, .slice none 0 0] 31 (0, 0)) bm V) ?_ ⟨B3.out, H3.out⟩
  clear B3 H3 hbm L3
  rintro V3 ⟨b3, h3⟩
  have HRV := hid (HR.out V3 b3)
  have B3 := hid b3; have H3 := hid h3
  clear b3 h3 HR
  go_wp2_with fail
  refine HRV.out.mono ?_
  rintro e w4 ⟨rfl, b4⟩
  have B4 := hid ((B3.out.trans (b4.mono B3.out.size)).alloc (Nat.le_trans B3.out.size b4.size) (.cells #[.int .i64 mk, .int .i64 mq, .slice none 0 0, .slice none 0 0] 31))
  have H4 := hid (HasO.new (.cells #[.int .i64 mk, .int .i64 mq, .slice none 0 0, .slice none 0 0] 31 (0, 0)) w4)
  have H34 := hid ((H3.out.bel b4).alloc (o' := .cells #[.int .i64 mk, .int .i64 mq, .slice none 0 0, .slice none 0 0] 31))
  have HLT := hid (show bm < w4.heap.size from (H3.out.bel b4).lt)
  clear b4 HRV B3 H3
  go_upto_region 7 with fail
  generalize w4.heap.size = bn at *
  refine forget (R := fun V => Below w2.heap.size w2 V ∧ HasO (.cells #[.int .i64 mk, .int .i64 mq, .slice none 0 0, .slice none 0 0] 31 (0, 0)) bm V ∧ HasO (.cells #[.int .i64 mk, .int .i64 mq, .slice none 0 0, .slice none 0 0] 31 (0, 0)) bn V) ?_ ⟨B4.out, H34.out, H4.out⟩
  clear B4 H4 H34
  rintro V4 ⟨b4, h4, h5⟩
  obtain ⟨⟨y0, y1, y2, y3⟩, -⟩ := mint4 h4
  obtain ⟨⟨z0, z1, z2, z3⟩, -⟩ := mint4 h5
  have HSM := hid (rsame17_any ⟨mk, mq, [], []⟩ none none none none 0 0 0 0 V4 (SlA.nil _ _) (SlA.nil _ _) (SlA.nil _ _) (SlA.nil _ _) (by simp) (by simp))
  dsimp only [List.length_nil] at HSM
  have B4 := hid b4; have H4 := hid h4; have H5 := hid h5
  have hee : (me != me) = false := by simp
  clear b4 h4 h5
  go_wp2_with fail
  refine HSM.out.mono ?_
  rintro e w5 ⟨rfl, b5⟩
  have HST := hid (show RdI w (w5.alloc (.map #[] 0)) sa sb bm bn w5.heap.size 0 (.slice none 0 0) (.slice none 0 0) from by
    have hb5 := B4.out.trans (b5.mono B4.out.size)
    have hb6 : Below w2.heap.size w2 (w5.alloc (.map #[] 0)) := hb5.alloc hb5.size _
    have l2 := TX.out.a.bl.size
    have lbm := HBM.out
    have lbn := HLT.out
    have l5 := (H5.out.bel b5).lt
    have znot : ∀ b, w2.heap.size ≤ b → ¬ Z b ∧ ¬ Z' b := fun b hb => ⟨fun hz => by have := TX.out.a.ar.zlt b hz; omega, fun hz => by have := TX.out.b.ar.zlt b hz; omega⟩
    have s5 := hb5.size
    exact td_start (TX.out.ext hb6) ((H4.out.bel b5).alloc) ((H5.out.bel b5).alloc) (MtP.new w5) (by omega) (by omega) (by omega) (znot _ (by omega)) (znot _ (by omega)) (znot _ (by omega)) (by omega) (by omega) (by omega) HJ.out)
  clear b5 HSM y0 y1 y2 y3 z0 z1 z2 z3 H4 H5 B4 HJ TX HLT HBM
  go_upto_region 13 with fail
  generalize w5.heap.size = mb at *
  refine forget (R := fun V => RdI w V sa sb bm bn mb 0 (.slice none 0 0) (.slice none 0 0)) ?_ HST.out
  clear HST
  intro V5 h5
  have H5 := hid h5
  clear h5
  go_loopw [59, 14, 15] (fun i v v' wr => ∃ j : Nat, i = .int .i64 j ∧ j ≤ n ∧ RdI w wr sa sb bm bn mb j v v') (fun i _ _ _ => n - (intOf i).toNat)
  case atStart => exact ⟨0, rfl, Nat.zero_le _, H5.out⟩
  case round => as_aux_lemma =>
    clear H5
    obtain ⟨j, hij, hj, hrd⟩ := hrel
    subst hij
    obtain ⟨co, Za, Zb, X, m, g, p, g', p', l, l', hS, hll, hJ, hLI, hLL⟩ := hrd
    subst hll
    have HS := hid hS; have HJ := hid hJ; have HLI := hid hLI; have HLL := hid hLL
    clear hS hJ hLI hLL
    by_cases hlt : j < n
    · obtain ⟨b0, o0, ox, hA, hod, d0, d1, d2⟩ := o3_at (HL.out.ext HS.out.bl) HOL.out hlt
      obtain ⟨od, oa, ob⟩ := ox
      have HI := hid (HOI.out _ (List.mem_of_getElem? hod))
      subst hA
      obtain ⟨Av, cv, rfl, -⟩ := SlA.owned HS.out.rv.r
      obtain ⟨Aq, cq, rfl, -⟩ := SlA.owned HS.out.rv'.r
      obtain ⟨Ag, cg, Ap, cp, rfl, rfl, -, -⟩ := HS.out.bm.r
      obtain ⟨Bg, eg, Bp, ep, rfl, rfl, -, -⟩ := HS.out.bn.r
      have hlt2 : (j : Int) < (n : Int) := by omega
      have HLT := hid hlt
      dsimp only at d0 d1 d2
      clear hod hlt
      go_upto_region 15 with fail
      obtain ⟨bo, hbo⟩ : ∃ bo, bo = wr.heap.size := ⟨_, rfl⟩
      have HP := hid (show Below wr.heap.size wr (wr.alloc (.cells #[.int .i64 od, .int .i64 oa, .int .i64 ob] 39)) ∧ HasO (.cells #[.int .i64 od, .int .i64 oa, .int .i64 ob] 39 (0, 0)) bo (wr.alloc (.cells #[.int .i64 od, .int .i64 oa, .int .i64 ob] 39)) from ⟨(Below.refl _ _).alloc (Nat.le_refl _) _, by rw [hbo]; exact HasO.new _ _⟩)
      have HBO := hid hbo
      rw [← hbo]
      clear hbo d0 d1 d2
      refine forget (R := fun V => Below wr.heap.size wr V ∧ HasO (.cells #[.int .i64 od, .int .i64 oa, .int .i64 ob] 39 (0, 0)) bo V) ?_ HP.out
      clear HP
      rintro V1 ⟨bv, ho⟩
      have BV := hid bv; have HO := hid ho
      have HOC := hid (fun (U : World) (hb : Below V1.heap.size V1 U) => (show U.cell? ⟨bo, 0, none⟩ = some (.int .i64 od) ∧ U.cell? ⟨bo, 1, none⟩ = some (.int .i64 oa) ∧ U.cell? ⟨bo, 2, none⟩ = some (.int .i64 ob) from by
        have h := HO.out.bel hb
        refine ⟨?_, ?_, ?_⟩ <;> (rw [cell_of_row _ bo _ _ _ (0, 0) h]; rfl)))
      clear bv ho
      go_cut [97] (fun v U => ∃ b : Bool, v = .bool b ∧ Below V1.heap.size V1 U)
      case first => as_aux_lemma =>
        obtain ⟨o0, o1, o2⟩ := HOC.out V1 (Below.refl _ _)
        have HY1 := hid (bey1 oa V1)
        have HB0 := hid (Below.refl V1.heap.size V1)
        by_cases h2 : od = 2
        · subst h2
          by_cases hA1 : oa < 100
          · rcases hy : beyB oa with _ | _
            all_goals
              rw [hy] at HY1
              clear hy
              go_wp2_with fail
              refine HY1.out.mono ?_
              rintro e w6 ⟨rfl, b6⟩
              have B6 := hid b6
              obtain ⟨o0, o1, o2⟩ := HOC.out w6 b6
              clear b6
              go_wp2_with fail
              go_meet
              exact ⟨_, rfl, B6.out⟩
          · go_wp2_with fail
            go_meet
            exact ⟨_, rfl, HB0.out⟩
        · have h2' : (od != 2) = true := bne_iff_ne.2 h2
          rcases hy : beyB oa with _ | _
          rotate_left
          · rw [hy] at HY1
            clear hy h2
            go_wp2_with fail
            refine HY1.out.mono ?_
            rintro e w6 ⟨rfl, b6⟩
            have B6 := hid b6
            obtain ⟨o0, o1, o2⟩ := HOC.out w6 b6
            clear b6
            go_wp2_with fail
            go_meet
            exact ⟨_, rfl, B6.out⟩
          · rw [hy] at HY1
            clear hy h2
            by_cases h0 : od = 0
            · subst h0
              go_wp2_with fail
              refine HY1.out.mono ?_
              rintro e w6 ⟨rfl, b6⟩
              have B6 := hid b6
              obtain ⟨o0, o1, o2⟩ := HOC.out w6 b6
              clear b6
              go_wp2_with fail
              go_meet
              exact ⟨_, rfl, B6.out⟩
            · have h0' : (od != 0) = true := bne_iff_ne.2 h0
              clear h0
              by_cases hB1 : ob < 100
              · rcases hy2 : beyB ob with _ | _
                all_goals
                  go_wp2_with fail
                  refine HY1.out.mono ?_
                  rintro e w6 ⟨rfl, b6⟩
                  have B6 := hid b6
                  have HY2 := hid (bey1 ob w6)
                  obtain ⟨o0, o1, o2⟩ := HOC.out w6 b6
                  rw [hy2] at HY2
                  clear b6 hy2
                  go_wp2_with fail
                  refine HY2.out.mono ?_
                  rintro e w7 ⟨rfl, b7⟩
                  have B7 := hid (B6.out.trans (b7.mono B6.out.size))
                  clear b7
                  go_wp2_with fail
                  go_meet
                  exact ⟨_, rfl, B7.out⟩
              · go_wp2_with fail
                refine HY1.out.mono ?_
                rintro e w6 ⟨rfl, b6⟩
                have B6 := hid b6
                obtain ⟨o0, o1, o2⟩ := HOC.out w6 b6
                clear b6
                go_wp2_with fail
                go_meet
                exact ⟨_, rfl, B6.out⟩
      case rest => as_aux_lemma =>
        obtain ⟨bb, hv, hb⟩ := hcut
        subst hv
        have BC := hid hb
        clear hb
        rcases bb with _ | _
        rotate_left
        · as_aux_lemma =>
          have HF := hid (HS.out.bl.trans ((BV.out.trans (BC.out.mono BV.out.size)).mono HS.out.bl.size))
          go_wp2_with fail
          go_ret
          exact ⟨rfl, HF.out⟩
        have BU := hid (BV.out.trans (BC.out.mono BV.out.size))
        have HOU := hid (HO.out.bel BC.out)
        have HNB := hid (show bo < wc.heap.size from (HO.out.bel BC.out).lt)
        clear BV BC HO HOC
        have HSc := hid (HS.out.ext BU.out)
        have hjo := HJ.out.o (by have := HLT.out; omega)
        have HCP := hid (rcopy17_any m Ag Ap cg cp wc HSc.out.bm.r.sl.1 HSc.out.bm.r.sl.2 hjo.n hjo.pn)
        obtain ⟨⟨m0, m1, m2, m3⟩, -⟩ := HSc.out.bm.cells
        clear hjo HSc
        go_upto_region 20 with (first
          | (go_at_call 10; refine HCP.out.mono ?_; rintro e11 w11 ⟨g11, p11, rfl, b11, n11, og11, op11⟩; unfold mtV; obtain ⟨A11, c11, rfl, -⟩ := SlA.owned og11; obtain ⟨B11, d11, rfl, -⟩ := SlA.owned op11; have B1 := hid b11; have OG := hid og11; have OP := hid op11; clear b11 n11 og11 op11)
          | fail)
        clear HCP m0 m1 m2 m3
        obtain ⟨bw, hbw⟩ : ∃ bw, bw = w11.heap.size := ⟨_, rfl⟩
        have HR1 := hid (show Below wr.heap.size wr (w11.alloc (.cells #[.int .i64 m.k, .int .i64 m.q, .slice A11 m.g.length c11, .slice B11 m.p.length d11] 31)) ∧ HasO (.cells #[.int .i64 od, .int .i64 oa, .int .i64 ob] 39 (0, 0)) bo (w11.alloc (.cells #[.int .i64 m.k, .int .i64 m.q, .slice A11 m.g.length c11, .slice B11 m.p.length d11] 31)) ∧ HasO (mO m (.slice A11 m.g.length c11) (.slice B11 m.p.length d11)) bw (w11.alloc (.cells #[.int .i64 m.k, .int .i64 m.q, .slice A11 m.g.length c11, .slice B11 m.p.length d11] 31)) ∧ (w11.alloc (.cells #[.int .i64 m.k, .int .i64 m.q, .slice A11 m.g.length c11, .slice B11 m.p.length d11] 31)).ownsRow wc.heap.size 66 2 (.slice A11 m.g.length c11) m.g.length (cts m.g) ∧ (w11.alloc (.cells #[.int .i64 m.k, .int .i64 m.q, .slice A11 m.g.length c11, .slice B11 m.p.length d11] 31)).ownsRow wc.heap.size 3 1 (.slice B11 m.p.length d11) m.p.length (m.p.map (.int .i64)) ∧ (∀ b, (Value.slice A11 m.g.length c11).ownBlock = some b ∨ (Value.slice B11 m.p.length d11).ownBlock = some b → b < bw) ∧ bo < bw from by
          have hb := BU.out.trans (B1.out.mono BU.out.size)
          refine ⟨hb.alloc hb.size _, (HOU.out.bel B1.out).alloc, by rw [hbw]; exact HasO.new _ _, OG.out.alloc _, OP.out.alloc _, fun b hb => ?_, by rw [hbw]; exact Nat.lt_of_lt_of_le HNB.out B1.out.size⟩
          rw [hbw]
          exact hb.elim (fun h => (OG.out.lt b h).2) fun h => (OP.out.lt b h).2)
        rw [← hbw]
        clear hbw B1 OG OP BU HOU
        refine forget (R := fun V => Below wr.heap.size wr V ∧ HasO (.cells #[.int .i64 od, .int .i64 oa, .int .i64 ob] 39 (0, 0)) bo V ∧ HasO (mO m (.slice A11 m.g.length c11) (.slice B11 m.p.length d11)) bw V ∧ V.ownsRow wc.heap.size 66 2 (.slice A11 m.g.length c11) m.g.length (cts m.g) ∧ V.ownsRow wc.heap.size 3 1 (.slice B11 m.p.length d11) m.p.length (m.p.map (.int .i64)) ∧ (∀ b, (Value.slice A11 m.g.length c11).ownBlock = some b ∨ (Value.slice B11 m.p.length d11).ownBlock = some b → b < bw) ∧ bo < bw) ?_ HR1.out
        clear HR1
        rintro V2 ⟨q1, q2, q3, q4, q5, q6, q7⟩
        have Q1 := hid q1; have Q2 := hid q2; have Q3 := hid q3; have Q4 := hid q4; have Q5 := hid q5; have Q6 := hid q6; have Q7 := hid q7
        obtain ⟨⟨m0, m1, m2, m3⟩, -⟩ := (HS.out.ext q1).bm.cells
        clear q1 q2 q3 q4 q5 q6 q7
        go_upto_region 21 with fail
        obtain ⟨bp, hbp⟩ : ∃ bp, bp = V2.heap.size := ⟨_, rfl⟩
        have HR2 := hid (show Below wr.heap.size wr (V2.alloc (.cells #[.int .i64 m.k, .int .i64 m.q, .slice Ag m.g.length cg, .slice Ap m.p.length cp] 31)) ∧ HasO (mO m (.slice Ag m.g.length cg) (.slice Ap m.p.length cp)) bp (V2.alloc (.cells #[.int .i64 m.k, .int .i64 m.q, .slice Ag m.g.length cg, .slice Ap m.p.length cp] 31)) ∧ Below V2.heap.size V2 (V2.alloc (.cells #[.int .i64 m.k, .int .i64 m.q, .slice Ag m.g.length cg, .slice Ap m.p.length cp] 31)) from
          ⟨Q1.out.alloc Q1.out.size _, by rw [hbp]; exact HasO.new _ _, (Below.refl _ _).alloc (Nat.le_refl _) _⟩)
        have HBP := hid hbp
        rw [← hbp]
        clear hbp m0 m1 m2 m3
        refine forget (R := fun V => Below wr.heap.size wr V ∧ HasO (mO m (.slice Ag m.g.length cg) (.slice Ap m.p.length cp)) bp V ∧ Below V2.heap.size V2 V) ?_ HR2.out
        clear HR2
        rintro V3 ⟨q1, q2, q3⟩
        have P1 := hid q1; have P2 := hid q2; have P3 := hid q3
        obtain ⟨⟨m0, m1, m2, m3⟩, -⟩ := (HS.out.ext q1).bn.cells
        clear q1 q2 q3
        go_upto_region 22 with fail
        obtain ⟨bq, hbq⟩ : ∃ bq, bq = V3.heap.size := ⟨_, rfl⟩
        have HR3 := hid (show ∃ c', TdR w (V3.alloc (.cells #[.int .i64 m.k, .int .i64 m.q, .slice Bg m.g.length eg, .slice Bp m.p.length ep] 31)) c' sa sb bm bn mb bo bw bp bq Za Zb X X m (.slice Ag m.g.length cg) (.slice Ap m.p.length cp) (.slice Bg m.g.length eg) (.slice Bp m.p.length ep) (.slice A11 m.g.length c11) (.slice B11 m.p.length d11) m (.slice Ag m.g.length cg) (.slice Ap m.p.length cp) m (.slice Bg m.g.length eg) (.slice Bp m.p.length ep) (.slice Av l.length cv) (.slice Aq l.length cq) l l od oa ob from by
          have e2 : bw < bp := by rw [HBP.out]; exact Q3.out.lt
          have e3 : bp < bq := by rw [hbq]; exact P2.out.lt
          have e4 : wr.heap.size ≤ bo := by rw [HBO.out]; exact Nat.le_refl _
          exact td_round HS.out (P1.out.alloc P1.out.size _) (Q2.out.bel P3.out).alloc (Q3.out.bel P3.out).alloc P2.out.alloc (by rw [hbq]; exact HasO.new _ _) ((own_ext Q4.out P3.out).alloc _) ((own_ext Q5.out P3.out).alloc _) Q6.out e4 HNB.out Q7.out e2 e3)
        rw [← hbq]
        clear hbq m0 m1 m2 m3 P1 P2 P3 Q1 Q2 Q3 Q4 Q5 Q6 Q7 HBP HBO HNB
        refine forget (R := fun V => ∃ c', TdR w V c' sa sb bm bn mb bo bw bp bq Za Zb X X m (.slice Ag m.g.length cg) (.slice Ap m.p.length cp) (.slice Bg m.g.length eg) (.slice Bp m.p.length ep) (.slice A11 m.g.length c11) (.slice B11 m.p.length d11) m (.slice Ag m.g.length cg) (.slice Ap m.p.length cp) m (.slice Bg m.g.length eg) (.slice Bp m.p.length ep) (.slice Av l.length cv) (.slice Aq l.length cq) l l od oa ob) ?_ HR3.out
        clear HR3
        rintro V4 ⟨c4, hD⟩
        have D := hid hD
        clear hD HS
        obtain ⟨o0, o1, o2⟩ := D.out.bo.cells
        have HXR := hid (show rdF X m l od oa ob = rdF X m l od oa ob from rfl)
        obtain ⟨R, hR⟩ : ∃ R : List ND × Int × MT × Int, R = rdF X m l od oa ob := ⟨_, rfl⟩
        have HRR := hid hR
        clear hR HXR
        go_upto_block 2 with fail
        go_cut [11, 13, 19, 20] (fun a b x y U => a = .int .i64 R.2.2.2 ∧ b = .int .i64 R.2.2.2 ∧ x = .int .i64 R.2.1 ∧ y = .int .i64 R.2.1 ∧ ∃ c5 Z5 Z6 gp pp gq pq, TdR w U c5 sa sb bm bn mb bo bw bp bq Z5 Z6 R.1 R.1 m (.slice Ag m.g.length cg) (.slice Ap m.p.length cp) (.slice Bg m.g.length eg) (.slice Bp m.p.length ep) (.slice A11 m.g.length c11) (.slice B11 m.p.length d11) R.2.2.1 gp pp R.2.2.1 gq pq (.slice Av l.length cv) (.slice Aq l.length cq) l l od oa ob)
        case first =>
          by_cases h0 : od = 0
          · subst h0
            have HR := hid (show R = ((askF X oa ob).1, (askF X oa ob).2.1, m, (askF X oa ob).2.2) from HRR.out)
            have hbI := HI.out.2.2
            have HA := hid (l_ask D.out.ta.tx.a HT.out (nonce := oa) (draw := ob) hbI (xs' := (askF X oa ob).1) (i := (askF X oa ob).2.1) (er := (askF X oa ob).2.2) rfl)
            go_wp2_with fail
            refine HA.out.mono ?_
            rintro e w6 ⟨Z6, rfl, l6, m6⟩
            obtain ⟨c6, d6, -⟩ := D.out.onA l6 m6
            have D6 := hid d6
            clear l6 m6 d6 HA
            have HB := hid (rask_any D6.out.ta.tx.b (nonce := oa) (draw := ob) hbI)
            obtain ⟨o0, o1, o2⟩ := D6.out.bo.cells
            go_wp2_with fail
            refine HB.out.mono ?_
            rintro e w7 ⟨Z7, rfl, l7, m7⟩
            obtain ⟨c7, d7, -⟩ := D6.out.onB l7 m7
            have D7 := hid d7
            clear l7 m7 d7 HB
            go_wp2_with fail
            go_meet
            rw [HR.out]
            exact ⟨rfl, rfl, rfl, rfl, c7, Z6, Z7, _, _, _, _, D7.out⟩
          · have hb0 : (od == 0) = false := beq_eq_false_iff_ne.2 h0
            have hll : l.length ≤ 1000000 := by have := HLL.out; have := HLT.out; omega
            have hjo := HJ.out.o (by have := HLT.out; omega)
            by_cases h1 : od = 1
            · as_aux_lemma =>
              subst h1
              have HR := hid (show R = issF X m oa (lastF l ob) from HRR.out)
              have HJO := hid hjo; have HLN := hid hll
              have HLA := hid (last_any Av l.length cv l ob V4.drew ((SlA.of_own D.out.rv.r).2.drew) hll HI.out.2.2)
              have HD0 := hid (D.out.ext (below_drew (Below.refl V4.heap.size V4)))
              have HAI := hid (last_i64 (l := l) HLI.out HI.out.2.2)
              have HIS := hid (l_iss HD0.out.ta.tx.a HT.out (HD0.out.bm.r.sub fun b hz e => by have := HD0.out.ta.z b hz; omega) hjo HAI.out HI.out.2.1 (xs' := (issF X m oa (lastF l ob)).1) (i := (issF X m oa (lastF l ob)).2.1) (m' := (issF X m oa (lastF l ob)).2.2.1) (er := (issF X m oa (lastF l ob)).2.2.2) rfl)
              rw [← HR.out] at HIS
              obtain ⟨m0, m1, m2, m3, o1, o2⟩ := D.out.csM
              clear hjo hll h0
              go_upto_region 29 with fail
              go_cut [19, 11, 13, 20] (fun x e _ _ U => x = .int .i64 R.2.1 ∧ e = .int .i64 R.2.2.2 ∧ ∃ c6 Z6 gp pp, TdR w U c6 sa sb bm bn mb bo bw bp bq Z6 Zb R.1 X m (.slice Ag m.g.length cg) (.slice Ap m.p.length cp) (.slice Bg m.g.length eg) (.slice Bp m.p.length ep) (.slice A11 m.g.length c11) (.slice B11 m.p.length d11) R.2.2.1 gp pp m (.slice Bg m.g.length eg) (.slice Bp m.p.length ep) (.slice Av l.length cv) (.slice Aq l.length cq) l l 1 oa ob)
              case first => as_aux_lemma =>
                refine wp_region_any (by kernel_rfl) ?_
                change wpAny _ _ _ _ 16 _ _ V4.drew
                refine wpAny_head 0 8 (by kernel_rfl) ?_
                simp only [List.drop_zero, List.take_succ_cons, List.take_zero]
                still_step
                still_step
                still_step
                still_step
                still_step
                still_step
                still_step
                still_call (HLA.out)
                refine wpStill_nil ?_
                change wpAny _ _ _ _ 8 _ _ _
                refine wpAny_ready (rs := [8]) (by kernel_rfl) (by simp) ?_
                refine AllReady.cons rfl (fun K hK => ?_) AllReady.nil
                go_simp
                refine Calls.mono HIS.out ?_
                rintro e6 w6 ⟨Z6, g6, p6, rfl, l6, m6, r6, n6⟩
                obtain ⟨A6, e6, B6, f6, rfl, rfl⟩ := r6.sh _ _ rfl rfl
                obtain ⟨c6, d6, hc6⟩ := HD0.out.onA l6 m6
                have D6 := hid d6
                have R6 := hid (r6.newc n6 hc6)
                clear l6 m6 d6 r6 n6 hc6
                obtain ⟨⟨k0, k1, k2, k3⟩, f0, f1, f2, f3⟩ := D6.out.bp.cells
                refine hK _ _ ?_
                clear hK K
                try simp only [Act.put, List.getElem_toArray, List.getElem_cons_zero, List.getElem_cons_succ, List.setIfInBounds_toArray, List.set_cons_zero, List.set_cons_succ]
                refine wpAny_take (i := 9) (v := ?_) rfl (by kernel_rfl) (by kernel_rfl) (by kernel_rfl) (fun _ _ _ h => h) (Or.inl ⟨by rfl, ?_⟩) ?_
                rotate_left
                · (intro w; go_simp <;> with_reducible rfl)
                try simp only [Act.put, List.getElem_toArray, List.getElem_cons_zero, List.getElem_cons_succ, List.setIfInBounds_toArray, List.set_cons_zero, List.set_cons_succ]
                refine wpAny_take (i := 10) (v := ?_) rfl (by kernel_rfl) (by kernel_rfl) (by kernel_rfl) (fun _ _ _ h => h) (Or.inl ⟨by rfl, ?_⟩) ?_
                rotate_left
                · (intro w; go_simp <;> with_reducible rfl)
                try simp only [Act.put, List.getElem_toArray, List.getElem_cons_zero, List.getElem_cons_succ, List.setIfInBounds_toArray, List.set_cons_zero, List.set_cons_succ]
                refine wpAny_take (i := 11) (v := ?_) rfl (by kernel_rfl) (by kernel_rfl) (by kernel_rfl) (fun _ _ _ h => h) (Or.inl ⟨by rfl, ?_⟩) ?_
                rotate_left
                · (intro w; go_simp <;> with_reducible rfl)
                try simp only [Act.put, List.getElem_toArray, List.getElem_cons_zero, List.getElem_cons_succ, List.setIfInBounds_toArray, List.set_cons_zero, List.set_cons_succ]
                refine wpAny_take (i := 12) (v := ?_) rfl (by kernel_rfl) (by kernel_rfl) (by kernel_rfl) (fun _ _ _ h => h) (Or.inl ⟨by rfl, ?_⟩) ?_
                rotate_left
                · (intro w; go_simp <;> with_reducible rfl)
                try simp only [Act.put, List.getElem_toArray, List.getElem_cons_zero, List.getElem_cons_succ, List.setIfInBounds_toArray, List.set_cons_zero, List.set_cons_succ]
                refine wpAny_take (i := 13) (v := ?_) rfl (by kernel_rfl) (by kernel_rfl) (by kernel_rfl) (fun _ _ _ h => h) (Or.inl ⟨by rfl, ?_⟩) ?_
                rotate_left
                · (intro w; go_simp <;> with_reducible rfl)
                try simp only [Act.put, List.getElem_toArray, List.getElem_cons_zero, List.getElem_cons_succ, List.setIfInBounds_toArray, List.set_cons_zero, List.set_cons_succ]
                refine wpAny_ready (rs := [14]) (by kernel_rfl) (by simp) ?_
                refine AllReady.cons rfl (fun K hK => ?_) AllReady.nil
                go_simp
                refine hK _ _ ?_
                clear hK K
                try simp only [Act.put, List.getElem_toArray, List.getElem_cons_zero, List.getElem_cons_succ, List.setIfInBounds_toArray, List.set_cons_zero, List.set_cons_succ]
                refine wpAny_take (i := 15) (v := ?_) rfl (by kernel_rfl) (by kernel_rfl) (by kernel_rfl) (fun _ _ _ h => h) (Or.inl ⟨by rfl, ?_⟩) ?_
                rotate_left
                · (intro w; go_simp <;> with_reducible rfl)
                try simp only [Act.put, List.getElem_toArray, List.getElem_cons_zero, List.getElem_cons_succ, List.setIfInBounds_toArray, List.set_cons_zero, List.set_cons_succ]
                refine wpAny_done (by kernel_rfl) ?_ _
                go_wp2_with fail
                go_meet
                exact ⟨rfl, rfl, c6, Z6, _, _, D6.out.putP R6.out⟩
              case rest =>
                obtain ⟨rfl, rfl, c6, Z6, gp, pp, hD⟩ := hcut
                have D6 := hid hD
                clear hD HLA HIS HD0 D m0 m1 m2 m3 o1 o2
                have HLA := hid (last_any Aq l.length cq l ob wc.drew ((SlA.of_own D6.out.rv'.r).2.drew) HLN.out HI.out.2.2)
                have HD0 := hid (D6.out.ext (below_drew (Below.refl wc.heap.size wc)))
                have HIS := hid (rissue_any HD0.out.ta.tx.b m _ _ (HD0.out.bn.r.sub fun b hz e => by have := HD0.out.ta.z' b hz; omega) HJO.out oa (lastF l ob) HI.out.2.1)
                rw [← HR.out] at HIS
                unfold IsQ mtV at HIS
                obtain ⟨m0, m1, m2, m3, o1, o2⟩ := D6.out.csN
                go_upto_region 30 with fail
                refine wp_region_any (by kernel_rfl) ?_
                change wpAny _ _ _ _ 16 _ _ wc.drew
                refine wpAny_head 0 8 (by kernel_rfl) ?_
                simp only [List.drop_zero, List.take_succ_cons, List.take_zero]
                still_step
                still_step
                still_step
                still_step
                still_step
                still_step
                still_step
                still_call (HLA.out)
                refine wpStill_nil ?_
                change wpAny _ _ _ _ 8 _ _ _
                refine wpAny_ready (rs := [8]) (by kernel_rfl) (by simp) ?_
                refine AllReady.cons rfl (fun K hK => ?_) AllReady.nil
                go_simp
                refine Calls.mono HIS.out ?_
                rintro e8 w8 ⟨Z8, g8, p8, rfl, l8, m8, r8, n8⟩
                obtain ⟨A8, e8, B8, f8, rfl, rfl⟩ := r8.sh _ _ rfl rfl
                obtain ⟨c8, d8, hc8⟩ := HD0.out.onB l8 m8
                have D8 := hid d8
                have R8 := hid (r8.newc n8 hc8)
                clear l8 m8 d8 r8 n8 hc8
                obtain ⟨⟨k0, k1, k2, k3⟩, f0, f1, f2, f3⟩ := D8.out.bq.cells
                refine hK _ _ ?_
                clear hK K
                try simp only [Act.put, List.getElem_toArray, List.getElem_cons_zero, List.getElem_cons_succ, List.setIfInBounds_toArray, List.set_cons_zero, List.set_cons_succ]
                refine wpAny_take (i := 9) (v := ?_) rfl (by kernel_rfl) (by kernel_rfl) (by kernel_rfl) (fun _ _ _ h => h) (Or.inl ⟨by rfl, ?_⟩) ?_
                rotate_left
                · (intro w; go_simp <;> with_reducible rfl)
                try simp only [Act.put, List.getElem_toArray, List.getElem_cons_zero, List.getElem_cons_succ, List.setIfInBounds_toArray, List.set_cons_zero, List.set_cons_succ]
                refine wpAny_take (i := 10) (v := ?_) rfl (by kernel_rfl) (by kernel_rfl) (by kernel_rfl) (fun _ _ _ h => h) (Or.inl ⟨by rfl, ?_⟩) ?_
                rotate_left
                · (intro w; go_simp <;> with_reducible rfl)
                try simp only [Act.put, List.getElem_toArray, List.getElem_cons_zero, List.getElem_cons_succ, List.setIfInBounds_toArray, List.set_cons_zero, List.set_cons_succ]
                refine wpAny_take (i := 11) (v := ?_) rfl (by kernel_rfl) (by kernel_rfl) (by kernel_rfl) (fun _ _ _ h => h) (Or.inl ⟨by rfl, ?_⟩) ?_
                rotate_left
                · (intro w; go_simp <;> with_reducible rfl)
                try simp only [Act.put, List.getElem_toArray, List.getElem_cons_zero, List.getElem_cons_succ, List.setIfInBounds_toArray, List.set_cons_zero, List.set_cons_succ]
                refine wpAny_take (i := 12) (v := ?_) rfl (by kernel_rfl) (by kernel_rfl) (by kernel_rfl) (fun _ _ _ h => h) (Or.inl ⟨by rfl, ?_⟩) ?_
                rotate_left
                · (intro w; go_simp <;> with_reducible rfl)
                try simp only [Act.put, List.getElem_toArray, List.getElem_cons_zero, List.getElem_cons_succ, List.setIfInBounds_toArray, List.set_cons_zero, List.set_cons_succ]
                refine wpAny_take (i := 13) (v := ?_) rfl (by kernel_rfl) (by kernel_rfl) (by kernel_rfl) (fun _ _ _ h => h) (Or.inl ⟨by rfl, ?_⟩) ?_
                rotate_left
                · (intro w; go_simp <;> with_reducible rfl)
                try simp only [Act.put, List.getElem_toArray, List.getElem_cons_zero, List.getElem_cons_succ, List.setIfInBounds_toArray, List.set_cons_zero, List.set_cons_succ]
                refine wpAny_ready (rs := [14]) (by kernel_rfl) (by simp) ?_
                refine AllReady.cons rfl (fun K hK => ?_) AllReady.nil
                go_simp
                refine hK _ _ ?_
                clear hK K
                try simp only [Act.put, List.getElem_toArray, List.getElem_cons_zero, List.getElem_cons_succ, List.setIfInBounds_toArray, List.set_cons_zero, List.set_cons_succ]
                refine wpAny_take (i := 15) (v := ?_) rfl (by kernel_rfl) (by kernel_rfl) (by kernel_rfl) (fun _ _ _ h => h) (Or.inl ⟨by rfl, ?_⟩) ?_
                rotate_left
                · (intro w; go_simp <;> with_reducible rfl)
                try simp only [Act.put, List.getElem_toArray, List.getElem_cons_zero, List.getElem_cons_succ, List.setIfInBounds_toArray, List.set_cons_zero, List.set_cons_succ]
                refine wpAny_done (by kernel_rfl) ?_ _
                go_wp2_with fail
                go_meet
                exact ⟨rfl, rfl, rfl, rfl, c8, Z6, Z8, _, _, _, _, D8.out.putQ R8.out⟩
            · have hb1 : (od == 1) = false := beq_eq_false_iff_ne.2 h1
              by_cases h2 : od = 2
              · as_aux_lemma =>
                subst h2
                have HR := hid (show R = ((finF X (lastF l oa) ob).1, (finF X (lastF l oa) ob).2.1, m, (finF X (lastF l oa) ob).2.2) from HRR.out)
                have HLN := hid hll
                have HLA := hid (last_any Av l.length cv l oa V4.drew ((SlA.of_own D.out.rv.r).2.drew) hll HI.out.2.1)
                have HD0 := hid (D.out.ext (below_drew (Below.refl V4.heap.size V4)))
                have HIS := hid (l_fin HD0.out.ta.tx.a HT.out (sig := lastF l oa) (draw := ob) HI.out.2.2 (xs' := (finF X (lastF l oa) ob).1) (i := (finF X (lastF l oa) ob).2.1) (er := (finF X (lastF l oa) ob).2.2) rfl)
                obtain ⟨o1, o2⟩ := D.out.csO
                clear hjo hll h0 h1
                go_upto_region 32 with fail
                go_cut [19, 11, 13, 20] (fun x e _ _ U => x = .int .i64 (finF X (lastF l oa) ob).2.1 ∧ e = .int .i64 (finF X (lastF l oa) ob).2.2 ∧ ∃ c6 Z6, TdR w U c6 sa sb bm bn mb bo bw bp bq Z6 Zb (finF X (lastF l oa) ob).1 X m (.slice Ag m.g.length cg) (.slice Ap m.p.length cp) (.slice Bg m.g.length eg) (.slice Bp m.p.length ep) (.slice A11 m.g.length c11) (.slice B11 m.p.length d11) m (.slice Ag m.g.length cg) (.slice Ap m.p.length cp) m (.slice Bg m.g.length eg) (.slice Bp m.p.length ep) (.slice Av l.length cv) (.slice Aq l.length cq) l l 2 oa ob)
                case first => as_aux_lemma =>
                  refine wp_region_any (by kernel_rfl) ?_
                  change wpAny _ _ _ _ 13 _ _ V4.drew
                  refine wpAny_head 0 7 (by kernel_rfl) ?_
                  simp only [List.drop_zero, List.take_succ_cons, List.take_zero]
                  still_step
                  still_step
                  still_step
                  still_step
                  still_call (HLA.out)
                  still_step
                  still_step
                  refine wpStill_nil ?_
                  change wpAny _ _ _ _ 6 _ _ _
                  refine wpAny_ready (rs := [7]) (by kernel_rfl) (by simp) ?_
                  refine AllReady.cons rfl (fun K hK => ?_) AllReady.nil
                  go_simp
                  refine Calls.mono HIS.out ?_
                  rintro e6 w6 ⟨Z6, rfl, l6, m6⟩
                  obtain ⟨c6, d6, -⟩ := HD0.out.onA l6 m6
                  have D6 := hid d6
                  clear l6 m6 d6
                  refine hK _ _ ?_
                  clear hK K
                  try simp only [Act.put, List.getElem_toArray, List.getElem_cons_zero, List.getElem_cons_succ, List.setIfInBounds_toArray, List.set_cons_zero, List.set_cons_succ]
                  refine wpAny_take (i := 8) (v := ?_) rfl (by kernel_rfl) (by kernel_rfl) (by kernel_rfl) (fun _ _ _ h => h) (Or.inl ⟨by rfl, ?_⟩) ?_
                  rotate_left
                  · (intro w; go_simp <;> with_reducible rfl)
                  try simp only [Act.put, List.getElem_toArray, List.getElem_cons_zero, List.getElem_cons_succ, List.setIfInBounds_toArray, List.set_cons_zero, List.set_cons_succ]
                  refine wpAny_take (i := 9) (v := ?_) rfl (by kernel_rfl) (by kernel_rfl) (by kernel_rfl) (fun _ _ _ h => h) (Or.inl ⟨by rfl, ?_⟩) ?_
                  rotate_left
                  · (intro w; go_simp <;> with_reducible rfl)
                  try simp only [Act.put, List.getElem_toArray, List.getElem_cons_zero, List.getElem_cons_succ, List.setIfInBounds_toArray, List.set_cons_zero, List.set_cons_succ]
                  refine wpAny_take (i := 10) (v := ?_) rfl (by kernel_rfl) (by kernel_rfl) (by kernel_rfl) (fun _ _ _ h => h) (Or.inl ⟨by rfl, ?_⟩) ?_
                  rotate_left
                  · (intro w; go_simp <;> with_reducible rfl)
                  try simp only [Act.put, List.getElem_toArray, List.getElem_cons_zero, List.getElem_cons_succ, List.setIfInBounds_toArray, List.set_cons_zero, List.set_cons_succ]
                  refine wpAny_take (i := 11) (v := ?_) rfl (by kernel_rfl) (by kernel_rfl) (by kernel_rfl) (fun _ _ _ h => h) (Or.inl ⟨by rfl, ?_⟩) ?_
                  rotate_left
                  · (intro w; go_simp <;> with_reducible rfl)
                  try simp only [Act.put, List.getElem_toArray, List.getElem_cons_zero, List.getElem_cons_succ, List.setIfInBounds_toArray, List.set_cons_zero, List.set_cons_succ]
                  refine wpAny_take (i := 12) (v := ?_) rfl (by kernel_rfl) (by kernel_rfl) (by kernel_rfl) (fun _ _ _ h => h) (Or.inl ⟨by rfl, ?_⟩) ?_
                  rotate_left
                  · (intro w; go_simp <;> with_reducible rfl)
                  try simp only [Act.put, List.getElem_toArray, List.getElem_cons_zero, List.getElem_cons_succ, List.setIfInBounds_toArray, List.set_cons_zero, List.set_cons_succ]
                  refine wpAny_done (by kernel_rfl) ?_ _
                  go_wp2_with fail
                  go_meet
                  exact ⟨rfl, rfl, c6, Z6, D6.out⟩
                case rest =>
                  obtain ⟨rfl, rfl, c6, Z6, hD⟩ := hcut
                  have D6 := hid hD
                  clear hD HLA HIS HD0 D o1 o2
                  have HLA := hid (last_any Aq l.length cq l oa wc.drew ((SlA.of_own D6.out.rv'.r).2.drew) HLN.out HI.out.2.1)
                  have HD0 := hid (D6.out.ext (below_drew (Below.refl wc.heap.size wc)))
                  have HIS := hid (rfin_any HD0.out.ta.tx.b (sig := lastF l oa) (draw := ob) HI.out.2.2)
                  unfold LrQ at HIS
                  obtain ⟨o1, o2⟩ := D6.out.csO
                  go_upto_region 33 with fail
                  refine wp_region_any (by kernel_rfl) ?_
                  change wpAny _ _ _ _ 13 _ _ wc.drew
                  refine wpAny_head 0 7 (by kernel_rfl) ?_
                  simp only [List.drop_zero, List.take_succ_cons, List.take_zero]
                  still_step
                  still_step
                  still_step
                  still_step
                  still_call (HLA.out)
                  still_step
                  still_step
                  refine wpStill_nil ?_
                  change wpAny _ _ _ _ 6 _ _ _
                  refine wpAny_ready (rs := [7]) (by kernel_rfl) (by simp) ?_
                  refine AllReady.cons rfl (fun K hK => ?_) AllReady.nil
                  go_simp
                  refine Calls.mono HIS.out ?_
                  rintro e8 w8 ⟨Z8, rfl, l8, m8⟩
                  obtain ⟨c8, d8, -⟩ := HD0.out.onB l8 m8
                  have D8 := hid d8
                  clear l8 m8 d8
                  refine hK _ _ ?_
                  clear hK K
                  try simp only [Act.put, List.getElem_toArray, List.getElem_cons_zero, List.getElem_cons_succ, List.setIfInBounds_toArray, List.set_cons_zero, List.set_cons_succ]
                  refine wpAny_take (i := 8) (v := ?_) rfl (by kernel_rfl) (by kernel_rfl) (by kernel_rfl) (fun _ _ _ h => h) (Or.inl ⟨by rfl, ?_⟩) ?_
                  rotate_left
                  · (intro w; go_simp <;> with_reducible rfl)
                  try simp only [Act.put, List.getElem_toArray, List.getElem_cons_zero, List.getElem_cons_succ, List.setIfInBounds_toArray, List.set_cons_zero, List.set_cons_succ]
                  refine wpAny_take (i := 9) (v := ?_) rfl (by kernel_rfl) (by kernel_rfl) (by kernel_rfl) (fun _ _ _ h => h) (Or.inl ⟨by rfl, ?_⟩) ?_
                  rotate_left
                  · (intro w; go_simp <;> with_reducible rfl)
                  try simp only [Act.put, List.getElem_toArray, List.getElem_cons_zero, List.getElem_cons_succ, List.setIfInBounds_toArray, List.set_cons_zero, List.set_cons_succ]
                  refine wpAny_take (i := 10) (v := ?_) rfl (by kernel_rfl) (by kernel_rfl) (by kernel_rfl) (fun _ _ _ h => h) (Or.inl ⟨by rfl, ?_⟩) ?_
                  rotate_left
                  · (intro w; go_simp <;> with_reducible rfl)
                  try simp only [Act.put, List.getElem_toArray, List.getElem_cons_zero, List.getElem_cons_succ, List.setIfInBounds_toArray, List.set_cons_zero, List.set_cons_succ]
                  refine wpAny_take (i := 11) (v := ?_) rfl (by kernel_rfl) (by kernel_rfl) (by kernel_rfl) (fun _ _ _ h => h) (Or.inl ⟨by rfl, ?_⟩) ?_
                  rotate_left
                  · (intro w; go_simp <;> with_reducible rfl)
                  try simp only [Act.put, List.getElem_toArray, List.getElem_cons_zero, List.getElem_cons_succ, List.setIfInBounds_toArray, List.set_cons_zero, List.set_cons_succ]
                  refine wpAny_take (i := 12) (v := ?_) rfl (by kernel_rfl) (by kernel_rfl) (by kernel_rfl) (fun _ _ _ h => h) (Or.inl ⟨by rfl, ?_⟩) ?_
                  rotate_left
                  · (intro w; go_simp <;> with_reducible rfl)
                  try simp only [Act.put, List.getElem_toArray, List.getElem_cons_zero, List.getElem_cons_succ, List.setIfInBounds_toArray, List.set_cons_zero, List.set_cons_succ]
                  refine wpAny_done (by kernel_rfl) ?_ _
                  go_wp2_with fail
                  go_meet
                  rw [HR.out]
                  exact ⟨rfl, rfl, rfl, rfl, c8, Z6, Z8, _, _, _, _, D8.out⟩
              · as_aux_lemma =>
                have hb2 : (od == 2) = false := beq_eq_false_iff_ne.2 h2
                have HR := hid (show R = (X, 0, (spF X m oa (lastF l ob)).1, (spF X m oa (lastF l ob)).2) from by rw [HRR.out]; unfold rdF; rw [if_neg h0, if_neg h1, if_neg h2])
                have HJO := hid hjo; have HLN := hid hll
                have HLA := hid (last_any Av l.length cv l ob V4.drew ((SlA.of_own D.out.rv.r).2.drew) hll HI.out.2.2)
                have HD0 := hid (D.out.ext (below_drew (Below.refl V4.heap.size V4)))
                have HIS := hid (l_spend HD0.out.ta.tx.a (nonce := oa) (sig := lastF l ob) (HD0.out.bm.r.sub fun b hz e => by have := HD0.out.ta.z b hz; omega) hjo (m' := (spF X m oa (lastF l ob)).1) (er := (spF X m oa (lastF l ob)).2) rfl)
                obtain ⟨m0, m1, m2, m3, o1, o2⟩ := D.out.csM
                clear hjo hll h0 h1 h2
                go_upto_region 23 with fail
                go_cut [11, 13, 19, 20] (fun e _ x y U => e = .int .i64 (spF X m oa (lastF l ob)).2 ∧ x = .int .i64 0 ∧ y = .int .i64 0 ∧ ∃ c6 gp pp, TdR w U c6 sa sb bm bn mb bo bw bp bq Za Zb X X m (.slice Ag m.g.length cg) (.slice Ap m.p.length cp) (.slice Bg m.g.length eg) (.slice Bp m.p.length ep) (.slice A11 m.g.length c11) (.slice B11 m.p.length d11) (spF X m oa (lastF l ob)).1 gp pp m (.slice Bg m.g.length eg) (.slice Bp m.p.length ep) (.slice Av l.length cv) (.slice Aq l.length cq) l l od oa ob)
                case first => as_aux_lemma =>
                  refine wp_region_any (by kernel_rfl) ?_
                  change wpAny _ _ _ _ 14 _ _ V4.drew
                  refine wpAny_head 0 8 (by kernel_rfl) ?_
                  simp only [List.drop_zero, List.take_succ_cons, List.take_zero]
                  still_step
                  still_step
                  still_step
                  still_step
                  still_step
                  still_step
                  still_step
                  still_call (HLA.out)
                  refine wpStill_nil ?_
                  change wpAny _ _ _ _ 6 _ _ _
                  refine wpAny_ready (rs := [8]) (by kernel_rfl) (by simp) ?_
                  refine AllReady.cons rfl (fun K hK => ?_) AllReady.nil
                  go_simp
                  refine Calls.mono HIS.out ?_
                  rintro e6 w6 ⟨g6, p6, rfl, l6, m6, r6, n6⟩
                  obtain ⟨A6, e6, B6, f6, rfl, rfl⟩ := r6.sh _ _ rfl rfl
                  obtain ⟨c6, d6, hc6⟩ := HD0.out.onA l6 m6
                  have D6 := hid d6
                  have R6 := hid (r6.newc n6 hc6)
                  clear l6 m6 d6 r6 n6 hc6
                  obtain ⟨⟨k0, k1, k2, k3⟩, f0, f1, f2, f3⟩ := D6.out.bp.cells
                  refine hK _ _ ?_
                  clear hK K
                  try simp only [Act.put, List.getElem_toArray, List.getElem_cons_zero, List.getElem_cons_succ, List.setIfInBounds_toArray, List.set_cons_zero, List.set_cons_succ]
                  refine wpAny_take (i := 9) (v := ?_) rfl (by kernel_rfl) (by kernel_rfl) (by kernel_rfl) (fun _ _ _ h => h) (Or.inl ⟨by rfl, ?_⟩) ?_
                  rotate_left
                  · (intro w; go_simp <;> with_reducible rfl)
                  try simp only [Act.put, List.getElem_toArray, List.getElem_cons_zero, List.getElem_cons_succ, List.setIfInBounds_toArray, List.set_cons_zero, List.set_cons_succ]
                  refine wpAny_take (i := 10) (v := ?_) rfl (by kernel_rfl) (by kernel_rfl) (by kernel_rfl) (fun _ _ _ h => h) (Or.inl ⟨by rfl, ?_⟩) ?_
                  rotate_left
                  · (intro w; go_simp <;> with_reducible rfl)
                  try simp only [Act.put, List.getElem_toArray, List.getElem_cons_zero, List.getElem_cons_succ, List.setIfInBounds_toArray, List.set_cons_zero, List.set_cons_succ]
                  refine wpAny_take (i := 11) (v := ?_) rfl (by kernel_rfl) (by kernel_rfl) (by kernel_rfl) (fun _ _ _ h => h) (Or.inl ⟨by rfl, ?_⟩) ?_
                  rotate_left
                  · (intro w; go_simp <;> with_reducible rfl)
                  try simp only [Act.put, List.getElem_toArray, List.getElem_cons_zero, List.getElem_cons_succ, List.setIfInBounds_toArray, List.set_cons_zero, List.set_cons_succ]
                  refine wpAny_ready (rs := [12]) (by kernel_rfl) (by simp) ?_
                  refine AllReady.cons rfl (fun K hK => ?_) AllReady.nil
                  go_simp
                  refine hK _ _ ?_
                  clear hK K
                  try simp only [Act.put, List.getElem_toArray, List.getElem_cons_zero, List.getElem_cons_succ, List.setIfInBounds_toArray, List.set_cons_zero, List.set_cons_succ]
                  refine wpAny_take (i := 13) (v := ?_) rfl (by kernel_rfl) (by kernel_rfl) (by kernel_rfl) (fun _ _ _ h => h) (Or.inl ⟨by rfl, ?_⟩) ?_
                  rotate_left
                  · (intro w; go_simp <;> with_reducible rfl)
                  try simp only [Act.put, List.getElem_toArray, List.getElem_cons_zero, List.getElem_cons_succ, List.setIfInBounds_toArray, List.set_cons_zero, List.set_cons_succ]
                  refine wpAny_done (by kernel_rfl) ?_ _
                  go_wp2_with fail
                  go_meet
                  exact ⟨rfl, rfl, rfl, c6, _, _, D6.out.putP R6.out⟩
                case rest =>
                  obtain ⟨rfl, rfl, rfl, c6, gp, pp, hD⟩ := hcut
                  have D6 := hid hD
                  clear hD HLA HIS HD0 D m0 m1 m2 m3 o1 o2
                  have HLA := hid (last_any Aq l.length cq l ob wc.drew ((SlA.of_own D6.out.rv'.r).2.drew) HLN.out HI.out.2.2)
                  have HD0 := hid (D6.out.ext (below_drew (Below.refl wc.heap.size wc)))
                  have HIS := hid (rspend_any HD0.out.ta.tx.b m Bg Bp eg ep HD0.out.bn.r.sl.1 HD0.out.bn.r.sl.2 HJO.out oa (lastF l ob))
                  unfold SpQ mtV at HIS
                  obtain ⟨m0, m1, m2, m3, o1, o2⟩ := D6.out.csN
                  go_upto_region 24 with fail
                  refine wp_region_any (by kernel_rfl) ?_
                  change wpAny _ _ _ _ 14 _ _ wc.drew
                  refine wpAny_head 0 8 (by kernel_rfl) ?_
                  simp only [List.drop_zero, List.take_succ_cons, List.take_zero]
                  still_step
                  still_step
                  still_step
                  still_step
                  still_step
                  still_step
                  still_step
                  still_call (HLA.out)
                  refine wpStill_nil ?_
                  change wpAny _ _ _ _ 6 _ _ _
                  refine wpAny_ready (rs := [8]) (by kernel_rfl) (by simp) ?_
                  refine AllReady.cons rfl (fun K hK => ?_) AllReady.nil
                  go_simp
                  refine Calls.mono HIS.out ?_
                  rintro e8 w8 ⟨g8, p8, rfl, b8, og8, op8⟩
                  have RS8 := hid (sp_mtr HD0.out.ta.tx.b.ar.zlt og8 op8)
                  obtain ⟨A8, e8, rfl, -⟩ := SlA.owned og8
                  obtain ⟨B8, f8, rfl, -⟩ := SlA.owned op8
                  obtain ⟨c8, d8, hc8⟩ := HD0.out.onB (HD0.out.ta.tx.b.ext b8) (Mv.below b8)
                  have D8 := hid d8
                  have R8 := hid (RS8.out.1.newc RS8.out.2 hc8)
                  clear b8 og8 op8 d8 hc8
                  obtain ⟨⟨k0, k1, k2, k3⟩, f0, f1, f2, f3⟩ := D8.out.bq.cells
                  refine hK _ _ ?_
                  clear hK K
                  try simp only [Act.put, List.getElem_toArray, List.getElem_cons_zero, List.getElem_cons_succ, List.setIfInBounds_toArray, List.set_cons_zero, List.set_cons_succ]
                  refine wpAny_take (i := 9) (v := ?_) rfl (by kernel_rfl) (by kernel_rfl) (by kernel_rfl) (fun _ _ _ h => h) (Or.inl ⟨by rfl, ?_⟩) ?_
                  rotate_left
                  · (intro w; go_simp <;> with_reducible rfl)
                  try simp only [Act.put, List.getElem_toArray, List.getElem_cons_zero, List.getElem_cons_succ, List.setIfInBounds_toArray, List.set_cons_zero, List.set_cons_succ]
                  refine wpAny_take (i := 10) (v := ?_) rfl (by kernel_rfl) (by kernel_rfl) (by kernel_rfl) (fun _ _ _ h => h) (Or.inl ⟨by rfl, ?_⟩) ?_
                  rotate_left
                  · (intro w; go_simp <;> with_reducible rfl)
                  try simp only [Act.put, List.getElem_toArray, List.getElem_cons_zero, List.getElem_cons_succ, List.setIfInBounds_toArray, List.set_cons_zero, List.set_cons_succ]
                  refine wpAny_take (i := 11) (v := ?_) rfl (by kernel_rfl) (by kernel_rfl) (by kernel_rfl) (fun _ _ _ h => h) (Or.inl ⟨by rfl, ?_⟩) ?_
                  rotate_left
                  · (intro w; go_simp <;> with_reducible rfl)
                  try simp only [Act.put, List.getElem_toArray, List.getElem_cons_zero, List.getElem_cons_succ, List.setIfInBounds_toArray, List.set_cons_zero, List.set_cons_succ]
                  refine wpAny_ready (rs := [12]) (by kernel_rfl) (by simp) ?_
                  refine AllReady.cons rfl (fun K hK => ?_) AllReady.nil
                  go_simp
                  refine hK _ _ ?_
                  clear hK K
                  try simp only [Act.put, List.getElem_toArray, List.getElem_cons_zero, List.getElem_cons_succ, List.setIfInBounds_toArray, List.set_cons_zero, List.set_cons_succ]
                  refine wpAny_take (i := 13) (v := ?_) rfl (by kernel_rfl) (by kernel_rfl) (by kernel_rfl) (fun _ _ _ h => h) (Or.inl ⟨by rfl, ?_⟩) ?_
                  rotate_left
                  · (intro w; go_simp <;> with_reducible rfl)
                  try simp only [Act.put, List.getElem_toArray, List.getElem_cons_zero, List.getElem_cons_succ, List.setIfInBounds_toArray, List.set_cons_zero, List.set_cons_succ]
                  refine wpAny_done (by kernel_rfl) ?_ _
                  go_wp2_with fail
                  go_meet
                  rw [HR.out]
                  exact ⟨rfl, rfl, rfl, rfl, c8, Za, Zb, _, _, _, _, D8.out.putQ R8.out⟩
        case rest => as_aux_lemma =>
          obtain ⟨rfl, rfl, rfl, rfl, c5, Z5, Z6, gp, pp, gq, pq, hD⟩ := hcut
          obtain ⟨A6, e6, B6, f6, rfl, rfl, -, -⟩ := hD.bp.r
          obtain ⟨A7, e7, B7, f7, rfl, rfl, -, -⟩ := hD.bq.r
          have HJ1 := hid (show MtJ (j + 1) R.2.2.1 from by rw [HRR.out]; exact rd_j HJ.out l od HI.out.2.1 ob)
          have HHAS := hid (fun (h0 : 0 ≤ od) (h3 : od < 3) (he : R.2.2.2 = 0) => (show hasB R.1 R.2.1 = true from by rw [HRR.out] at he ⊢; exact rd_has h0 h3 he))
          have HX64 := hid (fun (he : R.2.2.2 = 0) => (show I64 R.2.1 from by have h := hD.ta.tx.a.ar.ok.len; rw [HRR.out] at he h ⊢; exact rd_i64 h he))
          have D5 := hid hD
          clear hD D o0 o1 o2 HRR
          obtain ⟨er, her⟩ : ∃ er, er = R.2.2.2 := ⟨_, rfl⟩
          rw [← her] at HHAS HX64 ⊢
          clear her
          have hee : (er != er) = false := by simp
          go_upto_region 34 with fail
          go_cut [239] (fun v U => v = .bool false ∧ ∃ c9, TdR w U c9 sa sb bm bn mb bo bw bp bq Z5 Z6 R.1 R.1 m (.slice Ag m.g.length cg) (.slice Ap m.p.length cp) (.slice Bg m.g.length eg) (.slice Bp m.p.length ep) (.slice A11 m.g.length c11) (.slice B11 m.p.length d11) R.2.2.1 (.slice A6 R.2.2.1.g.length e6) (.slice B6 R.2.2.1.p.length f6) R.2.2.1 (.slice A7 R.2.2.1.g.length e7) (.slice B7 R.2.2.1.p.length f7) (.slice Av l.length cv) (.slice Aq l.length cq) l l od oa ob)
          case first => as_aux_lemma =>
            have h40 : j ≤ 40 := by have := HLT.out; omega
            have HL1 := hid (show R.2.2.1.g.length ≤ 1000 ∧ R.2.2.1.p.length ≤ 1000 from ⟨by have := HJ1.out.n; omega, by have := HJ1.out.pn; omega⟩)
            have HL0 := hid (show m.g.length ≤ 1000 ∧ m.p.length ≤ 1000 from ⟨by have := HJ.out.n; omega, by have := HJ.out.pn; omega⟩)
            have HS1 := hid (rsame17_any R.2.2.1 A6 B6 A7 B7 e6 f6 e7 f7 wc D5.out.bp.r.sl.1 D5.out.bp.r.sl.2 D5.out.bq.r.sl.1 D5.out.bq.r.sl.2 HL1.out.1 HL1.out.2)
            obtain ⟨⟨k0, k1, k2, k3⟩, -⟩ := D5.out.bp.cells
            obtain ⟨⟨y0, y1, y2, y3⟩, -⟩ := D5.out.bq.cells
            clear HL1 h40
            go_wp2_with fail
            refine HS1.out.mono ?_
            rintro e w6 ⟨rfl, b6⟩
            have D6 := hid (D5.out.ext b6)
            clear b6 k0 k1 k2 k3 y0 y1 y2 y3 HS1 D5
            have HS2 := hid (rsame17_any m Ag Ap A11 B11 cg cp c11 d11 w6 D6.out.bm.r.sl.1 D6.out.bm.r.sl.2 D6.out.bw.r.sl.1 D6.out.bw.r.sl.2 HL0.out.1 HL0.out.2)
            obtain ⟨⟨k0, k1, k2, k3⟩, -⟩ := D6.out.bm.cells
            obtain ⟨⟨y0, y1, y2, y3⟩, -⟩ := D6.out.bw.cells
            clear HL0
            go_wp2_with fail
            refine HS2.out.mono ?_
            rintro e w7 ⟨rfl, b7⟩
            have D7 := hid (D6.out.ext b7)
            clear b7 k0 k1 k2 k3 y0 y1 y2 y3 HS2 D6
            obtain ⟨o0, -, -⟩ := D7.out.bo.cells
            by_cases q0 : 0 ≤ od
            case neg =>
              go_wp2_with fail
              go_meet
              exact ⟨rfl, c5, D7.out⟩
            by_cases q3 : od < 3
            case neg =>
              go_wp2_with fail
              go_meet
              exact ⟨rfl, c5, D7.out⟩
            by_cases qe : er = 0
            case neg =>
              have qe' : (er == 0) = false := beq_eq_false_iff_ne.2 qe
              clear qe HHAS
              go_wp2_with fail
              go_meet
              exact ⟨rfl, c5, D7.out⟩
            subst qe
            have HX := hid (HHAS.out q0 q3 rfl)
            have HOK := hid D7.out.ta.tx.a.ar.ok
            have HDM := hid (dump_any sa R.1 w7 D7.out.ta.tx.a.ar.vw)
            clear HHAS
            go_wp2_with fail
            refine HDM.out.mono ?_
            rintro e w8 ⟨A8, d8, rfl, hn8, b8⟩
            have D8 := hid (D7.out.ext b8)
            obtain ⟨M8, hM8⟩ := D8.out.mp.m
            have HBI := hid (bisim_any (M := M8) HOK.out.len HOK.out (bs_same HOK.out HX.out) D8.out.ta.tx.b.ar.vw hn8 hM8)
            clear b8 hn8 hM8 HDM D7 o0
            go_wp2_with fail
            refine HBI.out.mono ?_
            rintro e w9 ⟨rfl, ⟨M9, m9, -⟩, t9⟩
            have D9 := hid (D8.out.map m9 t9)
            clear m9 t9 HBI D8
            go_wp2_with fail
            go_meet
            exact ⟨rfl, c5, D9.out⟩
          case rest => as_aux_lemma =>
            obtain ⟨rfl, c9, hD⟩ := hcut
            have D9 := hid hD
            clear hD D5 HHAS
            obtain ⟨i0, hi, hz0, hz1, hz2⟩ := info_parts Tryd.infoInt
            go_upto_if 241 with fail
            go_cut [14, 15] (fun v v' U => ∃ c Z Z' m3 g3 p3 g4 p4 l3, TdS w U c sa sb bm bn mb Z Z' R.1 m3 g3 p3 g4 p4 v v' l3 l3 ∧ Ob w U c bo od oa ob ∧ MtJ (j + 1) m3 ∧ (∀ i ∈ l3, I64 i) ∧ l3.length ≤ j + 1)
            case first => as_aux_lemma =>
              by_cases qe : er = 0
              case neg =>
                have qe' : (er == 0) = false := beq_eq_false_iff_ne.2 qe
                clear qe
                go_wp2_with fail
                go_meet
                exact ⟨c9, Z5, Z6, m, _, _, _, _, l, D9.out.s, D9.out.bo, HJ.out.up, HLI.out, Nat.le_succ_of_le HLL.out⟩
              subst qe
              have h40 : j ≤ 40 := by have := HLT.out; omega
              have hll := HLL.out
              have HXI := hid (HX64.out rfl)
              have b1 : Below wc.heap.size wc (wc.alloc (.cells #[.int .i64 R.2.1] 3)) := (Below.refl _ _).alloc (Nat.le_refl _) _
              have TS := hid (D9.out.s.ext b1)
              have BB := hid (show Bx w (wc.alloc (.cells #[.int .i64 R.2.1] 3)) c9 bp 8 R.2.2.1 (.slice A6 R.2.2.1.g.length e6) (.slice B6 R.2.2.1.p.length f6) ∧ Bx w (wc.alloc (.cells #[.int .i64 R.2.1] 3)) c9 bq 9 R.2.2.1 (.slice A7 R.2.2.1.g.length e7) (.slice B7 R.2.2.1.p.length f7) ∧ Ob w (wc.alloc (.cells #[.int .i64 R.2.1] 3)) c9 bo od oa ob from
                ⟨D9.out.bp.stp (Stp.below b1 20) (by decide) (by decide), D9.out.bq.stp (Stp.below b1 20) (by decide) (by decide), D9.out.bo.stp (Stp.below b1 20) (by decide)⟩)
              have hsz : w.heap.size ≤ (wc.alloc (.cells #[.int .i64 R.2.1] 3)).heap.size := TS.out.bl.size
              clear b1 D9
              go_upto_region 38 with (first
                | (at_builtin; refine wpList_append_sl _ rfl _ _ 29 rfl w.heap.size 3 i0 (.int .i64 0) 1 8 Tryd.underlying29 hi hz0 hz1 hz2 rfl (by decide) (.slice Av l.length cv) l.length (l.map (.int .i64)) rfl TS.out.rv.r _ 1 1 [.int .i64 R.2.1] rfl (SlA.lit1 _) (one_int _ _) (by unfold maxLen; omega) (by omega) hsz ?_; intro v7 w7 own7 gr7 loc7; have TA := hid (TS.out.app own7 gr7 loc7); clear own7 gr7 loc7)
                | fail)
              obtain ⟨c10, s10, t10⟩ := TA.out
              have HQ1 := hid (show ∃ c10, TdS w w7 c10 sa sb bm bn mb Z5 Z6 R.1 m (.slice Ag m.g.length cg) (.slice Ap m.p.length cp) (.slice Bg m.g.length eg) (.slice Bp m.p.length ep) v7 (.slice Aq l.length cq) (l ++ [R.2.1]) l ∧ Bx w w7 c10 bp 8 R.2.2.1 (.slice A6 R.2.2.1.g.length e6) (.slice B6 R.2.2.1.p.length f6) ∧ Bx w w7 c10 bq 9 R.2.2.1 (.slice A7 R.2.2.1.g.length e7) (.slice B7 R.2.2.1.p.length f7) ∧ Ob w w7 c10 bo od oa ob from ⟨c10, t10, BB.out.1.stp s10 (by decide) (by decide), BB.out.2.1.stp s10 (by decide) (by decide), BB.out.2.2.stp s10 (by decide)⟩)
              clear TA TS BB s10 t10 hsz
              refine forget (R := fun V => ∃ c10, TdS w V c10 sa sb bm bn mb Z5 Z6 R.1 m (.slice Ag m.g.length cg) (.slice Ap m.p.length cp) (.slice Bg m.g.length eg) (.slice Bp m.p.length ep) v7 (.slice Aq l.length cq) (l ++ [R.2.1]) l ∧ Bx w V c10 bp 8 R.2.2.1 (.slice A6 R.2.2.1.g.length e6) (.slice B6 R.2.2.1.p.length f6) ∧ Bx w V c10 bq 9 R.2.2.1 (.slice A7 R.2.2.1.g.length e7) (.slice B7 R.2.2.1.p.length f7) ∧ Ob w V c10 bo od oa ob) ?_ HQ1.out
              clear HQ1
              rintro V7 ⟨c10, t10, p10, q10, o10⟩
              have b1 : Below V7.heap.size V7 (V7.alloc (.cells #[.int .i64 R.2.1] 3)) := (Below.refl _ _).alloc (Nat.le_refl _) _
              have TS := hid (t10.ext b1)
              have BB := hid (show Bx w (V7.alloc (.cells #[.int .i64 R.2.1] 3)) c10 bp 8 R.2.2.1 (.slice A6 R.2.2.1.g.length e6) (.slice B6 R.2.2.1.p.length f6) ∧ Bx w (V7.alloc (.cells #[.int .i64 R.2.1] 3)) c10 bq 9 R.2.2.1 (.slice A7 R.2.2.1.g.length e7) (.slice B7 R.2.2.1.p.length f7) ∧ Ob w (V7.alloc (.cells #[.int .i64 R.2.1] 3)) c10 bo od oa ob from
                ⟨p10.stp (Stp.below b1 20) (by decide) (by decide), q10.stp (Stp.below b1 20) (by decide) (by decide), o10.stp (Stp.below b1 20) (by decide)⟩)
              have hsz : w.heap.size ≤ (V7.alloc (.cells #[.int .i64 R.2.1] 3)).heap.size := TS.out.bl.size
              clear b1 t10 p10 q10 o10
              go_upto_region 39 with (first
                | (at_builtin; refine wpList_append_sl _ rfl _ _ 29 rfl w.heap.size 3 i0 (.int .i64 0) 1 8 Tryd.underlying29 hi hz0 hz1 hz2 rfl (by decide) (.slice Aq l.length cq) l.length (l.map (.int .i64)) rfl TS.out.rv'.r _ 1 1 [.int .i64 R.2.1] rfl (SlA.lit1 _) (one_int _ _) (by unfold maxLen; omega) (by omega) hsz ?_; intro v8 w8 own8 gr8 loc8; have TA := hid (TS.out.app' own8 gr8 loc8); clear own8 gr8 loc8)
                | fail)
              obtain ⟨c11, s11, t11⟩ := TA.out
              have HQ1 := hid (show ∃ c10, TdS w w8 c10 sa sb bm bn mb Z5 Z6 R.1 m (.slice Ag m.g.length cg) (.slice Ap m.p.length cp) (.slice Bg m.g.length eg) (.slice Bp m.p.length ep) v7 v8 (l ++ [R.2.1]) (l ++ [R.2.1]) ∧ Bx w w8 c10 bp 8 R.2.2.1 (.slice A6 R.2.2.1.g.length e6) (.slice B6 R.2.2.1.p.length f6) ∧ Bx w w8 c10 bq 9 R.2.2.1 (.slice A7 R.2.2.1.g.length e7) (.slice B7 R.2.2.1.p.length f7) ∧ Ob w w8 c10 bo od oa ob from ⟨c11, t11, BB.out.1.stp s11 (by decide) (by decide), BB.out.2.1.stp s11 (by decide) (by decide), BB.out.2.2.stp s11 (by decide)⟩)
              clear TA TS BB s11 t11 hsz c10
              refine forget (R := fun V => ∃ c10, TdS w V c10 sa sb bm bn mb Z5 Z6 R.1 m (.slice Ag m.g.length cg) (.slice Ap m.p.length cp) (.slice Bg m.g.length eg) (.slice Bp m.p.length ep) v7 v8 (l ++ [R.2.1]) (l ++ [R.2.1]) ∧ Bx w V c10 bp 8 R.2.2.1 (.slice A6 R.2.2.1.g.length e6) (.slice B6 R.2.2.1.p.length f6) ∧ Bx w V c10 bq 9 R.2.2.1 (.slice A7 R.2.2.1.g.length e7) (.slice B7 R.2.2.1.p.length f7) ∧ Ob w V c10 bo od oa ob) ?_ HQ1.out
              clear HQ1
              rintro V8 ⟨c10, t10, p10, q10, o10⟩
              have HMD := hid (td_put1 t10 p10 q10 o10)
              obtain ⟨⟨k0, k1, k2, k3⟩, -⟩ := p10.cells
              obtain ⟨⟨x0, x1, x2, x3⟩, f0, f1, f2, f3⟩ := t10.bm.cells
              unfold put4 at HMD
              clear t10 p10 q10 o10
              go_upto_region 40 with fail
              clear k0 k1 k2 k3 x0 x1 x2 x3 f0 f1 f2 f3
              refine forget (R := fun V => Md w V sa sb bm bn mb bq bo Z5 Z6 R.1 m (.slice Ag m.g.length cg) (.slice Ap m.p.length cp) (.slice Bg m.g.length eg) (.slice Bp m.p.length ep) v7 v8 (l ++ [R.2.1]) R.2.2.1 (.slice A6 R.2.2.1.g.length e6) (.slice B6 R.2.2.1.p.length f6) (.slice A7 R.2.2.1.g.length e7) (.slice B7 R.2.2.1.p.length f7) od oa ob) ?_ HMD.out
              clear HMD c10
              intro V9 h9
              obtain ⟨⟨y0, y1, y2, y3⟩, ⟨a0, a1, a2, a3⟩, z0, z1, z2, z3⟩ := h9.cells
              have HMD := hid (td_put2 h9)
              unfold put4 at HMD
              clear h9
              go_wp2_with fail
              go_meet
              obtain ⟨c10, t10, o10⟩ := HMD.out
              exact ⟨c10, Z5, Z6, R.2.2.1, _, _, _, _, l ++ [R.2.1], t10, o10, HJ1.out, fun i hi => by
                rcases List.mem_append.1 hi with hi | hi
                · exact HLI.out i hi
                · rw [List.mem_singleton.1 hi]; exact HXI.out, by rw [List.length_append, List.length_singleton]; omega⟩
            case rest => as_aux_lemma =>
              obtain ⟨c10, Z7, Z8, m3, g3, p3, g4, p4, l3, hT3, hO3, hJ3, hI3, hL3⟩ := hcut
              have TS := hid hT3; have OS := hid hO3; have J3 := hid hJ3; have I3 := hid hI3; have L3 := hid hL3
              clear hT3 hO3 hJ3 hI3 hL3 D9
              have hj3 : j + 1 ≤ 41 := by have := HLT.out; omega
              obtain ⟨⟨m0, m1, m2, m3c⟩, -⟩ := TS.out.bm.cells
              obtain ⟨⟨n0, n1, n2, n3⟩, -⟩ := TS.out.bn.cells
              obtain ⟨-, o1, -⟩ := OS.out.cells
              have HK := hid (fun (U : World) (hb : Below wc.heap.size wc U) => (show U.cell? ⟨bm, 0, none⟩ = some (.int .i64 m3.k) ∧ U.cell? ⟨bm, 1, none⟩ = some (.int .i64 m3.q) ∧ U.cell? ⟨bm, 2, none⟩ = some g3 ∧ U.cell? ⟨bm, 3, none⟩ = some p3 ∧ U.cell? ⟨bo, 1, none⟩ = some (.int .i64 oa) ∧ U.cell? ⟨bn, 0, none⟩ = some (.int .i64 m3.k) ∧ U.cell? ⟨bn, 1, none⟩ = some (.int .i64 m3.q) ∧ U.cell? ⟨bn, 2, none⟩ = some g4 ∧ U.cell? ⟨bn, 3, none⟩ = some p4 from by
                have h := TS.out.ext hb
                have s := Stp.below (w := w) (c := c10) hb 20
                obtain ⟨⟨a0, a1, a2, a3⟩, -⟩ := h.bm.cells
                obtain ⟨⟨b0, b1, b2, b3⟩, -⟩ := h.bn.cells
                exact ⟨a0, a1, a2, a3, (OS.out.stp s (by decide)).cells.2.1, b0, b1, b2, b3⟩))
              have HM := hid (fun (U : World) (hb : Below wc.heap.size wc U) (A : Option Addr) (hl : SlA U 1 A 3 3 (([1, 2, oa] : List Int).map (Value.int .i64))) => l_had (TS.out.ext hb).bm.r (J3.out.o (by omega)) hl (by decide) (r := hadF m3.g [1, 2, oa]) rfl)
              have HN := hid (fun (U : World) (hb : Below wc.heap.size wc U) (A : Option Addr) (hl : SlA U 1 A 3 3 (([1, 2, oa] : List Int).map (Value.int .i64))) => rl_had (TS.out.ext hb).bn.r (J3.out.o (by omega)) hl (by decide))
              have HL3 := hid (fun (U : World) => (show SlA (U.alloc (.cells #[.int .i64 1, .int .i64 2, .int .i64 oa] 3)) 1 (some ⟨U.heap.size, 0, none⟩) 3 3 (([1, 2, oa] : List Int).map (Value.int .i64)) from (SlA.of_own (World.ownsRow_lit (e := 3) (base := 0) (size := 1) U #[.int .i64 1, .int .i64 2, .int .i64 oa] 3 (Nat.zero_le _) (by unfold maxLen; omega) rfl)).2))
              have hAl : ∀ U : World, Below U.heap.size U (U.alloc (.cells #[.int .i64 1, .int .i64 2, .int .i64 oa] 3)) := fun U => (Below.refl _ _).alloc (Nat.le_refl _) _
              have B0 := hid (below_drew (Below.refl wc.heap.size wc))
              have B1 := hid (below_drew (hAl wc))
              have B2 := hid (below_drew ((hAl wc).alloc (hAl wc).size (.cells #[.int .i64 1, .int .i64 2, .int .i64 oa] 3)))
              have S1 := hid (show SlA (wc.alloc (.cells #[.int .i64 1, .int .i64 2, .int .i64 oa] 3)).drew 1 (some ⟨wc.heap.size, 0, none⟩) 3 3 (([1, 2, oa] : List Int).map (Value.int .i64)) from (HL3.out wc).drew)
              have S20 := hid (show SlA ((wc.alloc (.cells #[.int .i64 1, .int .i64 2, .int .i64 oa] 3)).alloc (.cells #[.int .i64 1, .int .i64 2, .int .i64 oa] 3)).drew 1 (some ⟨wc.heap.size, 0, none⟩) 3 3 (([1, 2, oa] : List Int).map (Value.int .i64)) from ((HL3.out wc).ext (hAl _)).drew)
              have S21 := hid (show SlA ((wc.alloc (.cells #[.int .i64 1, .int .i64 2, .int .i64 oa] 3)).alloc (.cells #[.int .i64 1, .int .i64 2, .int .i64 oa] 3)).drew 1 (some ⟨wc.heap.size + 1, 0, none⟩) 3 3 (([1, 2, oa] : List Int).map (Value.int .i64)) from by
                have h := (HL3.out (wc.alloc (.cells #[.int .i64 1, .int .i64 2, .int .i64 oa] 3))).drew
                rw [show (wc.alloc (.cells #[.int .i64 1, .int .i64 2, .int .i64 oa] 3)).heap.size = wc.heap.size + 1 from by simp] at h
                exact h)
              have HAL := hid hAl
              clear hAl hj3
              obtain ⟨rr, hrr⟩ : ∃ rr, rr = hadF m3.g [1, 2, oa] := ⟨_, rfl⟩
              rw [← hrr] at HM HN
              clear hrr
              go_upto_region 41 with fail
              go_region_held3 (fun U => U.cell? ⟨bm, 0, none⟩ = some (.int .i64 m3.k) ∧ U.cell? ⟨bm, 1, none⟩ = some (.int .i64 m3.q) ∧ U.cell? ⟨bm, 2, none⟩ = some g3 ∧ U.cell? ⟨bm, 3, none⟩ = some p3 ∧ U.cell? ⟨bo, 1, none⟩ = some (.int .i64 oa) ∧ U.cell? ⟨bn, 0, none⟩ = some (.int .i64 m3.k) ∧ U.cell? ⟨bn, 1, none⟩ = some (.int .i64 m3.q) ∧ U.cell? ⟨bn, 2, none⟩ = some g4 ∧ U.cell? ⟨bn, 3, none⟩ = some p4) (first | with_reducible exact HK.out _ B0.out | with_reducible exact HK.out _ B1.out | with_reducible exact HK.out _ B2.out | with_reducible exact HK.out _ B6.out | with_reducible exact HK.out _ B7.out | with_reducible exact HK.out _ (B6.out.alloc B6.out.size _) | go_keep) (first
                | (go_at_call 22; with_reducible refine Calls.mono (HM.out _ B1.out _ S1.out) ?_; rintro e6 w6 ⟨rfl, b6⟩; have H6 := hid b6; have B6 := hid (B1.out.trans (b6.mono B1.out.size)); clear b6)
                | (go_at_call 22; with_reducible refine Calls.mono (HM.out _ B2.out _ S21.out) ?_; rintro e6 w6 ⟨rfl, b6⟩; have H6 := hid b6; have B6 := hid (B2.out.trans (b6.mono B2.out.size)); clear b6)
                | (go_at_call 22; with_reducible refine Calls.mono (HM.out _ B2.out _ S20.out) ?_; rintro e6 w6 ⟨rfl, b6⟩; have H6 := hid b6; have B6 := hid (B2.out.trans (b6.mono B2.out.size)); clear b6)
                | (go_at_call 23; with_reducible refine Calls.mono (HN.out _ (B6.out.alloc B6.out.size _) _ (HL3.out _)) ?_; rintro e7 w7 ⟨rfl, b7⟩; have B7 := hid ((B6.out.alloc B6.out.size (.cells #[.int .i64 1, .int .i64 2, .int .i64 oa] 3)).trans (b7.mono (B6.out.alloc B6.out.size (.cells #[.int .i64 1, .int .i64 2, .int .i64 oa] 3)).size)); clear b7)
                | (go_at_call 23; with_reducible refine Calls.mono (HN.out _ B6.out _ (S20.out.ext H6.out)) ?_; rintro e7 w7 ⟨rfl, b7⟩; have B7 := hid (B6.out.trans (b7.mono B6.out.size)); clear b7)
                | (go_at_call 23; with_reducible refine Calls.mono (HN.out _ B6.out _ (S21.out.ext H6.out)) ?_; rintro e7 w7 ⟨rfl, b7⟩; have B7 := hid (B6.out.trans (b7.mono B6.out.size)); clear b7)
                | fail)
              all_goals
                have hrr2 : (rr != rr) = false := by simp
                have hlt3 := HLT.out
                go_wp2_with fail
                go_roundw
                case rel => exact ⟨j + 1, by go_num, by omega, _, Z7, Z8, R.1, m3, g3, p3, g4, p4, l3, l3, TS.out.ext B7.out, rfl, J3.out, I3.out, L3.out⟩
                case measure => simp [intOf]; omega
    · as_aux_lemma =>
      obtain rfl : j = n := by omega
      have hlt2 : ¬ (j : Int) < (j : Int) := by omega
      have HF := hid HS.out.bl
      go_wp2_with fail
      go_ret
      exact ⟨rfl, HF.out⟩
end Go.Proofs.YtfmkniakfgpgjaaDoor

