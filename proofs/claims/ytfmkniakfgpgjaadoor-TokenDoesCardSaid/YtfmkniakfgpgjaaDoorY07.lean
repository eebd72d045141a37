import Derived.Test.YtfmkniakfgpgjaaDoorY06
import Derived.Deep.DeepCutAuto
/- token: a mint's rows; Issue as far as its conditions. -/
namespace Go.Proofs.YtfmkniakfgpgjaaDoor
open Go.RowKit Go.KK Go.Shelf Go.Maps
set_option linter.unusedVariables false
set_option linter.unusedSimpArgs false

/-- A row that reads, and lies in none of the arena's blocks. -/
def SlZ (w : World) (Z : Nat → Prop) (size : Nat) (A : Option Addr) (n c : Nat) (cs : List Value) : Prop := SlA w size A n c cs ∧ (cs ≠ [] → ∀ b o, A = some ⟨b, o, none⟩ → ¬ Z b)
theorem SlZ.turn {w w' : World} {Z Z' : Nat → Prop} {size : Nat} {A : Option Addr} {n c : Nat} {cs : List Value} (h : SlZ w Z size A n c cs) (ht : Turn Z w w') (hz : ∀ b, Z' b → Z b ∨ w.heap.size ≤ b) : SlZ w' Z' size A n c cs := by
  obtain ⟨h1, h2⟩ := h
  refine ⟨⟨h1.nc, h1.cm, h1.len, fun j u hj => ?_⟩, fun hne b o e hb => ?_⟩
  · obtain ⟨b, off, rfl, hc⟩ := h1.cells j u hj
    have hne : cs ≠ [] := fun e => by rw [e] at hj; simp at hj
    refine ⟨b, off, rfl, ?_⟩
    rw [World.cell?_of_block (a := ⟨b, off + j, none⟩) (ht.block b (block_lt_of_cell hc) (h2 hne b off rfl))]
    exact hc
  · rcases hz b hb with h3 | h3
    · exact h2 hne b o e h3
    · rcases cs with _ | ⟨u, cs⟩
      · exact hne rfl
      · obtain ⟨b', off, e', hc⟩ := h1.cells 0 u rfl
        rw [e] at e'
        injection e' with e'
        injection e' with e1 e2
        have := block_lt_of_cell hc
        simp only at this
        omega
theorem SlZ.ext {w w' : World} {Z : Nat → Prop} {size : Nat} {A : Option Addr} {n c : Nat} {cs : List Value} (h : SlZ w Z size A n c cs) (hb : Below w.heap.size w w') : SlZ w' Z size A n c cs := ⟨h.1.ext hb, h.2⟩
theorem SlZ.of_own {w : World} {Z : Nat → Prop} {base : Nat} {e : TypeId} {size n : Nat} {v : Value} {cs : List Value} (h : w.ownsRow base e size v n cs) (hz : ∀ b, Z b → b < base) : ∃ A c, v = .slice A n c ∧ SlZ w Z size A n c cs := by
  obtain ⟨A, c, rfl, hs⟩ := SlA.owned h
  refine ⟨A, c, rfl, hs, fun _ b o e hb => ?_⟩
  subst e
  have := (h.lt b rfl).1
  have := hz b hb
  omega
theorem SlZ.nil (w : World) (Z : Nat → Prop) (size : Nat) : SlZ w Z size none 0 0 [] := ⟨SlA.nil _ _, fun h => absurd rfl h⟩
/-- A mint's rows. -/
def MtR (w : World) (Z : Nat → Prop) (m : MT) (g p : Value) : Prop := ∃ Ag cg Ap cp, g = .slice Ag m.g.length cg ∧ p = .slice Ap m.p.length cp ∧ SlZ w Z 2 Ag m.g.length cg (cts m.g) ∧ SlZ w Z 1 Ap m.p.length cp (m.p.map (.int .i64))
theorem MtR.turn {w w' : World} {Z Z' : Nat → Prop} {m : MT} {g p : Value} (h : MtR w Z m g p) (ht : Turn Z w w') (hz : ∀ b, Z' b → Z b ∨ w.heap.size ≤ b) : MtR w' Z' m g p := by
  obtain ⟨Ag, cg, Ap, cp, rfl, rfl, h1, h2⟩ := h
  exact ⟨Ag, cg, Ap, cp, rfl, rfl, h1.turn ht hz, h2.turn ht hz⟩
theorem MtR.ext {w w' : World} {Z : Nat → Prop} {m : MT} {g p : Value} (h : MtR w Z m g p) (hb : Below w.heap.size w w') : MtR w' Z m g p := by
  obtain ⟨Ag, cg, Ap, cp, rfl, rfl, h1, h2⟩ := h
  exact ⟨Ag, cg, Ap, cp, rfl, rfl, h1.ext hb, h2.ext hb⟩
theorem MtR.mt (w : World) (Z : Nat → Prop) (k q : Int) : MtR w Z ⟨k, q, [], []⟩ (.slice none 0 0) (.slice none 0 0) := ⟨Option.none, 0, Option.none, 0, rfl, rfl, SlZ.nil _ _ _, SlZ.nil _ _ _⟩
/-- A mint as it may be. -/
structure MtO (m : MT) : Prop where
  k : I64 m.k
  q : I64 m.q
  s : CtS m.g
  b : CtB m.g
  n : m.g.length ≤ 1000
  p : m.p.Pairwise (· < ·)
  pn : m.p.length ≤ 1000
  pi : ∀ i ∈ m.p, I64 i
/-- The value's own block is new. -/
def NewV (w : World) (g p : Value) : Prop := ∀ b, g.ownBlock = some b ∨ p.ownBlock = some b → w.heap.size ≤ b
theorem newV_nil (w : World) (n m c d : Nat) : NewV w (.slice none n c) (.slice none m d) := fun b h => by rcases h with h | h <;> cases h
/-- What Issue leaves. -/
def IssS (w : World) (Z : Nat → Prop) (st : Nat) (r : List ND × Int × MT × Int) (e : Ending) (w' : World) : Prop :=
  ∃ Z' g p, e = .returned (.tuple #[.int .i64 r.2.1, mtV r.2.2.1 g p, .int .i64 r.2.2.2]) ∧ AR w' Z' st r.1 ∧ Turn Z w w' ∧ (∀ b, Z' b → Z b ∨ w.heap.size ≤ b) ∧ MtR w' Z' r.2.2.1 g p ∧ NewV w g p
theorem iss_stay {w w' : World} {Z : Nat → Prop} {st : Nat} {xs : List ND} {e : Int} (h : AR w Z st xs) (hb : Below w.heap.size w w') : IssS w Z st (xs, 0, mt0, e) (.returned (.tuple #[.int .i64 0, .agg #[.int .i64 0, .int .i64 0, .slice none 0 0, .slice none 0 0], .int .i64 e])) w' :=
  ⟨Z, _, _, rfl, h.ext hb, .of_below hb, fun _ h => .inl h, MtR.mt _ _ 0 0, newV_nil _ _ _ _ _⟩
theorem results_3 {fn : Func} {a p u : Tmp} {ty : TypeId} (h : fn.results = #[.tmp a, .cell p ty, .tmp u]) (tmps : Array Value) (P : Program) (w : World) :
    (results fn tmps).run P w = ((asAddr (tmps.getD p undef)).run P w).andThen fun q w₁ => ((loadVar ty q).run P w₁).andThen fun v w₂ => .ok (.tuple #[tmps.getD a undef, v, tmps.getD u undef]) w₂ := by
  simp only [results, h]
  simp [Sem.run_bind, Result.andThen]
theorem st4 {B b : Nat} {a w : World} (h : Below B a w) (hb : B ≤ b) (v0 v1 v2 v3 : Value) : Below B a ((((w.setCell ⟨b, 0, none⟩ v0).setCell ⟨b, 1, none⟩ v1).setCell ⟨b, 2, none⟩ v2).setCell ⟨b, 3, none⟩ v3) :=
  (((h.setCell (p := ⟨b, 0, none⟩) hb _).setCell (p := ⟨b, 1, none⟩) hb _).setCell (p := ⟨b, 2, none⟩) hb _).setCell (p := ⟨b, 3, none⟩) hb _
theorem cts_app (a b : List (Int × Int)) : cts (a ++ b) = cts a ++ cts b := by unfold cts; rw [List.flatMap_append]
theorem cts_set (a b : List (Int × Int)) (x : Int × Int) (v : Int) : (cts (a ++ x :: b)).set (a.length * 2 + 1) (.int .i64 v) = cts (a ++ (x.1, v) :: b) := by
  rw [cts_app, cts_app, List.set_append_right _ _ (by rw [cts_len]; omega), cts_len]
  congr 1
  rw [show a.length * 2 + 1 - a.length * 2 = 1 by omega]
  rfl
theorem lb_le (g : List (Int × Int)) (w : Int) : lbF g w ≤ g.length := List.countP_le_length
theorem take_len {α : Type} {l : List α} {n : Nat} (h : n ≤ l.length) : (l.take n).length = n := by rw [List.length_take]; omega
theorem inc_no {g : List (Int × Int)} {w : Int} (h : isF g w = false) : (cts (insG g (lbF g w) (w, 0))).set (lbF g w * 2 + 1) (.int .i64 1) = cts (incF g w) := by
  have := cts_set (g.take (lbF g w)) (g.drop (lbF g w)) (w, 0) 1
  rw [take_len (lb_le g w)] at this
  unfold insG incF
  rw [this, h, cnt_no h]; rfl
theorem inc_yes {g : List (Int × Int)} (hs : CtS g) {w : Int} (h : isF g w = true) : (cts g).set (lbF g w * 2 + 1) (.int .i64 (cntF g w + 1)) = cts (incF g w) := by
  obtain ⟨c, h1, h2, h3, h4⟩ := cnt_yes hs h
  have hlt := (List.getElem?_eq_some_iff.1 h1).1
  have := cts_set (g.take (lbF g w)) (g.drop (lbF g w + 1)) c (cntF g w + 1)
  rw [take_len (lb_le g w)] at this
  have hg : g.take (lbF g w) ++ c :: g.drop (lbF g w + 1) = g := by
    have e := (List.getElem?_eq_some_iff.1 h1).2
    rw [← e, ← List.drop_eq_getElem_cons hlt, List.take_append_drop]
  rw [hg, h2] at this
  unfold incF
  rw [this, h]; rfl
theorem inc_len {g : List (Int × Int)} (hs : CtS g) (w : Int) : (incF g w).length = if isF g w then g.length else g.length + 1 := by
  have hl := lb_le g w
  unfold incF
  rcases h : isF g w with _ | _
  · simp [take_len hl]; omega
  · obtain ⟨c, h1, h2, h3, h4⟩ := cnt_yes hs h
    have hlt := (List.getElem?_eq_some_iff.1 h1).1
    simp [take_len hl]; omega
/-- What the copies leave, ahead of the count. -/
def MidI (w : World) (B6 : Nat) (Z Z6 : Nat → Prop) (st : Nat) (xs : List ND) (m : MT) (W : World) : Prop :=
  ∃ vg vp, W.ownsRow w.heap.size 31 4 (.slice (some ⟨w.heap.size, 0, none⟩) 1 1) 1 [.int .i64 m.k, .int .i64 m.q, vg, vp] ∧
    W.ownsRow (w.heap.size + 1) 31 4 (.slice (some ⟨w.heap.size + 1, 0, none⟩) 1 1) 1 [.int .i64 0, .int .i64 0, .slice none 0 0, .slice none 0 0] ∧
    W.ownsRow B6 66 2 vg m.g.length (cts m.g) ∧ W.ownsRow B6 3 1 vp m.p.length (m.p.map (.int .i64)) ∧ AR W Z6 st xs ∧ Turn Z w W ∧ B6 ≤ W.heap.size
theorem midI_of {w w6 w8 W : World} {Z Z6 : Nat → Prop} {st : Nat} {xs : List ND} {m : MT} {vg vp vg0 vp0 : Value} (hw : w.heap.size < w6.heap.size) (hb : Below w6.heap.size w6 w8) (t6 : Turn Z w w6) (a6 : AR w6 Z6 st xs) (hz : ¬ Z6 w.heap.size)
    (x : w6.ownsRow w.heap.size 31 4 (.slice (some ⟨w.heap.size, 0, none⟩) 1 1) 1 [.int .i64 m.k, .int .i64 m.q, vg0, vp0])
    (y : w6.ownsRow (w.heap.size + 1) 31 4 (.slice (some ⟨w.heap.size + 1, 0, none⟩) 1 1) 1 [.int .i64 0, .int .i64 0, .slice none 0 0, .slice none 0 0])
    (og : w8.ownsRow w6.heap.size 66 2 vg m.g.length (cts m.g)) (op : w8.ownsRow w6.heap.size 3 1 vp m.p.length (m.p.map (.int .i64)))
    (hW : W = (w8.setCell ⟨w.heap.size, 2, none⟩ vg).setCell ⟨w.heap.size, 3, none⟩ vp) : MidI w w6.heap.size Z Z6 st xs m W := by
  subst hW
  have far : ∀ b, b ≠ w.heap.size → ((w8.setCell ⟨w.heap.size, 2, none⟩ vg).setCell ⟨w.heap.size, 3, none⟩ vp).heap[b]? = w8.heap[b]? := fun b hb => by
    rw [Below.heap_setCell _ _ _ b hb, Below.heap_setCell _ _ _ b hb]
  have hs : ((w8.setCell ⟨w.heap.size, 2, none⟩ vg).setCell ⟨w.heap.size, 3, none⟩ vp).heap.size = w8.heap.size := by simp
  have h86 := hb.size
  refine ⟨vg, vp, ?_, ?_, own_block og fun b h => far b (by have := (og.lt b h).1; omega), own_block op fun b h => far b (by have := (op.lt b h).1; omega), ?_, ?_, by rw [hs]; exact h86⟩
  · exact (((own_ext x hb).stored 2 vg).1.stored 3 vp).1
  · exact own_block (own_ext y hb) fun b h => by
      injection h with h
      subst h
      exact far (w.heap.size + 1) (Nat.succ_ne_self _)
  · obtain ⟨mp, v, qs, ha⟩ := a6.ext hb
    exact ⟨mp, v, qs, ha.kept (fun b hz' => far b (fun e => hz (e ▸ hz'))) (Nat.le_of_eq hs.symm)⟩
  · refine (t6.trans (Turn.of_below (F := Z) hb) (fun _ h => .inl h)).trans (F' := fun b => b = w.heap.size) ?_ (fun b e => .inr (by omega))
    exact ⟨rfl, rfl, rfl, Nat.le_of_eq hs.symm, fun b _ hn => far b hn⟩
/-- A row with one cell stored. -/
theorem own_set {w : World} {base gb n cap size : Nat} {e : TypeId} {cs : List Value} (h : w.ownsRow base e size (.slice (some ⟨gb, 0, none⟩) n cap) n cs) (j : Nat) (u : Value) : (w.setCell ⟨gb, j, none⟩ u).ownsRow base e size (.slice (some ⟨gb, 0, none⟩) n cap) n (cs.set j u) := (h.stored j u).1
/-- Behind the count: what stays. -/
def FinI (w : World) (B6 : Nat) (Z Z6 : Nat → Prop) (st : Nat) (xs : List ND) (m : MT) (vg vp : Value) (W : World) : Prop :=
  W.ownsRow w.heap.size 31 4 (.slice (some ⟨w.heap.size, 0, none⟩) 1 1) 1 [.int .i64 m.k, .int .i64 m.q, vg, vp] ∧
    W.ownsRow (w.heap.size + 1) 31 4 (.slice (some ⟨w.heap.size + 1, 0, none⟩) 1 1) 1 [.int .i64 0, .int .i64 0, .slice none 0 0, .slice none 0 0] ∧
    W.ownsRow B6 66 2 vg m.g.length (cts m.g) ∧ W.ownsRow B6 3 1 vp m.p.length (m.p.map (.int .i64)) ∧ AR W Z6 st xs ∧ Turn Z w W
theorem finI_end {w W W' : World} {B6 : Nat} {Z Z6 : Nat → Prop} {st : Nat} {xs : List ND} {m : MT} {vg vp : Value} (h : FinI w B6 Z Z6 st xs m vg vp W) (hz : ∀ b, Z6 b → Z b ∨ w.heap.size ≤ b) (hzl : ∀ b, Z6 b → b < B6) (h6 : w.heap.size + 1 < B6) (hny : ¬ Z6 (w.heap.size + 1))
    (hh : ∀ b, b ≠ w.heap.size + 1 → W'.heap[b]? = W.heap[b]?) (hs : W'.heap.size = W.heap.size) (ho : W'.os = W.os ∧ W'.tape = W.tape ∧ W'.output = W.output) (a b : Int) :
    IssS w Z st (xs, a, m, b) (.returned (.tuple #[.int .i64 a, mtV m vg vp, .int .i64 b])) W' := by
  obtain ⟨h1, h2, h3, h4, ⟨mp, v, qs, ha⟩, ht⟩ := h
  refine ⟨Z6, vg, vp, rfl, ⟨mp, v, qs, ha.kept (fun b hb => hh b (fun e => hny (e ▸ hb))) (Nat.le_of_eq hs.symm)⟩, ht.trans (F' := fun b => b = w.heap.size + 1) ⟨ho.1, ho.2.1, ho.2.2, Nat.le_of_eq hs.symm, fun b _ hn => hh b hn⟩ (fun b e => .inr (by omega)), hz, ?_, fun b hb => hb.elim (fun hb => by have := (h3.lt b hb).1; omega) (fun hb => by have := (h4.lt b hb).1; omega)⟩
  have g3 := own_block h3 (w' := W') fun b hb => hh b (by have := (h3.lt b hb).1; omega)
  have g4 := own_block h4 (w' := W') fun b hb => hh b (by have := (h4.lt b hb).1; omega)
  obtain ⟨Ag, cg, rfl, sg⟩ := SlZ.of_own g3 hzl
  obtain ⟨Ap, cp, rfl, sp⟩ := SlZ.of_own g4 hzl
  exact ⟨Ag, cg, Ap, cp, rfl, rfl, sg, sp⟩
/-- A cell of a count is stored: all else stays. -/
theorem finI_set {w W : World} {B6 : Nat} {Z Z6 : Nat → Prop} {st : Nat} {xs : List ND} {m : MT} {gb n cap : Nat} {vp : Value} {cs : List Value} {j : Nat} {u : Value}
    (h1 : W.ownsRow w.heap.size 31 4 (.slice (some ⟨w.heap.size, 0, none⟩) 1 1) 1 [.int .i64 m.k, .int .i64 m.q, .slice (some ⟨gb, 0, none⟩) n cap, vp])
    (h2 : W.ownsRow (w.heap.size + 1) 31 4 (.slice (some ⟨w.heap.size + 1, 0, none⟩) 1 1) 1 [.int .i64 0, .int .i64 0, .slice none 0 0, .slice none 0 0])
    (h3 : W.ownsRow B6 66 2 (.slice (some ⟨gb, 0, none⟩) n cap) n cs) (h4 : W.ownsRow B6 3 1 vp m.p.length (m.p.map (.int .i64))) (ha : AR W Z6 st xs) (ht : Turn Z w W) (hzl : ∀ b, Z6 b → b < B6) (h6 : w.heap.size + 1 < B6)
    (hn : n = m.g.length) (hcs : cs.set j u = cts m.g) : FinI w B6 Z Z6 st xs m (.slice (some ⟨gb, 0, none⟩) n cap) vp (W.setCell ⟨gb, j, none⟩ u) := by
  have hgb := (h3.lt gb rfl).1
  have far : ∀ b, b ≠ gb → (W.setCell ⟨gb, j, none⟩ u).heap[b]? = W.heap[b]? := fun b hb => Below.heap_setCell _ _ _ b hb
  refine ⟨own_block h1 fun b hb => far b ?_, own_block h2 fun b hb => far b ?_, ?_, own_block h4 fun b hb => far b (fun e => ?_), ?_, ?_⟩
  · injection hb with hb; simp only at hb; omega
  · injection hb with hb; simp only at hb; omega
  · have := own_set h3 j u
    rw [hcs] at this
    rw [hn] at this ⊢
    exact this
  · exact own_apart h3 h4 (by decide) gb rfl (e ▸ hb)
  · obtain ⟨mp, v, qs, ha⟩ := ha
    exact ⟨mp, v, qs, ha.kept (fun b hz' => far b (fun e => by have := hzl b hz'; omega)) (by simp)⟩
  · exact ht.trans (F' := fun b => b = gb) ⟨rfl, rfl, rfl, by simp, fun b _ hn => far b hn⟩ (fun b e => .inr (by omega))
theorem fin_put {w W : World} {B6 : Nat} {Z Z6 : Nat → Prop} {st : Nat} {xs : List ND} {k q : Int} {vg0 vq vp : Value} {n np : Nat} {cs ps : List Value}
    (h1 : W.ownsRow w.heap.size 31 4 (.slice (some ⟨w.heap.size, 0, none⟩) 1 1) 1 [.int .i64 k, .int .i64 q, vg0, vp])
    (h2 : W.ownsRow (w.heap.size + 1) 31 4 (.slice (some ⟨w.heap.size + 1, 0, none⟩) 1 1) 1 [.int .i64 0, .int .i64 0, .slice none 0 0, .slice none 0 0])
    (h3 : W.ownsRow B6 66 2 vq n cs) (h4 : W.ownsRow B6 3 1 vp np ps) (ha : AR W Z6 st xs) (ht : Turn Z w W) (h6 : w.heap.size + 1 < B6) (hnz : ¬ Z6 w.heap.size) :
    (W.setCell ⟨w.heap.size, 2, none⟩ vq).ownsRow w.heap.size 31 4 (.slice (some ⟨w.heap.size, 0, none⟩) 1 1) 1 [.int .i64 k, .int .i64 q, vq, vp] ∧
    (W.setCell ⟨w.heap.size, 2, none⟩ vq).ownsRow (w.heap.size + 1) 31 4 (.slice (some ⟨w.heap.size + 1, 0, none⟩) 1 1) 1 [.int .i64 0, .int .i64 0, .slice none 0 0, .slice none 0 0] ∧
    (W.setCell ⟨w.heap.size, 2, none⟩ vq).ownsRow B6 66 2 vq n cs ∧ (W.setCell ⟨w.heap.size, 2, none⟩ vq).ownsRow B6 3 1 vp np ps ∧ AR (W.setCell ⟨w.heap.size, 2, none⟩ vq) Z6 st xs ∧ Turn Z w (W.setCell ⟨w.heap.size, 2, none⟩ vq) := by
  have far : ∀ b, b ≠ w.heap.size → (W.setCell ⟨w.heap.size, 2, none⟩ vq).heap[b]? = W.heap[b]? := fun b hb => Below.heap_setCell _ _ _ b hb
  refine ⟨(h1.stored 2 vq).1, own_block h2 fun b hb => far b (by injection hb with hb; simp only at hb; omega), own_block h3 fun b hb => far b (by have := (h3.lt b hb).1; omega), own_block h4 fun b hb => far b (by have := (h4.lt b hb).1; omega), ?_, ?_⟩
  · obtain ⟨mp, v, qs, ha⟩ := ha
    exact ⟨mp, v, qs, ha.kept (fun b hz' => far b (fun e => hnz (e ▸ hz'))) (by simp)⟩
  · exact ht.trans (F' := fun b => b = w.heap.size) ⟨rfl, rfl, rfl, by simp, fun b _ hn => far b hn⟩ (fun b e => .inr (by omega))
theorem far4 (w : World) (g : Nat) (v0 v1 v2 v3 : Value) (b : Nat) (h : b ≠ g) : ((((w.setCell ⟨g, 0, none⟩ v0).setCell ⟨g, 1, none⟩ v1).setCell ⟨g, 2, none⟩ v2).setCell ⟨g, 3, none⟩ v3).heap[b]? = w.heap[b]? := by
  rw [Below.heap_setCell _ _ _ b h, Below.heap_setCell _ _ _ b h, Below.heap_setCell _ _ _ b h, Below.heap_setCell _ _ _ b h]
section
variable (Z : Nat → Prop) (st : Nat) (xs : List ND) (B : Nat) (w : World) (m : MT)
set_option maxHeartbeats 8000000 in
set_option maxRecDepth 20000 in
theorem issue_any (g p : Value) (who asked : Int) (h : AR w Z st xs) (hT : Cx B w Z) (hm : MtR w Z m g p) (ho : MtO m) (ha : I64 asked) (hw : I64 who) :
    Calls Tryd.prog 13 #[.pointer (some ⟨st, 0, none⟩), mtV m g p, .int .i64 who, .int .i64 asked] w (IssS w Z st (issF xs m who asked)) := by
  obtain ⟨Ag, cg, Ap, cp, rfl, rfl, hgr, hpr⟩ := hm
  have HG := hid hgr; have HP := hid hpr
  have H := hid h; have HT := hid hT; have HO := hid ho; have HA := hid ha
  clear hgr hpr
  have hf : issF xs m who asked = if hasB xs who && hasB xs asked && (nodeF xs asked).o == 12 then (if m.q ≤ cntF m.g who then (xs, 0, mt0, 82) else if makE xs (ndN 10 [m.k, asked]) == 0 then (makT xs (ndN 10 [m.k, asked]), makI xs (ndN 10 [m.k, asked]), ⟨m.k, m.q, incF m.g who, m.p⟩, 0) else (makT xs (ndN 10 [m.k, asked]), 0, mt0, makE xs (ndN 10 [m.k, asked]))) else (xs, 0, mt0, 1) := rfl
  have HF := hid hf
  have B0 := hid (show Below w.heap.size w ((w.alloc (.cells #[.int .i64 m.k, .int .i64 m.q, .slice Ag m.g.length cg, .slice Ap m.p.length cp] 31)).alloc (.cells #[.int .i64 0, .int .i64 0, .slice none 0 0, .slice none 0 0] 31)) from ((Below.refl _ _).alloc (Nat.le_refl _) _).alloc (by simp) _)
  have X0 := hid (World.ownsRow.alloc (show (w.alloc (.cells #[.int .i64 m.k, .int .i64 m.q, .slice Ag m.g.length cg, .slice Ap m.p.length cp] 31)).ownsRow w.heap.size 31 4 (.slice (some ⟨w.heap.size, 0, none⟩) 1 1) 1 [.int .i64 m.k, .int .i64 m.q, .slice Ag m.g.length cg, .slice Ap m.p.length cp] from
    ⟨by simp, .inr ⟨w.heap.size, 1, _, rfl, Nat.le_refl _, heap_alloc_new w _, Nat.le_refl _, by decide, rfl, by simp⟩⟩) (.cells #[.int .i64 0, .int .i64 0, .slice none 0 0, .slice none 0 0] 31))
  have Y0 := hid (show ((w.alloc (.cells #[.int .i64 m.k, .int .i64 m.q, .slice Ag m.g.length cg, .slice Ap m.p.length cp] 31)).alloc (.cells #[.int .i64 0, .int .i64 0, .slice none 0 0, .slice none 0 0] 31)).ownsRow (w.heap.size + 1) 31 4 (.slice (some ⟨w.heap.size + 1, 0, none⟩) 1 1) 1 [.int .i64 0, .int .i64 0, .slice none 0 0, .slice none 0 0] from by
      have h1 := heap_alloc_new (w.alloc (.cells #[.int .i64 m.k, .int .i64 m.q, .slice Ag m.g.length cg, .slice Ap m.p.length cp] 31)) (.cells #[.int .i64 0, .int .i64 0, .slice none 0 0, .slice none 0 0] 31)
      rw [show (w.alloc (.cells #[.int .i64 m.k, .int .i64 m.q, .slice Ag m.g.length cg, .slice Ap m.p.length cp] 31)).heap.size = w.heap.size + 1 by simp] at h1
      exact ⟨by simp, .inr ⟨w.heap.size + 1, 1, _, rfl, Nat.le_refl _, h1, Nat.le_refl _, by decide, rfl, by simp⟩⟩)
  clear h hT ho ha hf hw
  unfold mtV
  go_enter Tryd.func13, Tryd.ntmps13
  go_upto_region 1 with fail
  generalize (w.alloc (.cells #[.int .i64 m.k, .int .i64 m.q, .slice Ag m.g.length cg, .slice Ap m.p.length cp] 31)).alloc (.cells #[.int .i64 0, .int .i64 0, .slice none 0 0, .slice none 0 0] 31) = W0 at *
  go_wp2_with fail
  refine (node_any st xs asked _ (H.out.vw.ext B0.out)).mono ?_
  rintro e1 w1 ⟨A1, c1, rfl, o1, b1⟩
  have B1 := hid (B0.out.trans (b1.mono B0.out.size))
  have X1 := hid (own_ext X0.out b1)
  have Y1 := hid (own_ext Y0.out b1)
  clear o1 b1
  have hl1 := Y1.out.lt (w.heap.size + 1) rfl
  have B2 := hid (B1.out.alloc B1.out.size (.cells #[.int .i64 (nodeF xs asked).o, .int .i64 (nodeF xs asked).n, .string (nodeF xs asked).s, .slice A1 (nodeF xs asked).l.length c1] 60))
  have X2 := hid (X1.out.alloc (.cells #[.int .i64 (nodeF xs asked).o, .int .i64 (nodeF xs asked).n, .string (nodeF xs asked).s, .slice A1 (nodeF xs asked).l.length c1] 60))
  have Y2 := hid (Y1.out.alloc (.cells #[.int .i64 (nodeF xs asked).o, .int .i64 (nodeF xs asked).n, .string (nodeF xs asked).s, .slice A1 (nodeF xs asked).l.length c1] 60))
  have N2 := hid (show (w1.alloc (.cells #[.int .i64 (nodeF xs asked).o, .int .i64 (nodeF xs asked).n, .string (nodeF xs asked).s, .slice A1 (nodeF xs asked).l.length c1] 60)).ownsRow w1.heap.size 60 4 (.slice (some ⟨w1.heap.size, 0, none⟩) 1 1) 1 [.int .i64 (nodeF xs asked).o, .int .i64 (nodeF xs asked).n, .string (nodeF xs asked).s, .slice A1 (nodeF xs asked).l.length c1] from
    ⟨by simp, .inr ⟨w1.heap.size, 1, _, rfl, Nat.le_refl _, heap_alloc_new w1 _, Nat.le_refl _, by decide, rfl, by simp⟩⟩)
  clear X1 Y1 X0 Y0 B0
  go_upto_region 2 with fail
  generalize w1.alloc (.cells #[.int .i64 (nodeF xs asked).o, .int .i64 (nodeF xs asked).n, .string (nodeF xs asked).s, .slice A1 (nodeF xs asked).l.length c1] 60) = W2 at *
  have B3 := hid (B2.out.alloc B2.out.size (.cells #[.int .i64 who] 3))
  have HKN := hid (known_any st xs (W2.alloc (.cells #[.int .i64 who] 3)) (some ⟨W2.heap.size, 0, none⟩) 1 1 [who] (H.out.vw.ext B3.out) (sla_row #[.int .i64 who] (by unfold maxLen; simp)) (by decide))
  have X3 := hid (X2.out.alloc (.cells #[.int .i64 who] 3))
  have Y3 := hid (Y2.out.alloc (.cells #[.int .i64 who] 3))
  have N3 := hid (N2.out.alloc (.cells #[.int .i64 who] 3))
  go_wp2_with fail
  refine HKN.out.mono ?_
  rintro e4 w4 ⟨rfl, b4⟩
  rw [kno_one]
  have B4 := hid (B3.out.trans (b4.mono B3.out.size))
  have X4 := hid (own_ext X3.out b4)
  have Y4 := hid (own_ext Y3.out b4)
  have N4 := hid (own_ext N3.out b4)
  clear b4 HKN X2 Y2 N2 X3 Y3 N3 B2 B3
  obtain ⟨⟨y0, y1, y2, y3⟩, fy0, fy1, fy2, fy3⟩ := box4 Y4.out
  obtain ⟨⟨n0, n1, n2, n3⟩, -⟩ := box4 N4.out
  by_cases hbad : hasB xs who = true ∧ hasB xs asked = true ∧ (nodeF xs asked).o = 12
  · obtain ⟨h1, h2, h3⟩ := hbad
    have HR := hid (show issF xs m who asked = (if m.q ≤ cntF m.g who then (xs, 0, mt0, 82) else if makE xs (ndN 10 [m.k, asked]) == 0 then (makT xs (ndN 10 [m.k, asked]), makI xs (ndN 10 [m.k, asked]), ⟨m.k, m.q, incF m.g who, m.p⟩, 0) else (makT xs (ndN 10 [m.k, asked]), 0, mt0, makE xs (ndN 10 [m.k, asked]))) by
      rw [HF.out, if_pos (by rw [h1, h2, h3]; rfl)])
    have he : (nodeE xs asked != 0) = false := by unfold nodeE; rw [h2]; rfl
    have ho12 : ((nodeF xs asked).o != 12) = false := by rw [h3]; rfl
    clear h2 h3 N4
    generalize nodeE xs asked = ee at *
    generalize nodeF xs asked = nx at *
    rw [h1]
    clear h1
    go_upto_region 6 with fail
    obtain ⟨⟨x0, x1, x2, x3⟩, fx0, fx1, fx2, fx3⟩ := box4 X4.out
    have hbA : Below w.heap.size w (w4.alloc (.cells #[.int .i64 who] 3)).drew := below_drew (B4.out.alloc B4.out.size _)
    have HBA := hid hbA
    have hcn1 : m.g.length ≤ 1000000 := by have := HO.out.n; omega
    have HHD := hid (had_any m Ag cg (.slice Ap m.p.length cp) (some ⟨w4.heap.size, 0, none⟩) 1 1 [who] (w4.alloc (.cells #[.int .i64 who] 3)).drew (SlA.ext HG.out.1 hbA) HO.out.s HO.out.b hcn1 (sla_row #[.int .i64 who] (by unfold maxLen; simp)).drew (by decide))
    have XA := hid (own_block (w' := (w4.alloc (.cells #[.int .i64 who] 3)).drew) (X4.out.alloc (.cells #[.int .i64 who] 3)) (fun _ _ => rfl))
    have YA := hid (own_block (w' := (w4.alloc (.cells #[.int .i64 who] 3)).drew) (Y4.out.alloc (.cells #[.int .i64 who] 3)) (fun _ _ => rfl))
    clear hbA hcn1 n0 n1 n2 n3 y0 y1 y2 y3 fy0 fy1 fy2 fy3
    go_region_held3 (fun w' => w'.cell? ⟨w.heap.size, 0, none⟩ = some (.int .i64 m.k) ∧ w'.cell? ⟨w.heap.size, 1, none⟩ = some (.int .i64 m.q) ∧ w'.cell? ⟨w.heap.size, 2, none⟩ = some (.slice Ag m.g.length cg) ∧ w'.cell? ⟨w.heap.size, 3, none⟩ = some (.slice Ap m.p.length cp)) (first | exact (box4 X4.out).1 | exact (box4 XA.out).1 | exact (box4 X5.out).1 | go_keep) (first | (go_at_call 22; refine HHD.out.mono ?_; rintro e5 w5 ⟨rfl, b5⟩; rw [show hadF m.g [who] = cntF m.g who by simp [hadF]]; have X5 := hid (own_ext XA.out b5); have Y5 := hid (own_ext YA.out b5); have B5 := hid (HBA.out.trans (b5.mono HBA.out.size)); clear b5))
    clear XA YA HBA HHD x0 x1 x2 x3 fx0 fx1 fx2 fx3
    by_cases hfull : m.q ≤ cntF m.g who
    · have HR2 := hid (show issF xs m who asked = (xs, 0, mt0, 82) by rw [HR.out, if_pos hfull])
      obtain ⟨⟨y0, y1, y2, y3⟩, fy0, fy1, fy2, fy3⟩ := box4 Y5.out
      generalize cntF m.g who = cnt at *
      go_wp2_with fail
      refine bodyPost_ret (v := .tuple #[.int .i64 0, .agg #[.int .i64 0, .int .i64 0, .slice none 0 0, .slice none 0 0], .int .i64 82]) ?_ rfl ?_
      · rw [results_3 rfl]
        go_simp
      · rw [HR2.out]
        exact iss_stay H.out (st4 B5.out (by omega) _ _ _ _)
    have HR2 := hid (show issF xs m who asked = (if makE xs (ndN 10 [m.k, asked]) == 0 then (makT xs (ndN 10 [m.k, asked]), makI xs (ndN 10 [m.k, asked]), ⟨m.k, m.q, incF m.g who, m.p⟩, 0) else (makT xs (ndN 10 [m.k, asked]), 0, mt0, makE xs (ndN 10 [m.k, asked]))) by rw [HR.out, if_neg hfull])
    obtain ⟨⟨x0, x1, x2, x3⟩, fx0, fx1, fx2, fx3⟩ := box4 X5.out
    have HCX := hid (HT.out.below B5.out)
    have HSG := hid (sign_any Z st xs B w5 m.k asked (H.out.ext B5.out) HCX.out.tb HCX.out.le HO.out.k HA.out)
    clear HR
    generalize hcnt : cntF m.g who = cnt at *
    have HCNT := hid hcnt
    clear hcnt
    go_wp2_with fail
    refine HSG.out.mono ?_
    rintro e6 w6 ⟨rfl, s6⟩
    obtain ⟨Z6, a6, t6, z6⟩ := s6
    have hzw := H.out.zlt
    have hbs := B5.out.size
    have X6 := hid (own_block (w' := w6) X5.out fun b hb => t6.block b (X5.out.lt b hb).2 (fun h => by have := hzw b h; have := (X5.out.lt b hb).1; omega))
    have Y6 := hid (own_block (w' := w6) Y5.out fun b hb => t6.block b (Y5.out.lt b hb).2 (fun h => by have := hzw b h; have := (Y5.out.lt b hb).1; omega))
    have T6 := hid ((Turn.of_below (F := Z) B5.out).trans t6 (fun _ h => .inl h))
    have hw6 : w.heap.size + 1 < w6.heap.size := by have h1 := (Y6.out.lt (w.heap.size + 1) rfl).2; omega
    have ZZ6w := hid (show Z6 w.heap.size → w5.heap.size ≤ w.heap.size from fun h => (z6 _ h).elim (fun h => by have := hzw _ h; omega) id)
    have ZZ6y := hid (show Z6 (w.heap.size + 1) → w5.heap.size ≤ w.heap.size + 1 from fun h => (z6 _ h).elim (fun h => by have := hzw _ h; omega) id)
    have hw5y : w.heap.size + 1 < w5.heap.size := (Y5.out.lt (w.heap.size + 1) rfl).2
    have hw5 : w.heap.size < w5.heap.size := (X5.out.lt w.heap.size rfl).2
    have ZZ6 := hid (show ∀ b, Z6 b → Z b ∨ w.heap.size ≤ b from fun b hb => (z6 b hb).imp id fun h => Nat.le_trans hbs h)
    have A6 := hid a6
    have G6 := hid (HG.out.turn T6.out ZZ6.out)
    have P6 := hid (HP.out.turn T6.out ZZ6.out)
    clear a6 t6 z6 x0 x1 x2 x3 fx0 fx1 fx2 fx3 HSG
    rcases hme : (makE xs (ndN 10 [m.k, asked]) == 0) with _ | _
    · have hme' : (makE xs (ndN 10 [m.k, asked]) != 0) = true := by rw [bne, hme]; rfl
      have HR3 := hid (show issF xs m who asked = (makT xs (ndN 10 [m.k, asked]), 0, mt0, makE xs (ndN 10 [m.k, asked])) by rw [HR2.out, hme]; rfl)
      obtain ⟨⟨y0, y1, y2, y3⟩, fy0, fy1, fy2, fy3⟩ := box4 Y6.out
      generalize makE xs (ndN 10 [m.k, asked]) = me at *
      go_wp2_with fail
      refine bodyPost_ret (v := .tuple #[.int .i64 0, .agg #[.int .i64 0, .int .i64 0, .slice none 0 0, .slice none 0 0], .int .i64 me]) ?_ rfl ?_
      · rw [results_3 rfl]
        go_simp
      · rw [HR3.out]
        have hyb := st4 (Below.refl (w.heap.size + 1) w6) (Nat.le_refl _) (.int .i64 0) (.int .i64 0) (.slice none 0 0) (.slice none 0 0)
        have hny : ¬ Z6 (w.heap.size + 1) := fun h => by
          have h1 := (ZZ6y.out h)
          omega
        refine ⟨Z6, _, _, rfl, ?_, ?_, ZZ6.out, MtR.mt _ _ 0 0, newV_nil _ _ _ _ _⟩
        · obtain ⟨mp, v, qs, ha⟩ := A6.out
          exact ⟨mp, v, qs, ha.kept (fun b hz' => far4 w6 (w.heap.size + 1) _ _ _ _ b (fun e => hny (e ▸ hz'))) (by simp)⟩
        · exact T6.out.trans (F' := fun b => b = w.heap.size + 1) ⟨rfl, rfl, rfl, by simp, fun b _ hn => far4 w6 (w.heap.size + 1) _ _ _ _ b hn⟩ (fun b e => .inr (by omega))
    · have hme' : (makE xs (ndN 10 [m.k, asked]) != 0) = false := by rw [bne, hme]; rfl
      have HR3 := hid (show issF xs m who asked = (makT xs (ndN 10 [m.k, asked]), makI xs (ndN 10 [m.k, asked]), ⟨m.k, m.q, incF m.g who, m.p⟩, 0) by rw [HR2.out, hme]; rfl)
      generalize makE xs (ndN 10 [m.k, asked]) = me at *
      obtain ⟨⟨x0, x1, x2, x3⟩, fx0, fx1, fx2, fx3⟩ := box4 X6.out
      have hcn1 : m.g.length ≤ 1000000 := by have := HO.out.n; omega
      have hcn2 : m.p.length ≤ 2147483648 := by have := HO.out.pn; omega
      have HC := hid (fun (W : World) (hb : Below w6.heap.size w6 W) => cloneC_any Ag cg m.g W (SlA.ext G6.out.1 hb) hcn1)
      have HI := hid (fun (W : World) (hb : Below w6.heap.size w6 W) => clone_own Ap m.p.length cp m.p W (SlA.ext P6.out.1 hb) hcn2)
      clear hcn1 hcn2
      have D0 := hid (below_drew (Below.refl w6.heap.size w6))
      have HFZ := hid (fun (W : World) (hb : Below w6.heap.size w6 W) => (show W.cell? ⟨w.heap.size, 2, none⟩ = some (.slice Ag m.g.length cg) ∧ W.cell? ⟨w.heap.size, 3, none⟩ = some (.slice Ap m.p.length cp) ∧ W.frozen? ⟨w.heap.size, 2, none⟩ = false ∧ W.frozen? ⟨w.heap.size, 3, none⟩ = false from have h := box4 (own_ext X6.out hb); ⟨h.1.2.2.1, h.1.2.2.2, h.2.2.2.1, h.2.2.2.2⟩))
      go_upto_region 11 with fail
      have hnz : ¬ Z6 w.heap.size := fun h => by
        have h1 := ZZ6w.out h
        omega
      have HNZ := hid hnz
      clear hnz
      go_cut [] (fun W => MidI w w6.heap.size Z Z6 st (makT xs (ndN 10 [m.k, asked])) m W)
      case first =>
        go_region_with (first
          | (go_at_call 36; refine (HC.out _ (by first | exact D0.out | exact D9.out)).mono ?_; rintro e8 w8 ⟨vg, rfl, og, bg⟩; obtain ⟨Ag8, cg8, rfl, -⟩ := SlA.owned og; have OG := hid og; have D8 := hid ((by first | exact D0.out | exact D9.out : Below w6.heap.size w6 _).trans (bg.mono (by first | exact D0.out.size | exact D9.out.size))); have BG := hid bg; obtain ⟨q2, q3, q4, q5⟩ := HFZ.out _ D8.out; clear og bg)
          | (go_at_call 37; refine (HI.out _ (by first | exact D8.out | exact D0.out)).mono ?_; rintro e9 w9 ⟨vp, rfl, op, bp⟩; obtain ⟨Ap9, cp9, rfl, -⟩ := SlA.owned op; have OP := hid op; have D9 := hid ((by first | exact D8.out | exact D0.out : Below w6.heap.size w6 _).trans (bp.mono (by first | exact D8.out.size | exact D0.out.size))); have BP := hid bp; obtain ⟨r2, r3, r4, r5⟩ := HFZ.out _ D9.out; clear op bp))
        all_goals
          go_wp2_with fail
          go_meet
          first
            | exact midI_of (by omega) D9.out T6.out A6.out HNZ.out X6.out Y6.out (own_mono (own_ext OG.out BP.out) (by first | exact Nat.le_refl _ | exact D0.out.size | simp)) (own_mono OP.out D8.out.size) rfl
            | exact midI_of (by omega) D8.out T6.out A6.out HNZ.out X6.out Y6.out (own_mono OG.out D9.out.size) (own_mono (own_ext OP.out BG.out) (by first | exact Nat.le_refl _ | exact D0.out.size | simp)) rfl
            | exact midI_of (by omega) D9.out T6.out A6.out HNZ.out X6.out Y6.out (own_mono (own_ext OG.out BP.out) (by first | exact Nat.le_refl _ | exact D0.out.size | simp)) (own_mono OP.out D8.out.size) (by first | rfl | exact World.setCell_comm _ _ _ _ _ (by simp))
      case rest =>
        obtain ⟨vg, vp, x7, y7, g7, p7, a7, t7, s7⟩ := hcut
        obtain ⟨Ag7, cg7, rfl, -⟩ := SlA.owned g7
        obtain ⟨Ap7, cp7, rfl, -⟩ := SlA.owned p7
        have X7 := hid x7; have Y7 := hid y7; have G7 := hid g7; have P7 := hid p7; have A7 := hid a7; have T7 := hid t7; have S7 := hid s7
        clear x7 y7 g7 p7 a7 t7 s7 x0 x1 x2 x3 fx0 fx1 fx2 fx3 HC HI HFZ D0 HR2 HF X6 Y6 G6 P6
        obtain ⟨⟨x0, x1, x2, x3⟩, fx0, fx1, fx2, fx3⟩ := box4 X7.out
        have hcn1 : m.g.length ≤ 1000000 := by have := HO.out.n; omega
        go_wp2_with fail
        refine (find_any m Ag7 cg7 (.slice Ap7 m.p.length cp7) who _ (SlA.of_own G7.out).2 HO.out.s hcn1).mono ?_
        rintro e8 w8 ⟨rfl, b8⟩
        have B8 := hid b8
        have X8 := hid (own_ext X7.out b8)
        have Y8 := hid (own_ext Y7.out b8)
        have G8 := hid (own_ext G7.out b8)
        have P8 := hid (own_ext P7.out b8)
        have A8 := hid (A7.out.ext b8)
        have T8 := hid (T7.out.trans (Turn.of_below (F := Z) b8) (fun _ h => .inl h))
        have S8 := hid (Nat.le_trans S7.out b8.size)
        clear b8 x0 x1 x2 x3 fx0 fx1 fx2 fx3 hcn1
        obtain ⟨⟨x0, x1, x2, x3⟩, fx0, fx1, fx2, fx3⟩ := box4 X8.out
        have hny : ¬ Z6 (w.heap.size + 1) := fun h => by
          have h1 := ZZ6y.out h
          omega
        have HNY := hid hny
        have HLB := hid (lb_le m.g who)
        clear hny
        rcases his : isF m.g who with _ | _
        · have HINC := hid (inc_no his)
          have HLEN := hid (show m.g.length + 1 = (incF m.g who).length by rw [inc_len HO.out.s, his]; rfl)
          generalize lbF m.g who = lb at *
          have hcn1 : m.g.length ≤ 1000000 := by have := HO.out.n; omega
          go_wp2_with fail
          refine (insC_any w6.heap.size (.slice Ag7 m.g.length cg7) m.g lb (who, 0) w8.heap.size 66 _ (G8.out.alloc _) HLB.out hcn1 (heap_alloc_new w8 _) (fun e => by have := (G8.out.lt _ e).2; omega) (by have := S8.out; simp; omega)).mono ?_
          rintro e9 w9 ⟨q9, rfl, o9, b9⟩
          have hq7 : ∀ b, (Value.slice Ag7 m.g.length cg7).ownBlock = some b → w6.heap.size ≤ b ∧ b < w8.heap.size := fun b hb => G8.out.lt b hb
          have kp : ∀ b, b < w8.heap.size → (Value.slice Ag7 m.g.length cg7).ownBlock ≠ some b → w9.heap[b]? = w8.heap[b]? := fun b hb hn => by
            rw [b9.block b (by simp; omega) (fun e => hn e.symm)]
            exact Below.heap_alloc w8 _ b hb
          have kq : ∀ b, b < w6.heap.size → w9.heap[b]? = w8.heap[b]? := fun b hb => kp b (by have := S8.out; omega) (fun e => by have := (hq7 b e).1; omega)
          have hs9 : w8.heap.size ≤ w9.heap.size := by have := b9.size; simp at this; omega
          have X9 := hid (own_block (w' := w9) X8.out fun b hb => kq b (by injection hb with hb; simp only at hb; omega))
          have Y9 := hid (own_block (w' := w9) Y8.out fun b hb => kq b (by injection hb with hb; simp only at hb; omega))
          have P9 := hid (own_block (w' := w9) P8.out fun b hb => kp b (P8.out.lt b hb).2 (own_apart P8.out G8.out (by decide) b hb))
          have A9' := hid (show AR w9 Z6 st (makT xs (ndN 10 [m.k, asked])) from by
            obtain ⟨mp, v, qs, ha⟩ := A8.out
            exact ⟨mp, v, qs, ha.kept (fun b hb => kq b (A6.out.zlt b hb)) hs9⟩)
          have T9 := hid (T8.out.trans (F' := fun b => w6.heap.size ≤ b) ⟨b9.os, b9.tape, b9.output, hs9, fun b hb hn => kq b (by omega)⟩ (fun b hb => .inr (by omega)))
          have O9 := hid o9
          obtain ⟨A9, c9, rfl, -⟩ := SlA.owned o9
          clear hq7 kp kq o9 b9 X8 Y8 P8 A8 T8 G8 X7 Y7 P7 A7 T7 G7
          obtain ⟨gb, hgb⟩ : ∃ gb, A9 = some ⟨gb, 0, none⟩ := by
            rcases O9.out.2 with ⟨h', h0⟩ | ⟨gb, cap, cur, h', _⟩
            · omega
            · injection h' with h'; exact ⟨gb, h'⟩
          subst hgb
          obtain ⟨⟨x0, x1, x2, x3⟩, fx0, fx1, fx2, fx3⟩ := box4 X9.out
          go_upto_region 15 with fail
          refine forget (R := fun W => W.ownsRow w.heap.size 31 4 (.slice (some ⟨w.heap.size, 0, none⟩) 1 1) 1 [.int .i64 m.k, .int .i64 m.q, .slice (some ⟨gb, 0, none⟩) (m.g.length + 1) c9, .slice Ap7 m.p.length cp7] ∧ W.ownsRow (w.heap.size + 1) 31 4 (.slice (some ⟨w.heap.size + 1, 0, none⟩) 1 1) 1 [.int .i64 0, .int .i64 0, .slice none 0 0, .slice none 0 0] ∧ W.ownsRow w6.heap.size 66 2 (.slice (some ⟨gb, 0, none⟩) (m.g.length + 1) c9) (m.g.length + 1) (cts (insG m.g lb (who, 0))) ∧ W.ownsRow w6.heap.size 3 1 (.slice Ap7 m.p.length cp7) m.p.length (m.p.map (.int .i64)) ∧ AR W Z6 st (makT xs (ndN 10 [m.k, asked])) ∧ Turn Z w W) ?_ (fin_put X9.out Y9.out O9.out P9.out A9'.out T9.out hw6 HNZ.out)
          rintro W ⟨x7, y7, g7, p7, a7, t7⟩
          have X7 := hid x7; have Y7 := hid y7; have G7 := hid g7; have P7 := hid p7; have A7 := hid a7; have T7 := hid t7
          clear x7 y7 g7 p7 a7 t7 x0 x1 x2 x3 fx0 fx1 fx2 fx3 X9 Y9 O9 P9 A9' T9
          obtain ⟨⟨x0, x1, x2, x3⟩, fx0, fx1, fx2, fx3⟩ := box4 X7.out
          have hlb := HLB.out
          have c1 : W.cell? ⟨gb, lb * 2 + 1, none⟩ = some (.int .i64 0) := by
            rw [G7.out.cellAt (lb * 2 + 1) (by omega)]
            exact (cts_get (g := insG m.g lb (who, 0)) (j := lb) (c := (who, 0)) (by unfold insG; rw [List.getElem?_append_right (by rw [take_len hlb]; exact Nat.le_refl _), take_len hlb, Nat.sub_self]; rfl)).2
          have fc1 : W.frozen? ⟨gb, lb * 2 + 1, none⟩ = false := G7.out.frozenAt _
          have hlt1 : (lb : Int) < (m.g.length : Int) + 1 := by omega
          have HFIN := hid (finI_set (m := ⟨m.k, m.q, incF m.g who, m.p⟩) X7.out Y7.out G7.out P7.out A7.out T7.out A6.out.zlt hw6 HLEN.out HINC.out)
          clear hlb
          go_upto_region 16 with fail
          refine forget (R := fun W => FinI w w6.heap.size Z Z6 st (makT xs (ndN 10 [m.k, asked])) ⟨m.k, m.q, incF m.g who, m.p⟩ (.slice (some ⟨gb, 0, none⟩) (m.g.length + 1) c9) (.slice Ap7 m.p.length cp7) W) ?_ HFIN.out
          clear HFIN x0 x1 x2 x3 fx0 fx1 fx2 fx3 c1 fc1 X7 Y7 G7 P7 A7 T7
          intro W1 hfin
          have HFIN := hid hfin
          obtain ⟨f1, f2, -⟩ := hfin
          obtain ⟨⟨x0, x1, x2, x3⟩, -⟩ := box4 f1
          obtain ⟨⟨y0, y1, y2, y3⟩, fy0, fy1, fy2, fy3⟩ := box4 f2
          have hne1 : ¬ w.heap.size = w.heap.size + 1 := by omega
          clear f1 f2
          go_region
          go_wp2
          refine bodyPost_ret (v := .tuple #[.int .i64 (makI xs (ndN 10 [m.k, asked])), .agg #[.int .i64 m.k, .int .i64 m.q, .slice (some ⟨gb, 0, none⟩) (m.g.length + 1) c9, .slice Ap7 m.p.length cp7], .int .i64 0]) ?_ rfl ?_
          · rw [results_3 rfl]
            go_simp
          · rw [HR3.out]
            refine finI_end HFIN.out ZZ6.out A6.out.zlt hw6 HNY.out (fun b hb => ?_) ?_ ?_ _ _
            · exact far4 _ _ _ _ _ _ b hb
            · show (World.setCell _ _ _).heap.size = _
              simp
            · exact ⟨rfl, rfl, rfl⟩
        · have HINC := hid (inc_yes HO.out.s his)
          have HLEN := hid (show m.g.length = (incF m.g who).length by rw [inc_len HO.out.s, his]; rfl)
          obtain ⟨c, hc1, hc2, hc3, hc4⟩ := cnt_yes HO.out.s his
          rw [hc3] at HINC
          have hcb := HO.out.b c hc4
          have hq0 : 0 ≤ c.2 := hcb.1
          have hq1 : c.2 ≤ 1000000 := hcb.2
          have hlb : lbF m.g who < m.g.length := (List.getElem?_eq_some_iff.1 hc1).1
          have HC1 := hid hc1
          generalize lbF m.g who = lb at *
          clear hc1 hc2 hc3 hc4 hcb X7 Y7 P7 A7 T7 G7
          obtain ⟨gb, hgb⟩ : ∃ gb, Ag7 = some ⟨gb, 0, none⟩ := by
            rcases G8.out.2 with ⟨h', h0⟩ | ⟨gb, cap, cur, h', _⟩
            · omega
            · injection h' with h'; exact ⟨gb, h'⟩
          subst hgb
          have X7 := X8; have Y7 := Y8; have G7 := G8; have P7 := P8; have A7 := A8; have T7 := T8
          clear x0 x1 x2 x3 fx0 fx1 fx2 fx3 X8 Y8 G8 P8 A8 T8
          generalize w8 = W at *
          obtain ⟨⟨x0, x1, x2, x3⟩, fx0, fx1, fx2, fx3⟩ := box4 X7.out
          have c1 : W.cell? ⟨gb, lb * 2 + 1, none⟩ = some (.int .i64 c.2) := by
            rw [G7.out.cellAt (lb * 2 + 1) (by omega)]
            exact (cts_get HC1.out).2
          have fc1 : W.frozen? ⟨gb, lb * 2 + 1, none⟩ = false := G7.out.frozenAt _
          have hlt1 : (lb : Int) < (m.g.length : Int) := by omega
          have HFIN := hid (finI_set (m := ⟨m.k, m.q, incF m.g who, m.p⟩) X7.out Y7.out G7.out P7.out A7.out T7.out A6.out.zlt hw6 HLEN.out HINC.out)
          go_upto_region 16 with fail
          refine forget (R := fun W => FinI w w6.heap.size Z Z6 st (makT xs (ndN 10 [m.k, asked])) ⟨m.k, m.q, incF m.g who, m.p⟩ (.slice (some ⟨gb, 0, none⟩) m.g.length cg7) (.slice Ap7 m.p.length cp7) W) ?_ HFIN.out
          clear HFIN x0 x1 x2 x3 fx0 fx1 fx2 fx3 c1 fc1 X7 Y7 G7 P7 A7 T7
          intro W1 hfin
          have HFIN := hid hfin
          obtain ⟨f1, f2, -⟩ := hfin
          obtain ⟨⟨x0, x1, x2, x3⟩, -⟩ := box4 f1
          obtain ⟨⟨y0, y1, y2, y3⟩, fy0, fy1, fy2, fy3⟩ := box4 f2
          have hne1 : ¬ w.heap.size = w.heap.size + 1 := by omega
          clear f1 f2
          go_region
          go_wp2
          refine bodyPost_ret (v := .tuple #[.int .i64 (makI xs (ndN 10 [m.k, asked])), .agg #[.int .i64 m.k, .int .i64 m.q, .slice (some ⟨gb, 0, none⟩) m.g.length cg7, .slice Ap7 m.p.length cp7], .int .i64 0]) ?_ rfl ?_
          · rw [results_3 rfl]
            go_simp
          · rw [HR3.out]
            refine finI_end HFIN.out ZZ6.out A6.out.zlt hw6 HNY.out (fun b hb => ?_) ?_ ?_ _ _
            · exact far4 _ _ _ _ _ _ b hb
            · show (World.setCell _ _ _).heap.size = _
              simp
            · exact ⟨rfl, rfl, rfl⟩
  · have HR := hid (show issF xs m who asked = (xs, 0, mt0, 1) by
      rw [HF.out, if_neg]
      simpa [and_assoc] using hbad)
    have h3 : hasB xs who = false ∨ (hasB xs who = true ∧ (nodeE xs asked != 0) = true) ∨ (hasB xs who = true ∧ (nodeE xs asked != 0) = false ∧ ((nodeF xs asked).o != 12) = true) := by
      rcases hh : hasB xs who with _ | _
      · exact .inl rfl
      · rcases hh2 : hasB xs asked with _ | _
        · exact .inr (.inl ⟨rfl, by unfold nodeE; rw [hh2]; rfl⟩)
        · exact .inr (.inr ⟨rfl, by unfold nodeE; rw [hh2]; rfl, bne_iff_ne.2 fun h => hbad ⟨hh, hh2, h⟩⟩)
    clear hbad
    generalize nodeE xs asked = ee at *
    generalize nodeF xs asked = nx at *
    rcases h3 with h3 | ⟨h3, h4⟩ | ⟨h3, h4, h5⟩
    all_goals
      rw [h3]
      clear h3
      go_wp2_with fail
      refine bodyPost_ret (v := .tuple #[.int .i64 0, .agg #[.int .i64 0, .int .i64 0, .slice none 0 0, .slice none 0 0], .int .i64 1]) ?_ rfl ?_
      · rw [results_3 rfl]
        go_simp
      · rw [HR.out]
        exact iss_stay H.out (st4 B4.out (by omega) _ _ _ _)
end
end Go.Proofs.YtfmkniakfgpgjaaDoor

