import Derived.Test.YtfmkniakfgpgjaaDoorY11
import Derived.Test.YtfmkniakfgpgjaaDoorY08
import Derived.Test.YtfmkniakfgpgjaaDoorY10
import Derived.Test.YtfmkniakfgpgjaaDoorY09
/- plain: TokenDoes: mints as they grow. -/
namespace Go.Proofs.YtfmkniakfgpgjaaDoor
open Go.RowKit Go.KK Go.Shelf Go.Maps
set_option linter.unusedVariables false
set_option linter.unusedSimpArgs false

/-- A mint behind so many rounds. -/
structure MtJ (j : Nat) (m : MT) : Prop where
  k : I64 m.k
  q : I64 m.q
  s : CtS m.g
  b : ∀ c ∈ m.g, 0 ≤ c.2 ∧ c.2 ≤ (j : Int)
  n : m.g.length ≤ j
  p : m.p.Pairwise (· < ·)
  pn : m.p.length ≤ j
  pi : ∀ i ∈ m.p, I64 i
theorem mtj_mt (j : Nat) {k q : Int} (hk : I64 k) (hq : I64 q) : MtJ j ⟨k, q, [], []⟩ := ⟨hk, hq, .nil, fun c h => by simp at h, Nat.zero_le _, .nil, Nat.zero_le _, fun i h => by simp at h⟩
theorem mtj_0 (j : Nat) : MtJ j mt0 := mtj_mt j (i64_lit (by decide) (by decide)) (i64_lit (by decide) (by decide))
theorem MtJ.up {j : Nat} {m : MT} (h : MtJ j m) : MtJ (j + 1) m := ⟨h.k, h.q, h.s, fun c hc => ⟨(h.b c hc).1, by have := (h.b c hc).2; omega⟩, by have := h.n; omega, h.p, by have := h.pn; omega, h.pi⟩
theorem MtJ.o {j : Nat} {m : MT} (h : MtJ j m) (hj : j ≤ 1000) : MtO m := ⟨h.k, h.q, h.s, fun c hc => ⟨(h.b c hc).1, by have := (h.b c hc).2; omega⟩, by have := h.n; omega, h.p, by have := h.pn; omega, h.pi⟩
theorem MtJ.cnt {j : Nat} {m : MT} (h : MtJ j m) (w : Int) : 0 ≤ cntF m.g w ∧ cntF m.g w ≤ j := by
  rcases hi : isF m.g w with _ | _
  · rw [cnt_no hi]; omega
  · obtain ⟨c, _, _, e, hm⟩ := cnt_yes h.s hi
    rw [e]; exact h.b c hm
theorem incR_len : ∀ (g : List (Int × Int)) (w : Int), (incR g w).length ≤ g.length + 1
  | [], w => by simp [incR]
  | c :: g, w => by
    unfold incR
    split
    · have := incR_len g w; simp; omega
    · split <;> simp
theorem incR_bd {j : Nat} : ∀ (g : List (Int × Int)) (w : Int), (∀ c ∈ g, 0 ≤ c.2 ∧ c.2 ≤ (j : Int)) → ∀ c ∈ incR g w, 0 ≤ c.2 ∧ c.2 ≤ ((j + 1 : Nat) : Int)
  | [], w, _, c, hc => by
    unfold incR at hc; rw [List.mem_singleton] at hc; subst hc; exact ⟨by show (0 : Int) ≤ 1; decide, by show (1 : Int) ≤ _; omega⟩
  | d :: g, w, h, c, hc => by
    have hd := h d (List.mem_cons_self ..)
    have hg : ∀ x ∈ g, 0 ≤ x.2 ∧ x.2 ≤ (j : Int) := fun x hx => h x (List.mem_cons_of_mem _ hx)
    unfold incR at hc
    split at hc
    · rcases List.mem_cons.1 hc with e | hc
      · subst e; omega
      · exact incR_bd g w hg c hc
    · split at hc
      · rcases List.mem_cons.1 hc with e | hc
        · subst e; show 0 ≤ d.2 + 1 ∧ d.2 + 1 ≤ _; omega
        · have := hg c hc; omega
      · rcases List.mem_cons.1 hc with e | hc
        · subst e; exact ⟨by show (0 : Int) ≤ 1; decide, by show (1 : Int) ≤ _; omega⟩
        · have := h c hc; omega
theorem MtJ.inc {j : Nat} {m : MT} (h : MtJ j m) (w : Int) : MtJ (j + 1) ⟨m.k, m.q, incF m.g w, m.p⟩ := by
  rw [inc_eq w h.s]
  exact ⟨h.k, h.q, incR_s w h.s, incR_bd m.g w h.b, by have := incR_len m.g w; have := h.n; show (incR m.g w).length ≤ _; omega, h.p, by have := h.pn; show m.p.length ≤ _; omega, h.pi⟩
theorem mtj_iss {j : Nat} {xs : List ND} {m : MT} (h : MtJ j m) (who asked : Int) : MtJ (j + 1) (issF xs m who asked).2.2.1 := by
  unfold issF
  split
  · split
    · exact mtj_0 _
    · split
      · exact h.inc who
      · exact mtj_0 _
  · exact mtj_0 _
theorem lb_parts : ∀ {p : List Int} (x : Int), p.Pairwise (· < ·) → (∀ a ∈ p.take (lbI p x), a < x) ∧ ∀ a ∈ p.drop (lbI p x), x ≤ a
  | [], x, _ => ⟨fun a h => by simp at h, fun a h => by simp at h⟩
  | c :: p, x, h => by
    obtain ⟨h1, h2⟩ := List.pairwise_cons.1 h
    by_cases hc : c < x
    · have e : lbI (c :: p) x = lbI p x + 1 := by unfold lbI; rw [List.countP_cons, if_pos (by simpa using hc)]
      obtain ⟨i1, i2⟩ := lb_parts x h2
      rw [e, List.take_succ_cons, List.drop_succ_cons]
      exact ⟨fun a ha => (List.mem_cons.1 ha).elim (fun e => e ▸ hc) (i1 a), i2⟩
    · have e : lbI (c :: p) x = 0 := by
        unfold lbI
        rw [List.countP_eq_zero]
        intro d hd
        rcases List.mem_cons.1 hd with rfl | hd
        · simp; omega
        · have := h1 d hd; simp; omega
      rw [e, List.take_zero, List.drop_zero]
      refine ⟨fun a ha => by simp at ha, fun a ha => ?_⟩
      rcases List.mem_cons.1 ha with rfl | ha
      · omega
      · have := h1 a ha; omega
theorem ins_p {p : List Int} {x : Int} (h : p.Pairwise (· < ·)) (hx : x ∉ p) : (p.take (lbI p x) ++ x :: p.drop (lbI p x)).Pairwise (· < ·) := by
  obtain ⟨h1, h2⟩ := lb_parts x h
  rw [List.pairwise_append, List.pairwise_cons]
  have h3 : ∀ a ∈ p.drop (lbI p x), x < a := fun a ha => by
    have := h2 a ha
    have hne : a ≠ x := fun e => hx (e ▸ List.mem_of_mem_drop ha)
    omega
  refine ⟨h.sublist (List.take_sublist _ _), ⟨h3, h.sublist (List.drop_sublist _ _)⟩, fun a ha b hb => ?_⟩
  have := h1 a ha
  rcases List.mem_cons.1 hb with rfl | hb
  · exact this
  · have := h3 b hb; omega
theorem mtj_sp {j : Nat} {xs : List ND} {m : MT} (h : MtJ j m) {nonce : Int} (hn : I64 nonce) (sig : Int) : MtJ (j + 1) (spF xs m nonce sig).1 := by
  unfold spF
  split
  · split
    · split
      · exact mtj_0 _
      · rename_i hc
        have hx : nonce ∉ m.p := by simpa using hc
        refine ⟨h.k, h.q, h.s, fun c hc => h.up.b c hc, h.up.n, ins_p h.p hx, ?_, fun i hi => ?_⟩
        · have : lbI m.p nonce ≤ m.p.length := List.countP_le_length
          have := h.pn
          simp; omega
        · rcases List.mem_append.1 hi with hi | hi
          · exact h.pi i (List.mem_of_mem_take hi)
          · rcases List.mem_cons.1 hi with rfl | hi
            · exact hn
            · exact h.pi i (List.mem_of_mem_drop hi)
    · exact mtj_0 _
  · exact mtj_0 _
/-! terms that were told -/
theorem iss_has {xs : List ND} {m : MT} {who asked : Int} (h : (issF xs m who asked).2.2.2 = 0) : hasB (issF xs m who asked).1 (issF xs m who asked).2.1 = true := by
  unfold issF at h ⊢
  split at h
  · rename_i h1
    rw [if_pos h1] at ⊢
    split at h
    · exact absurd h (by simp)
    · rename_i h2
      rw [if_neg h2]
      split at h
      · rename_i h3
        rw [if_pos h3]
        exact (mk_at' (xs := xs) (x := ndN 10 [m.k, asked]) (show makE xs (ndN 10 [m.k, asked]) = 0 from by simpa using h3)).has
      · rename_i h3
        exact absurd (show makE xs (ndN 10 [m.k, asked]) = 0 from h) (by simpa using h3)
  · exact absurd h (by simp)
theorem ask_has {xs : List ND} {nonce draw : Int} (h : (askF xs nonce draw).2.2 = 0) : hasB (askF xs nonce draw).1 (askF xs nonce draw).2.1 = true := by
  unfold askF at h ⊢
  split at h
  · rename_i h1
    rw [if_pos h1]
    split at h
    · rename_i h2
      rw [if_pos h2]
      exact (mk_at' h).has
    · rename_i h2
      exact absurd h (by simpa using h2)
  · exact absurd h (by simp)
theorem unbl_has {xs : List ND} {sig draw : Int} (h : (unblF xs sig draw).2.2 = 0) : hasB (unblF xs sig draw).1 (unblF xs sig draw).2.1 = true := by
  unfold unblF at h ⊢
  split at h
  · rename_i h1
    rw [if_pos h1]
    split at h
    · rename_i h2
      rw [if_pos h2]
      split at h
      · rename_i h3
        rw [if_pos h3]
        exact (mk_at' h).has
      · exact absurd h (by simp)
    · exact absurd h (by simp)
  · exact absurd h (by simp)
theorem fin_has {xs : List ND} {sig draw : Int} (h : (finF xs sig draw).2.2 = 0) : hasB (finF xs sig draw).1 (finF xs sig draw).2.1 = true := by
  unfold finF at h ⊢
  split at h
  · rename_i h1
    rw [if_pos h1]
    exact unbl_has h
  · rename_i h1
    exact absurd h (by simpa using h1)
theorem last_i64 {l : List Int} {x : Int} (hl : ∀ i ∈ l, I64 i) (hx : I64 x) : I64 (lastF l x) := by
  unfold lastF
  split
  · obtain ⟨h1, h2⟩ := hx
    rcases Int.le_total x 11 with h | h
    · rw [Int.min_eq_left h]; exact ⟨h1, h2⟩
    · rw [Int.min_eq_right h]; exact i64_lit (by decide) (by decide)
  · rw [List.getD_eq_getElem?_getD]
    rcases h : l[l.length - 1 - (x - 100).toNat]? with _ | z
    · exact i64_lit (by decide) (by decide)
    · exact hl z (List.mem_of_getElem? h)
end Go.Proofs.YtfmkniakfgpgjaaDoor

/- the document's token layer: Same (of mints that are equal). -/
namespace Go.Proofs.YtfmkniakfgpgjaaDoor
open Go.RowKit Go.KK Go.Shelf Go.Maps
set_option linter.unusedVariables false
set_option linter.unusedSimpArgs false

set_option maxHeartbeats 2000000 in
set_option maxRecDepth 20000 in
theorem rsame17_any (m : MT) (Ag Ap Bg Bp : Option Addr) (cg cp dg dp : Nat) (w : World) (hg : SlA w 2 Ag m.g.length cg (cts m.g)) (hp : SlA w 1 Ap m.p.length cp (m.p.map (.int .i64))) (hg' : SlA w 2 Bg m.g.length dg (cts m.g)) (hp' : SlA w 1 Bp m.p.length dp (m.p.map (.int .i64))) (hgn : m.g.length ≤ 1000) (hpn : m.p.length ≤ 1000) :
    Calls Tryd.prog 8 #[.agg #[.int .i64 m.k, .int .i64 m.q, .slice Ag m.g.length cg, .slice Ap m.p.length cp], .agg #[.int .i64 m.k, .int .i64 m.q, .slice Bg m.g.length dg, .slice Bp m.p.length dp]] w fun e w' => e = .returned (.bool true) ∧ Below w.heap.size w w' := by
  have HG := hid hg; have HP := hid hp; have HG' := hid hg'; have HP' := hid hp'
  have hb : Below w.heap.size w ((w.alloc (.cells #[.int .i64 m.k, .int .i64 m.q, .slice Ag m.g.length cg, .slice Ap m.p.length cp] 31)).alloc (.cells #[.int .i64 m.k, .int .i64 m.q, .slice Bg m.g.length dg, .slice Bp m.p.length dp] 31)) := ((Below.refl _ _).alloc (Nat.le_refl _) _).alloc (by simp) _
  have hx0 : HasO (.cells #[.int .i64 m.k, .int .i64 m.q, .slice Ag m.g.length cg, .slice Ap m.p.length cp] 31 (0, 0)) w.heap.size ((w.alloc (.cells #[.int .i64 m.k, .int .i64 m.q, .slice Ag m.g.length cg, .slice Ap m.p.length cp] 31)).alloc (.cells #[.int .i64 m.k, .int .i64 m.q, .slice Bg m.g.length dg, .slice Bp m.p.length dp] 31)) := (HasO.new _ _).alloc
  have hx1 : HasO (.cells #[.int .i64 m.k, .int .i64 m.q, .slice Bg m.g.length dg, .slice Bp m.p.length dp] 31 (0, 0)) (w.heap.size + 1) ((w.alloc (.cells #[.int .i64 m.k, .int .i64 m.q, .slice Ag m.g.length cg, .slice Ap m.p.length cp] 31)).alloc (.cells #[.int .i64 m.k, .int .i64 m.q, .slice Bg m.g.length dg, .slice Bp m.p.length dp] 31)) := HasO.new' (by simp)
  have HS := hid (And.intro hb (And.intro hx0 hx1))
  clear hg hp hg' hp' hb hx0 hx1
  go_enter Tryd.func8, Tryd.ntmps8
  go_upto_region 1 with fail
  refine forget (R := fun V => Below w.heap.size w V ∧ HasO (.cells #[.int .i64 m.k, .int .i64 m.q, .slice Ag m.g.length cg, .slice Ap m.p.length cp] 31 (0, 0)) w.heap.size V ∧ HasO (.cells #[.int .i64 m.k, .int .i64 m.q, .slice Bg m.g.length dg, .slice Bp m.p.length dp] 31 (0, 0)) (w.heap.size + 1) V) ?_ HS.out
  clear HS
  rintro V ⟨hb, h0, h1⟩
  have HB := hid hb; have H0 := hid h0; have H1 := hid h1
  clear hb h0 h1
  obtain ⟨⟨k0, k1, k2, k3⟩, -⟩ := mint4 H0.out
  obtain ⟨⟨y0, y1, y2, y3⟩, -⟩ := mint4 H1.out
  go_upto_region 3 with (first
    | (go_at_call 30; go_loud (refine (same_ints Ap _ cp m.p Bp _ dp m.p _ (HP.out.ext HB.out) (HP'.out.ext HB.out) (by omega) (by omega)).mono ?_; rintro e6 w6 ⟨rfl, q6, rfl⟩; rw [show (m.p == m.p) = true from beq_self_eq_true _]; have DB := hid (below_drewN HB.out q6); have D0 := hid (H0.out.bel (below_drewN (Below.refl V.heap.size V) q6)); have D1 := hid (H1.out.bel (below_drewN (Below.refl V.heap.size V) q6))))
    | fail)
  refine forget (R := fun V => Below w.heap.size w V ∧ HasO (.cells #[.int .i64 m.k, .int .i64 m.q, .slice Ag m.g.length cg, .slice Ap m.p.length cp] 31 (0, 0)) w.heap.size V ∧ HasO (.cells #[.int .i64 m.k, .int .i64 m.q, .slice Bg m.g.length dg, .slice Bp m.p.length dp] 31 (0, 0)) (w.heap.size + 1) V) ?_ ⟨DB.out, D0.out, D1.out⟩
  clear DB D0 D1 k0 k1 k2 k3 y0 y1 y2 y3 HB H0 H1
  clear V
  rintro V ⟨hb, h0, h1⟩
  have HB := hid hb; have H0 := hid h0; have H1 := hid h1
  clear hb h0 h1
  obtain ⟨⟨-, -, k2, -⟩, -⟩ := mint4 H0.out
  go_upto_region 4 with fail
  clear k2
  go_loopw [38, 5] (fun i _ wr => ∃ j : Nat, i = .int .i64 j ∧ j ≤ m.g.length ∧ Below w.heap.size w wr ∧ HasO (.cells #[.int .i64 m.k, .int .i64 m.q, .slice Ag m.g.length cg, .slice Ap m.p.length cp] 31 (0, 0)) w.heap.size wr ∧ HasO (.cells #[.int .i64 m.k, .int .i64 m.q, .slice Bg m.g.length dg, .slice Bp m.p.length dp] 31 (0, 0)) (w.heap.size + 1) wr) (fun i _ _ => m.g.length - (intOf i).toNat)
  case atStart => exact ⟨0, rfl, Nat.zero_le _, HB.out, H0.out, H1.out⟩
  case round =>
    obtain ⟨j, hi, hj, hb, h0, h1⟩ := hrel
    subst hi
    have HBw := hid hb; have H0w := hid h0; have H1w := hid h1
    clear hb h0 h1
    obtain ⟨⟨-, -, k2, -⟩, -⟩ := mint4 H0w.out
    obtain ⟨⟨-, -, y2, -⟩, -⟩ := mint4 H1w.out
    by_cases hlt : j < m.g.length
    · obtain ⟨b1, o1, c, hA, hz, hc0, hc1⟩ := ctA_at (SlA.ext HG.out HBw.out) hlt
      obtain ⟨b2, o2, d, hA', hz', hd0, hd1⟩ := ctA_at (SlA.ext HG'.out HBw.out) hlt
      have hcd : d = c := by rw [hz] at hz'; exact (Option.some.inj hz').symm
      subst hcd hA hA'
      have hlt2 : (j : Int) < (m.g.length : Int) := by omega
      have hj0 : (0 : Int) ≤ (j : Int) := by omega
      clear hz hz'
      go_wp2
      go_quiet (fail)
      go_wp2
      go_roundw
      case rel => exact ⟨j + 1, by go_num, by omega, below_drewN HBw.out _, H0w.out, H1w.out⟩
      case measure => simp [intOf]; omega
    · have hlt2 : ¬ (j : Int) < (m.g.length : Int) := by omega
      go_wp2
      go_ret
      exact ⟨rfl, HBw.out⟩
end Go.Proofs.YtfmkniakfgpgjaaDoor

/- plain: the document's Rising of a row in order and one more. -/
namespace Go.Proofs.YtfmkniakfgpgjaaDoor
open Go.RowKit Go.KK Go.Shelf Go.Maps
set_option linter.unusedVariables false
set_option linter.unusedSimpArgs false

theorem posF_lb {p : List Int} {x : Int} (hs : p.Pairwise (· < ·)) (hx : x ∉ p) : ∀ k, k ≤ p.length → posF p x k = lbI (p.take k) x
  | 0, _ => by simp [posF, lbI]
  | k + 1, h => by
    have hg : p[k]? = some (p[k]'(by omega)) := List.getElem?_eq_getElem _
    have hne : p[k]'(by omega) ≠ x := fun e => hx (e ▸ List.getElem_mem _)
    rw [posF, List.getD, hg]
    have hk := posF_lb hs hx k (by omega)
    by_cases hlt : x < p[k]'(by omega)
    · rw [show (some (p[k]'(by omega))).getD 0 = p[k]'(by omega) from rfl, if_pos hlt, hk, take_get hg]
      unfold lbI
      rw [List.countP_append, List.countP_cons, List.countP_nil, if_neg (by simp; omega)]
      rfl
    · rw [show (some (p[k]'(by omega))).getD 0 = p[k]'(by omega) from rfl, if_neg hlt, lbI_all, List.length_take, Nat.min_eq_left (by omega)]
      intro a ha
      obtain ⟨i, hi⟩ := List.mem_iff_getElem?.1 ha
      rw [List.getElem?_take] at hi
      split at hi
      · rename_i hik
        obtain ⟨hi1, rfl⟩ := List.getElem?_eq_some_iff.1 hi
        rcases Nat.lt_or_ge i k with h1 | h1
        · have := List.pairwise_iff_getElem.1 hs i k hi1 (by omega) h1; omega
        · obtain rfl : i = k := by omega
          omega
      · cases hi
theorem insR_new {p : List Int} {x : Int} (hs : p.Pairwise (· < ·)) (hx : x ∉ p) : insR p x = p.take (lbI p x) ++ x :: p.drop (lbI p x) := by
  have h := posF_lb hs hx p.length (Nat.le_refl _)
  rw [List.take_length] at h
  unfold insR
  rw [h, if_neg]
  rintro ⟨h0, he⟩
  have hl : lbI p x ≤ p.length := List.countP_le_length
  have hg : p[lbI p x - 1]? = some (p[lbI p x - 1]'(by omega)) := List.getElem?_eq_getElem _
  rw [List.getD, hg] at he
  exact hx (he ▸ List.getElem_mem _)
theorem insR_end {acc : List Int} {n : Int} (h : ∀ x ∈ acc, x < n) : insR acc n = acc ++ [n] := by
  have hx : n ∉ acc := fun hn => by have := h n hn; omega
  by_cases hp : acc = []
  · subst hp; simp [insR, posF]
  unfold insR
  have h2 : posF acc n acc.length = acc.length := by
    rcases hk : acc.length with _ | k
    · rfl
    · have hg : acc[k]? = some (acc[k]'(by omega)) := List.getElem?_eq_getElem _
      have := h _ (List.mem_of_getElem? hg)
      rw [posF, List.getD, hg, if_neg (by simp; omega)]
  rw [h2, if_neg, List.take_length, List.drop_length]
  rintro ⟨h0, he⟩
  have hg : acc[acc.length - 1]? = some (acc[acc.length - 1]'(by omega)) := List.getElem?_eq_getElem _
  rw [List.getD, hg] at he
  exact hx (he ▸ List.getElem_mem _)
theorem risL_go : ∀ (l acc : List Int), (acc ++ l).Pairwise (· < ·) → l.foldl insR acc = acc ++ l
  | [], acc, _ => by simp
  | x :: l, acc, h => by
    rw [List.foldl_cons, insR_end (fun y hy => (List.pairwise_append.1 h).2.2 y hy x (List.mem_cons_self ..)), risL_go l (acc ++ [x]) (by simpa using h)]
    simp
/-- One more, in its place. -/
theorem risL_new {p : List Int} {x : Int} (hs : p.Pairwise (· < ·)) (hx : x ∉ p) : risL (p ++ [x]) = p.take (lbI p x) ++ x :: p.drop (lbI p x) := by
  unfold risL
  rw [List.foldl_append, risL_go p [] (by simpa using hs)]
  exact insR_new hs hx
end Go.Proofs.YtfmkniakfgpgjaaDoor

/- the document's token layer: Spend. -/
namespace Go.Proofs.YtfmkniakfgpgjaaDoor
open Go.RowKit Go.KK Go.Shelf Go.Maps
set_option linter.unusedVariables false
set_option linter.unusedSimpArgs false

/-- What the document's Spend leaves. -/
def SpQ (w : World) (r : MT × Int) (e : Ending) (w' : World) : Prop := ∃ g p, e = .returned (.tuple #[mtV r.1 g p, .int .i64 r.2]) ∧ Below w.heap.size w w' ∧ w'.ownsRow w.heap.size 66 2 g r.1.g.length (cts r.1.g) ∧ w'.ownsRow w.heap.size 3 1 p r.1.p.length (r.1.p.map (.int .i64))
theorem own_no (w : World) (B : Nat) (e : TypeId) (size : Nat) : w.ownsRow B e size (.slice none 0 0) 0 [] := World.ownsRow_nil _ _ _ _
theorem spq_no {w w' : World} {e : Int} (h : Below w.heap.size w w') : SpQ w (mt0, e) (.returned (.tuple #[.agg #[.int .i64 0, .int .i64 0, .slice none 0 0, .slice none 0 0], .int .i64 e])) w' :=
  ⟨.slice none 0 0, .slice none 0 0, rfl, h, own_no _ _ _ _, own_no _ _ _ _⟩
theorem HasO.gr {cs : Array Value} {T e : TypeId} {b B size n : Nat} {w w' : World} {v : Value} {xs : List Value} (h : HasO (.cells cs T (0, 0)) b w) (hg : w.grownBy w' v.ownBlock) (ho : w.ownsRow B e size v n xs) (hne : T ≠ e) : HasO (.cells cs T (0, 0)) b w' := by
  refine (hg.block b h.lt fun eq => ?_).trans h
  obtain ⟨-, ⟨rfl, -⟩ | ⟨g, cap, cur, rfl, -, hh, -⟩⟩ := ho
  · cases eq
  · injection eq with eq
    subst eq
    unfold HasO at h
    simp only [h] at hh
    injection hh with hh
    injection hh with h1 h2 h3
    exact hne h2
theorem own_box {cs : Array Value} {T e : TypeId} {b c B size n : Nat} {w : World} {v : Value} {xs : List Value} (h : HasO (.cells cs T (0, 0)) c w) (ho : w.ownsRow B e size v n xs) (eq : v.ownBlock = some b) (hne : T ≠ e) : b ≠ c := by
  rintro rfl
  obtain ⟨-, ⟨rfl, -⟩ | ⟨g, cap, cur, rfl, -, hh, -⟩⟩ := ho
  · cases eq
  · injection eq with eq
    subst eq
    unfold HasO at h
    simp only [h] at hh
    injection hh with hh
    injection hh with h1 h2 h3
    exact hne h2
section
variable {w0 W W' : World} {Z Z' : Nat → Prop} {sb : Nat} {ys ys' : List ND}
set_option maxHeartbeats 4000000 in
set_option maxRecDepth 100000 in
theorem rspend_any (h : LQ w0 W Z sb ys) (m : MT) (Ag Ap : Option Addr) (cg cp : Nat) (hg : SlA W 2 Ag m.g.length cg (cts m.g)) (hp : SlA W 1 Ap m.p.length cp (m.p.map (.int .i64))) (ho : MtO m) (nonce sig : Int) :
    Calls Tryd.prog 19 #[.pointer (some ⟨sb, 0, none⟩), .agg #[.int .i64 m.k, .int .i64 m.q, .slice Ag m.g.length cg, .slice Ap m.p.length cp], .int .i64 nonce, .int .i64 sig] W (SpQ W (spF ys m nonce sig)) := by
  have H := hid h; have HG := hid hg; have HP := hid hp; have HO := hid ho
  have ok := h.ar.ok
  obtain ⟨j0, hj, hy0, hy1, hy2⟩ := info_parts Tryd.infoInt
  have hb : Below W.heap.size W ((W.alloc (.cells #[.int .i64 m.k, .int .i64 m.q, .slice Ag m.g.length cg, .slice Ap m.p.length cp] 31)).alloc (.cells #[.int .i64 0, .int .i64 0, .slice none 0 0, .slice none 0 0] 31)) := ((Below.refl _ _).alloc (Nat.le_refl _) _).alloc (by simp) _
  have hx0 : HasO (.cells #[.int .i64 m.k, .int .i64 m.q, .slice Ag m.g.length cg, .slice Ap m.p.length cp] 31 (0, 0)) W.heap.size ((W.alloc (.cells #[.int .i64 m.k, .int .i64 m.q, .slice Ag m.g.length cg, .slice Ap m.p.length cp] 31)).alloc (.cells #[.int .i64 0, .int .i64 0, .slice none 0 0, .slice none 0 0] 31)) := (HasO.new _ _).alloc
  have hx1 : HasO (.cells #[.int .i64 0, .int .i64 0, .slice none 0 0, .slice none 0 0] 31 (0, 0)) (W.heap.size + 1) ((W.alloc (.cells #[.int .i64 m.k, .int .i64 m.q, .slice Ag m.g.length cg, .slice Ap m.p.length cp] 31)).alloc (.cells #[.int .i64 0, .int .i64 0, .slice none 0 0, .slice none 0 0] 31)) := HasO.new' (by simp)
  have HS := hid (And.intro hb (And.intro hx0 hx1))
  have HF := hid (show spF ys m nonce sig = if kno ys [nonce, sig] then if (nodeF ys sig).o == 10 && (nodeF ys sig).l.getD 0 0 == m.k && (nodeF ys sig).l.getD 1 0 == nonce then if m.p.contains nonce then (mt0, 81) else (⟨m.k, m.q, m.g, m.p.take (lbI m.p nonce) ++ nonce :: m.p.drop (lbI m.p nonce)⟩, 0) else (mt0, 40) else (mt0, 1) from rfl)
  clear h hg hp ho hb hx0 hx1
  go_enter Tryd.func19, Tryd.ntmps19
  go_upto_region 1 with fail
  refine forget (R := fun V => Below W.heap.size W V ∧ HasO (.cells #[.int .i64 m.k, .int .i64 m.q, .slice Ag m.g.length cg, .slice Ap m.p.length cp] 31 (0, 0)) W.heap.size V ∧ HasO (.cells #[.int .i64 0, .int .i64 0, .slice none 0 0, .slice none 0 0] 31 (0, 0)) (W.heap.size + 1) V) ?_ HS.out
  clear HS
  rintro V ⟨hb, h0, h1⟩
  have HB := hid (hb.alloc hb.size (.cells #[.int .i64 nonce, .int .i64 sig] 3)); have H0 := hid (h0.alloc (o' := .cells #[.int .i64 nonce, .int .i64 sig] 3)); have H1 := hid (h1.alloc (o' := .cells #[.int .i64 nonce, .int .i64 sig] 3))
  clear hb h0 h1
  have HK := hid (rterm_any sb (V.alloc (.cells #[.int .i64 nonce, .int .i64 sig] 3)) (some ⟨V.heap.size, 0, none⟩) 2 2 [nonce, sig] (H.out.ext HB.out).ar.vw (sla_row #[.int .i64 nonce, .int .i64 sig] (by unfold maxLen; simp)) (by omega))
  go_wp2_with fail
  refine HK.out.mono ?_
  rintro e1 w1 ⟨rfl, hw1⟩
  subst hw1
  rcases hk : kno ys [nonce, sig] with _ | _
  · have HF1 := hid (show spF ys m nonce sig = (mt0, 1) by rw [HF.out, hk]; rfl)
    obtain ⟨⟨y0, y1, y2, y3⟩, f0, f1, f2, f3⟩ := mint4 H1.out
    clear HK hk HF H0 H1
    go_wp2_with fail
    refine bodyPost_ret (v := .tuple #[.agg #[.int .i64 0, .int .i64 0, .slice none 0 0, .slice none 0 0], .int .i64 1]) ?_ rfl ?_
    · rw [results_cell_tmp rfl]
      go_simp
    rw [HF1.out]
    exact spq_no (st4 HB.out (by omega) _ _ _ _)
  have hks : hasB ys nonce = true ∧ hasB ys sig = true := by
    unfold kno at hk
    simpa only [List.all_cons, List.all_nil, Bool.and_eq_true, and_true] using hk
  obtain ⟨hno, hsg⟩ := hks
  obtain ⟨i0, i1⟩ := has_iff.1 hsg
  obtain ⟨i, rfl⟩ := Int.eq_ofNat_of_zero_le i0
  have hi : i < ys.length := by omega
  obtain ⟨b, off, c, y0, hT⟩ := ar_tab (H.out.ext HB.out).ar.vw (by omega)
  obtain ⟨A, c', k0, k1, k2, k3, hl⟩ := hT i hi
  have HL := hid hl
  have HTW := hid (show (nodeF ys (i : Int)).o = 10 → ∃ a b, (nodeF ys (i : Int)).l = [a, b] ∧ hasB ys a = true ∧ hasB ys b = true from fun h => is_two ok (op := 10) (by unfold ndIs nodeE; rw [hsg, h]; rfl) rfl)
  have HF1 := hid (show spF ys m nonce (i : Int) = if (nodeF ys (i : Int)).o == 10 && (nodeF ys (i : Int)).l.getD 0 0 == m.k && (nodeF ys (i : Int)).l.getD 1 0 == nonce then if m.p.contains nonce then (mt0, 81) else (⟨m.k, m.q, m.g, m.p.take (lbI m.p nonce) ++ nonce :: m.p.drop (lbI m.p nonce)⟩, 0) else (mt0, 40) by rw [HF.out, hk]; rfl)
  clear hk HF hT hl HK
  generalize nodeF ys (i : Int) = x at *
  have hs : Below W.heap.size W ((V.alloc (.cells #[.int .i64 nonce, .int .i64 i] 3)).alloc (.cells #[.int .i64 x.o, .int .i64 x.n, .string x.s, .slice A x.l.length c'] 60)) ∧ HasO (.cells #[.int .i64 m.k, .int .i64 m.q, .slice Ag m.g.length cg, .slice Ap m.p.length cp] 31 (0, 0)) W.heap.size ((V.alloc (.cells #[.int .i64 nonce, .int .i64 i] 3)).alloc (.cells #[.int .i64 x.o, .int .i64 x.n, .string x.s, .slice A x.l.length c'] 60)) ∧ HasO (.cells #[.int .i64 0, .int .i64 0, .slice none 0 0, .slice none 0 0] 31 (0, 0)) (W.heap.size + 1) ((V.alloc (.cells #[.int .i64 nonce, .int .i64 i] 3)).alloc (.cells #[.int .i64 x.o, .int .i64 x.n, .string x.s, .slice A x.l.length c'] 60)) ∧ HasO (.cells #[.int .i64 x.o, .int .i64 x.n, .string x.s, .slice A x.l.length c'] 60 (0, 0)) (V.heap.size + 1) ((V.alloc (.cells #[.int .i64 nonce, .int .i64 i] 3)).alloc (.cells #[.int .i64 x.o, .int .i64 x.n, .string x.s, .slice A x.l.length c'] 60)) ∧ SlA ((V.alloc (.cells #[.int .i64 nonce, .int .i64 i] 3)).alloc (.cells #[.int .i64 x.o, .int .i64 x.n, .string x.s, .slice A x.l.length c'] 60)) 1 A x.l.length c' (x.l.map (.int .i64)) :=
    ⟨HB.out.alloc HB.out.size _, H0.out.alloc, H1.out.alloc, HasO.new' (by simp), HL.out.alloc _⟩
  have HS := hid hs
  clear hs HL
  go_upto_region 4 with fail
  clear H0 H1 HB y0 k0 k1 k2 k3
  refine forget (R := fun U => Below W.heap.size W U ∧ HasO (.cells #[.int .i64 m.k, .int .i64 m.q, .slice Ag m.g.length cg, .slice Ap m.p.length cp] 31 (0, 0)) W.heap.size U ∧ HasO (.cells #[.int .i64 0, .int .i64 0, .slice none 0 0, .slice none 0 0] 31 (0, 0)) (W.heap.size + 1) U ∧ HasO (.cells #[.int .i64 x.o, .int .i64 x.n, .string x.s, .slice A x.l.length c'] 60 (0, 0)) (V.heap.size + 1) U ∧ SlA U 1 A x.l.length c' (x.l.map (.int .i64))) ?_ HS.out
  clear HS
  rintro U ⟨hb, h0, h1, hx, hl⟩
  have HB := hid hb; have H0 := hid h0; have H1 := hid h1; have HX := hid hx; have HL := hid hl
  clear hb h0 h1 hx hl
  obtain ⟨cnd, hcnd⟩ : ∃ cnd : Bool, cnd = (x.o == 10 && x.l.getD 0 0 == m.k && x.l.getD 1 0 == nonce) := ⟨_, rfl⟩
  rw [← hcnd] at HF1
  have HC := hid hcnd
  clear hcnd
  go_cut [45] (fun v U' => v = .bool (!cnd) ∧ ∃ q, U' = U.drewN q)
  case first =>
    obtain ⟨x0, -, -, x3⟩ := has4 HX.out
    obtain ⟨z0, -, -, -⟩ := has4 H0.out
    by_cases h10 : x.o = 10
    case neg =>
      have h10' : (x.o != 10) = true := bne_iff_ne.2 h10
      have hc : cnd = false := by rw [HC.out, beq_eq_false_iff_ne.2 h10]; rfl
      clear h10
      go_quiet (fail)
      go_wp2_with fail
      go_meet
      exact ⟨by rw [hc]; rfl, _, rfl⟩
    have h10' : (x.o != 10) = false := by rw [h10]; rfl
    obtain ⟨s0, s1, hsl, -, -⟩ := HTW.out h10
    have hlen : x.l.length = 2 := by rw [hsl]; rfl
    have hlx := HL.out
    rw [hlen, hsl] at hlx
    rw [hlen] at x3
    obtain ⟨bb, oo, rfl, c0, c1⟩ := two_cells hlx
    have hc2 := HC.out
    rw [h10, hsl] at hc2
    clear h10 hsl hlen hlx HC HL
    by_cases hk : s0 = m.k
    case neg =>
      have hk' : (s0 != m.k) = true := bne_iff_ne.2 hk
      have hc : cnd = false := by rw [hc2]; simp [hk]
      clear hk hc2
      go_quiet (fail)
      go_wp2_with fail
      go_meet
      exact ⟨by rw [hc]; rfl, _, rfl⟩
    have hk' : (s0 != m.k) = false := by rw [hk]; simp
    by_cases hn : s1 = nonce
    case neg =>
      have hn' : (s1 != nonce) = true := bne_iff_ne.2 hn
      have hc : cnd = false := by rw [hc2]; simp [hn]
      clear hk hc2 hn
      go_quiet (fail)
      go_wp2_with fail
      go_meet
      exact ⟨by rw [hc]; rfl, _, rfl⟩
    have hn' : (s1 != nonce) = false := by rw [hn]; simp
    have hc : cnd = true := by rw [hc2]; simp [hn, hk]
    clear hk hc2 hn
    go_quiet (fail)
    go_wp2_with fail
    go_meet
    exact ⟨by rw [hc]; rfl, _, rfl⟩
  case rest =>
    obtain ⟨rfl, q, rfl⟩ := hcut
    have HB2 := hid (below_drewN HB.out q)
    have H02 := hid (show HasO _ W.heap.size (U.drewN q) from H0.out)
    have H12 := hid (show HasO _ (W.heap.size + 1) (U.drewN q) from H1.out)
    clear HB H0 H1 HX HL HC HTW
    generalize U.drewN q = U2 at *
    rcases cnd with _ | _
    · have HR := hid (show spF ys m nonce (i : Int) = (mt0, 40) by rw [HF1.out]; rfl)
      obtain ⟨⟨z0, z1, z2, z3⟩, f0, f1, f2, f3⟩ := mint4 H12.out
      go_wp2_with fail
      refine bodyPost_ret (v := .tuple #[.agg #[.int .i64 0, .int .i64 0, .slice none 0 0, .slice none 0 0], .int .i64 40]) ?_ rfl ?_
      · rw [results_cell_tmp rfl]
        go_simp
      rw [HR.out]
      exact spq_no (st4 HB2.out (by omega) _ _ _ _)
    obtain ⟨⟨m0, m1, m2, m3⟩, -⟩ := mint4 H02.out
    have HIN := hid (in_any Ap m.p.length cp m.p nonce U2 (HP.out.ext HB2.out) (by have := HO.out.pn; omega))
    rcases hcon : m.p.contains nonce with _ | _
    · have HR := hid (show spF ys m nonce (i : Int) = (⟨m.k, m.q, m.g, m.p.take (lbI m.p nonce) ++ nonce :: m.p.drop (lbI m.p nonce)⟩, 0) by rw [HF1.out, hcon]; rfl)
      have HRL := hid (risL_new HO.out.p (x := nonce) (by simpa using hcon))
      obtain ⟨np, hnp⟩ : ∃ np : List Int, np = m.p.take (lbI m.p nonce) ++ nonce :: m.p.drop (lbI m.p nonce) := ⟨_, rfl⟩
      rw [← hnp] at HR HRL
      clear hnp
      rw [show inB m.p nonce = false from hcon] at HIN
      have HCP := hid (rcopy17_any m Ag Ap cg cp U2 (HG.out.ext HB2.out) (HP.out.ext HB2.out) HO.out.n HO.out.pn)
      clear hcon
      go_upto_region 9 with (first
        | (go_at_call 44; refine HIN.out.mono ?_; rintro e5 w5 ⟨rfl, hw5⟩; subst hw5)
        | (go_at_call 10; refine HCP.out.mono ?_; rintro e5 w5 ⟨g5, p5, rfl, b5, n5, og5, op5⟩; unfold mtV; obtain ⟨Ag5, cg5, rfl, -⟩ := SlA.owned og5; obtain ⟨Ap5, cp5, rfl, -⟩ := SlA.owned op5; have B5 := hid b5; have OG5 := hid og5; have OP5 := hid op5; clear b5 n5 og5 op5)
        | fail)
      have hlt : W.heap.size + 1 < w5.heap.size := Nat.lt_of_lt_of_le H12.out.lt B5.out.size
      have hs : Below W.heap.size W (w5.alloc (.cells #[.int .i64 m.k, .int .i64 m.q, .slice Ag5 m.g.length cg5, .slice Ap5 m.p.length cp5] 31)) ∧ HasO (.cells #[.int .i64 0, .int .i64 0, .slice none 0 0, .slice none 0 0] 31 (0, 0)) (W.heap.size + 1) (w5.alloc (.cells #[.int .i64 m.k, .int .i64 m.q, .slice Ag5 m.g.length cg5, .slice Ap5 m.p.length cp5] 31)) ∧ HasO (.cells #[.int .i64 m.k, .int .i64 m.q, .slice Ag5 m.g.length cg5, .slice Ap5 m.p.length cp5] 31 (0, 0)) w5.heap.size (w5.alloc (.cells #[.int .i64 m.k, .int .i64 m.q, .slice Ag5 m.g.length cg5, .slice Ap5 m.p.length cp5] 31)) ∧ (w5.alloc (.cells #[.int .i64 m.k, .int .i64 m.q, .slice Ag5 m.g.length cg5, .slice Ap5 m.p.length cp5] 31)).ownsRow (W.heap.size + 2) 66 2 (.slice Ag5 m.g.length cg5) m.g.length (cts m.g) ∧ (w5.alloc (.cells #[.int .i64 m.k, .int .i64 m.q, .slice Ag5 m.g.length cg5, .slice Ap5 m.p.length cp5] 31)).ownsRow (W.heap.size + 2) 3 1 (.slice Ap5 m.p.length cp5) m.p.length (m.p.map (.int .i64)) :=
        ⟨(HB2.out.trans (B5.out.mono HB2.out.size)).alloc (by omega) _, (H12.out.bel B5.out).alloc, HasO.new _ _, (own_mono OG5.out (by have := H12.out.lt; omega)).alloc _, (own_mono OP5.out (by have := H12.out.lt; omega)).alloc _⟩
      have HS := hid hs
      clear hs HCP HIN B5 OG5 OP5 H02 H12 HB2 m0 m1 m2 m3 HF1
      have HLT := hid hlt
      clear hlt
      generalize w5.heap.size = bx at *
      refine forget (R := fun U => Below W.heap.size W U ∧ HasO (.cells #[.int .i64 0, .int .i64 0, .slice none 0 0, .slice none 0 0] 31 (0, 0)) (W.heap.size + 1) U ∧ HasO (.cells #[.int .i64 m.k, .int .i64 m.q, .slice Ag5 m.g.length cg5, .slice Ap5 m.p.length cp5] 31 (0, 0)) bx U ∧ U.ownsRow (W.heap.size + 2) 66 2 (.slice Ag5 m.g.length cg5) m.g.length (cts m.g) ∧ U.ownsRow (W.heap.size + 2) 3 1 (.slice Ap5 m.p.length cp5) m.p.length (m.p.map (.int .i64))) ?_ HS.out
      clear HS
      rintro V9 ⟨hb, h1, hx, hog, hop⟩
      have HB := hid hb; have H1 := hid h1; have HX := hid hx; have OG := hid hog; have OP := hid hop
      clear hb h1 hx hog hop
      obtain ⟨⟨-, -, -, x3⟩, -⟩ := mint4 HX.out
      have hpn := HO.out.pn
      go_upto_region 10 with (first
        | (at_builtin; go_loud (refine wpList_append_sl _ rfl _ _ 29 rfl (W.heap.size + 2) 3 j0 (.int .i64 0) 1 8 Tryd.underlying29 hj hy0 hy1 hy2 rfl (by decide) (.slice Ap5 m.p.length cp5) m.p.length (m.p.map (.int .i64)) rfl (OP.out.alloc _) _ 1 1 [.int .i64 nonce] rfl (SlA.lit1 _) (one_int _ _) (by unfold maxLen; omega) (by omega) (by have := H1.out.lt; simp; omega) ?_; intro v6 w6 own6 gr6 loc6; obtain ⟨A6, c6, rfl, s6⟩ := SlA.owned own6; have S6 := hid (show SlA w6 1 A6 (m.p.length + 1) c6 ((m.p ++ [nonce]).map (.int .i64)) by rw [List.map_append]; exact s6); have B6 := hid (below_append (HB.out.alloc HB.out.size _) gr6 (OP.out.alloc _) (by omega) (HB.out.alloc HB.out.size _).size); have H16 := hid (HasO.gr (HasO.alloc H1.out) gr6 (OP.out.alloc _) (by decide)); have HX6 := hid (HasO.gr (HasO.alloc HX.out) gr6 (OP.out.alloc _) (by decide)); have OG6 := hid (own_grown (OG.out.alloc _) gr6 (OP.out.alloc _) (by decide)); clear own6 gr6 loc6 s6))
        | (go_at_call 45; refine (rising_any A6 (m.p.length + 1) c6 (m.p ++ [nonce]) _ S6.out (by omega)).mono ?_; rintro e7 w7 ⟨v7, rfl, own7, b7⟩; rw [HRL.out] at own7; obtain ⟨A7, c7, rfl, -⟩ := SlA.owned own7; have B7 := hid (B6.out.trans (b7.mono B6.out.size)); have H17 := hid (HasO.bel H16.out b7); have HX7 := hid (HasO.bel HX6.out b7); have OG7 := hid (own_ext OG6.out b7); have OP7 := hid (own_mono own7 (show W.heap.size + 2 ≤ w6.heap.size by have := H16.out.lt; omega)); have x37 := (mint4 HX7.out).1.2.2.2; have f37 := (mint4 HX7.out).2.2.2.2; clear own7 b7)
        | fail)
      have hs2 : Below W.heap.size W (w7.setCell ⟨bx, 3, none⟩ (.slice A7 np.length c7)) ∧ HasO (.cells #[.int .i64 0, .int .i64 0, .slice none 0 0, .slice none 0 0] 31 (0, 0)) (W.heap.size + 1) (w7.setCell ⟨bx, 3, none⟩ (.slice A7 np.length c7)) ∧ HasO (.cells #[.int .i64 m.k, .int .i64 m.q, .slice Ag5 m.g.length cg5, .slice A7 np.length c7] 31 (0, 0)) bx (w7.setCell ⟨bx, 3, none⟩ (.slice A7 np.length c7)) ∧ (w7.setCell ⟨bx, 3, none⟩ (.slice A7 np.length c7)).ownsRow (W.heap.size + 2) 66 2 (.slice Ag5 m.g.length cg5) m.g.length (cts m.g) ∧ (w7.setCell ⟨bx, 3, none⟩ (.slice A7 np.length c7)).ownsRow (W.heap.size + 2) 3 1 (.slice A7 np.length c7) np.length (np.map (.int .i64)) := by
        have hl := HLT.out
        refine ⟨B7.out.setCell (p := ⟨bx, 3, none⟩) (by show W.heap.size ≤ bx; omega) _, HasO.far H17.out (by show W.heap.size + 1 ≠ bx; omega) _, HasO.put HX7.out 3 _, ?_, ?_⟩
        · exact own_block OG7.out fun b hb => heap_setCell_other _ _ _ _ (own_box HX7.out OG7.out hb (by decide))
        · exact own_block OP7.out fun b hb => heap_setCell_other _ _ _ _ (own_box HX7.out OP7.out hb (by decide))
      have HS := hid hs2
      clear hs2 B7 H17 HX7 OG7 OP7 x37 f37 S6 B6 H16 HX6 OG6 HB H1 HX OG OP x3
      generalize w7.setCell ⟨bx, 3, none⟩ (.slice A7 np.length c7) = W10 at *
      obtain ⟨hb, h1, hx, hog, hop⟩ := HS.out
      obtain ⟨⟨x0, x1, x2, x3⟩, -⟩ := mint4 hx
      obtain ⟨⟨z0, z1, z2, z3⟩, f0, f1, f2, f3⟩ := mint4 h1
      have HB := hid hb; have OG := hid hog; have OP := hid hop
      clear HS hb h1 hx hog hop
      go_wp2_with fail
      refine bodyPost_ret (v := .tuple #[.agg #[.int .i64 m.k, .int .i64 m.q, .slice Ag5 m.g.length cg5, .slice A7 np.length c7], .int .i64 0]) ?_ rfl ?_
      · rw [results_cell_tmp rfl]
        go_simp
      rw [HR.out]
      refine ⟨.slice Ag5 m.g.length cg5, .slice A7 np.length c7, rfl, st4 HB.out (by omega) _ _ _ _, ?_, ?_⟩
      · exact own_mono (own_away (own_away (own_away (own_away OG.out (by simp) _) (by simp) _) (by simp) _) (by simp) _) (by omega)
      · exact own_mono (own_away (own_away (own_away (own_away OP.out (by simp) _) (by simp) _) (by simp) _) (by simp) _) (by omega)
    · have HR := hid (show spF ys m nonce (i : Int) = (mt0, 81) by rw [HF1.out, hcon]; rfl)
      rw [show inB m.p nonce = true from hcon] at HIN
      obtain ⟨⟨z0, z1, z2, z3⟩, f0, f1, f2, f3⟩ := mint4 H12.out
      clear hcon
      go_wp2_with fail
      refine HIN.out.mono ?_
      rintro e5 w5 ⟨rfl, hw5⟩
      subst hw5
      go_wp2_with fail
      refine bodyPost_ret (v := .tuple #[.agg #[.int .i64 0, .int .i64 0, .slice none 0 0, .slice none 0 0], .int .i64 81]) ?_ rfl ?_
      · rw [results_cell_tmp rfl]
        go_simp
      rw [HR.out]
      exact spq_no (st4 HB2.out (by omega) _ _ _ _)
end
end Go.Proofs.YtfmkniakfgpgjaaDoor

