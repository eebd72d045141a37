import Derived.Test.YtkgobglmkhkbbaaGreatDoorZ07
/- schedule: what the closures of Begin make. -/
namespace Go.Proofs.YtkgobglmkhkbbaaGreatDoor
open Go.RowKit Go.KK Go.Shelf Go.Maps
set_option linter.unusedVariables false
set_option linter.unusedSimpArgs false

section
variable {w0 W : World} {Z : Nat → Prop} {sa H : Nat} {xs : List ND} {j p x : Int} {ep : List Int} {first mem ext : Int}
theorem cl_2 (h : LA w0 W Z sa xs) (hT : Tb w0.heap.size w0) (hb : BgM W Z H (BgB sa j p x ep first mem ext)) (hj : I64 j) (hp : I64 p) :
    Calls Tryz.prog 61 #[.pointer (some ⟨H, 0, none⟩), .pointer (some ⟨H + 1, 0, none⟩), .pointer (some ⟨H + 2, 0, none⟩)] W (LrS w0 W Z sa (exF xs j p)) := by
  have c0 := hb.cell (k := 0) (o := 0) (by omega) rfl
  rw [Nat.add_zero] at c0
  have c1 := hb.cell (k := 1) (o := 0) (by omega) rfl
  have c2 := hb.cell (k := 2) (o := 0) (by omega) rfl
  have HM := hid (l_ex h hT hj hp)
  clear h hT hb
  unfold LrS at HM ⊢
  generalize exF xs j p = r at *
  go_enter Tryz.func61, Tryz.ntmps61
  go_wp2_with fail
  refine HM.out.mono ?_
  rintro e w2 ⟨Z2, rfl, l2, m2⟩
  have L2 := hid l2; have M2 := hid m2
  clear l2 m2 HM
  go_wp2_with fail
  go_ret2
  exact ⟨Z2, rfl, L2.out, M2.out⟩
theorem cl_3 (h : LA w0 W Z sa xs) (hT : Tb w0.heap.size w0) (hb : BgM W Z H (BgB sa j p x ep first mem ext)) (hm : I64 mem) :
    Calls Tryz.prog 62 #[.pointer (some ⟨H, 0, none⟩), .pointer (some ⟨H + 7, 0, none⟩)] W (LrS w0 W Z sa (dvF xs mem lbWelcome)) := by
  have c0 := hb.cell (k := 0) (o := 0) (by omega) rfl
  rw [Nat.add_zero] at c0
  have c1 := hb.cell (k := 7) (o := 0) (by omega) rfl
  have HM := hid (l_dv h hT hm lbWelcome)
  clear h hT hb
  unfold LrS at HM ⊢
  generalize dvF xs mem lbWelcome = r at *
  unfold lbWelcome at HM
  go_enter Tryz.func62, Tryz.ntmps62
  go_wp2_with fail
  refine HM.out.mono ?_
  rintro e w2 ⟨Z2, rfl, l2, m2⟩
  have L2 := hid l2; have M2 := hid m2
  clear l2 m2 HM
  go_wp2_with fail
  go_ret2
  exact ⟨Z2, rfl, L2.out, M2.out⟩
theorem cl_4 (h : LA w0 W Z sa xs) (hT : Tb w0.heap.size w0) (hb : BgM W Z H (BgB sa j p x ep first mem ext)) (hm : I64 mem) (hx : I64 x) :
    Calls Tryz.prog 64 #[.pointer (some ⟨H, 0, none⟩), .pointer (some ⟨H + 7, 0, none⟩), .pointer (some ⟨H + 3, 0, none⟩)] W (LrS w0 W Z sa (exdF xs mem lbEpoch x)) := by
  have c0 := hb.cell (k := 0) (o := 0) (by omega) rfl
  rw [Nat.add_zero] at c0
  have c1 := hb.cell (k := 7) (o := 0) (by omega) rfl
  have c2 := hb.cell (k := 3) (o := 0) (by omega) rfl
  have HM := hid (l_exd h hT hm hx lbEpoch)
  clear h hT hb
  unfold LrS at HM ⊢
  generalize exdF xs mem lbEpoch x = r at *
  unfold lbEpoch at HM
  go_enter Tryz.func64, Tryz.ntmps64
  go_wp2_with fail
  refine HM.out.mono ?_
  rintro e w2 ⟨Z2, rfl, l2, m2⟩
  have L2 := hid l2; have M2 := hid m2
  clear l2 m2 HM
  go_wp2_with fail
  go_ret2
  exact ⟨Z2, rfl, L2.out, M2.out⟩
theorem cl_5 (h : LA w0 W Z sa xs) (hT : Tb w0.heap.size w0) (hb : BgM W Z H (BgB sa j p x ep first mem ext)) (he : I64 (ep.getD 2 0)) (h11 : ep.length = 11) {tb : Nat} {lab : ByteArray} (ht : W.cell? ⟨tb, 1, none⟩ = some (.string lab)) :
    Calls Tryz.prog 66 #[.pointer (some ⟨H, 0, none⟩), .pointer (some ⟨H + 5, 0, none⟩), .pointer (some ⟨tb, 0, none⟩)] W (LrS w0 W Z sa (dvF xs (ep.getD 2 0) lab)) := by
  have c0 := hb.cell (k := 0) (o := 0) (by omega) rfl
  rw [Nat.add_zero] at c0
  have c1 := hb.cell (k := 5) (o := 2) (v := .int .i64 (ep.getD 2 0)) (by omega) (by
    show ((ep.map (Value.int .i64)).toArray)[2]? = _
    rw [List.getElem?_toArray, List.getElem?_map, List.getD, List.getElem?_eq_getElem (by omega)]; rfl)
  have HM := hid (l_dv h hT he lab)
  clear h hT hb h11
  unfold LrS at HM ⊢
  generalize dvF xs (ep.getD 2 0) lab = r at *
  generalize ep.getD 2 0 = e2 at *
  go_enter Tryz.func66, Tryz.ntmps66
  go_wp2_with fail
  refine HM.out.mono ?_
  rintro e w2 ⟨Z2, rfl, l2, m2⟩
  have L2 := hid l2; have M2 := hid m2
  clear l2 m2 HM
  go_wp2_with fail
  go_ret2
  exact ⟨Z2, rfl, L2.out, M2.out⟩
theorem cl_6 (h : LA w0 W Z sa xs) (hT : Tb w0.heap.size w0) (hb : BgM W Z H (BgB sa j p x ep first mem ext)) (he : I64 ext) :
    Calls Tryz.prog 67 #[.pointer (some ⟨H, 0, none⟩), .pointer (some ⟨H + 8, 0, none⟩)] W (LrS w0 W Z sa (pbF xs ext)) := by
  have c0 := hb.cell (k := 0) (o := 0) (by omega) rfl
  rw [Nat.add_zero] at c0
  have c1 := hb.cell (k := 8) (o := 0) (by omega) rfl
  have HM := hid (l_pb h hT he)
  clear h hT hb
  unfold LrS at HM ⊢
  generalize pbF xs ext = r at *
  go_enter Tryz.func67, Tryz.ntmps67
  go_wp2_with fail
  refine HM.out.mono ?_
  rintro e w2 ⟨Z2, rfl, l2, m2⟩
  have L2 := hid l2; have M2 := hid m2
  clear l2 m2 HM
  go_wp2_with fail
  go_ret2
  exact ⟨Z2, rfl, L2.out, M2.out⟩
end
end Go.Proofs.YtkgobglmkhkbbaaGreatDoor

/- schedule: Begin. -/
namespace Go.KK
open Go.RowKit
set_option linter.unusedVariables false
set_option linter.unusedSimpArgs false
theorem getD_snoc {acc : List Int} {a : Int} {n : Nat} (h : acc.length = n) (i : Nat) : (acc ++ [a]).getD i 0 = if i = n then a else acc.getD i 0 := by
  subst h
  rw [List.getD, List.getD]
  by_cases h1 : i = acc.length
  · subst h1
    rw [if_pos rfl, List.getElem?_append_right (Nat.le_refl _), Nat.sub_self]; rfl
  · rw [if_neg h1]
    by_cases h2 : i < acc.length
    · rw [List.getElem?_append_left h2]
    · rw [List.getElem?_eq_none (by simp; omega), List.getElem?_eq_none (by omega)]
theorem run_take {xs : List ND} {fs : List (List Int → List ND → Rs)} {k : Nat} {f : List Int → List ND → Rs} (h : fs[k]? = some f) : runF xs [] (fs.take (k + 1)) = rnS (runF xs [] (fs.take k)) f := by
  rw [take_one h, run_snoc]
end Go.KK
namespace Go.Proofs.YtkgobglmkhkbbaaGreatDoor
open Go.RowKit Go.KK Go.Shelf Go.Maps

/-- An epoch's value. -/
def epV (ep : List Int) : Value := .agg (ep.map (.int .i64)).toArray
/-- A call that makes an epoch. -/
def EpS (w0 W : World) (Z : Nat → Prop) (sa : Nat) (r : List ND × List Int × Int) (e : Ending) (w' : World) : Prop := ∃ Z', e = .returned (.tuple #[epV r.2.1, .int .i64 r.2.2]) ∧ LA w0 w' Z' sa r.1 ∧ Mv Z W Z' w'
theorem Mv.step {Z Z1 Z2 : Nat → Prop} {W W1 W2 : World} {H : Nat} (a : Mv Z W Z1 W1) (ht : Turn (fun b => Z1 b ∨ H ≤ b) W1 W2) (hn : ∀ b, Z2 b → Z1 b ∨ W1.heap.size ≤ b) (hH : W.heap.size ≤ H) : Mv Z W Z2 W2 :=
  ⟨a.t.trans ht (fun k hk => hk.elim (a.n k) fun h => .inr (Nat.le_trans hH h)), fun k hk => (hn k hk).elim (a.n k) fun h => .inr (Nat.le_trans a.t.size h)⟩
theorem bgb_mem {sa k : Nat} {j p x : Int} {ep : List Int} {e e' m m' ext : Int} (h7 : k ≠ 7) (h6 : k ≠ 6) : BgB sa j p x ep e m ext k = BgB sa j p x ep e' m' ext k := by
  unfold BgB; split <;> simp_all
theorem bgb_ext {sa k : Nat} {j p x : Int} {ep : List Int} {e e' m ext ext' : Int} (h7 : k ≠ 8) (h6 : k ≠ 6) : BgB sa j p x ep e m ext k = BgB sa j p x ep e' m ext' k := by
  unfold BgB; split <;> simp_all
theorem bgb_ep {sa k : Nat} {j p x : Int} {ep ep' : List Int} {e e' m ext : Int} (h7 : k ≠ 5) (h6 : k ≠ 6) : BgB sa j p x ep e m ext k = BgB sa j p x ep' e' m ext k := by
  unfold BgB; split <;> simp_all
theorem bgb_set {sa : Nat} {j p x : Int} {ep : List Int} {e e' m ext a : Int} (q : Nat) : BgB sa j p x (ep.set q a) e m ext 5 = (BgB sa j p x ep e' m ext 5).setIfInBounds q (.int .i64 a) := by
  show ((ep.set q a).map (Value.int .i64)).toArray = ((ep.map (Value.int .i64)).toArray).setIfInBounds q (.int .i64 a)
  rw [List.map_set]; simp
theorem bgb_at {sa : Nat} {j p x : Int} {ep : List Int} {e m ext : Int} {q : Nat} (h : q < ep.length) : (BgB sa j p x ep e m ext 5)[q]? = some (.int .i64 (ep.getD q 0)) := by
  show ((ep.map (Value.int .i64)).toArray)[q]? = _
  rw [List.getElem?_toArray, List.getElem?_map, List.getD, List.getElem?_eq_getElem h]; rfl
theorem i64_getD {l : List Int} (h : ∀ a ∈ l, I64 a) (i : Nat) : I64 (l.getD i 0) := by
  rw [List.getD]
  rcases hi : l[i]? with _ | a
  · exact ⟨by decide, by decide⟩
  · exact h a (List.mem_of_getElem? hi)
/-- Where Begin stands behind so many steps. -/
structure BgI (w0 W : World) (Z : Nat → Prop) (sa : Nat) (j p x : Int) (R : List ND × List Int × Int) (wr : World) (Zr : Nat → Prop) (ep : List Int) (mem ext : Int) : Prop where
  la : LA w0 wr Zr sa R.1
  mv : Mv Z W Zr wr
  bg : BgM wr Zr W.heap.size (BgB sa j p x ep R.2.2 mem ext)
  l11 : ep.length = 11
  i64 : R.2.2 = 0 → ∀ a ∈ R.2.1, I64 a
  ok : R.2.2 = 0 → ep = epL j R.2.1 ∧ mem = R.2.1.getD 0 0 ∧ ext = R.2.1.getD 10 0
section
variable {w0 W : World} {Z : Nat → Prop} {sa : Nat} {xs : List ND} {j p x : Int}
theorem BgI.next {R : List ND × List Int × Int} {wr w' : World} {Zr : Nat → Prop} {ep : List Int} {mem ext : Int} (h : BgI w0 W Z sa j p x R wr Zr ep mem ext) {f : List Int → List ND → Rs} {ep' : Int → List Int} {mem' ext' : Int → Int} {e : Ending}
    (hd : DoS w0 wr Zr sa W.heap.size j p x R f (fun _ => ep) ep' (fun _ => mem) mem' (fun _ => ext) ext' e w') (hsb : Sb (f R.2.1)) (hl : ∀ a, (ep' a).length = 11)
    (hs : R.2.2 = 0 → ∀ a, ep' a = epL j (R.2.1 ++ [a]) ∧ mem' a = (R.2.1 ++ [a]).getD 0 0 ∧ ext' a = (R.2.1 ++ [a]).getD 10 0) :
    e = .returned (.tuple #[]) ∧ ∃ Z' ep2 mem2 ext2, BgI w0 W Z sa j p x (rnS R f) w' Z' ep2 mem2 ext2 := by
  obtain ⟨he, Z', h1, h2, h3, h4, h5⟩ := hd
  refine ⟨he, Z', ?_⟩
  have hm := h.mv.step h2 h3 (Nat.le_refl _)
  by_cases h0 : R.2.2 = 0
  · have hb := h4 h0
    have e1 : rnS R f = (if (f R.2.1 R.1).2.2 = 0 then ((f R.2.1 R.1).1, R.2.1 ++ [(f R.2.1 R.1).2.1], 0) else ((f R.2.1 R.1).1, R.2.1, (f R.2.1 R.1).2.2)) := by unfold rnS; rw [if_pos h0]
    by_cases h6 : (f R.2.1 R.1).2.2 = 0
    · rw [if_pos h6] at e1
      rw [h6] at hb
      rw [e1] at h1 ⊢
      have hi : I64 (f R.2.1 R.1).2.1 := by
        have a := has_iff.1 (hsb.has R.1 h6)
        have b := h1.ar.ok.len
        try dsimp only at b
        exact ⟨by omega, by omega⟩
      refine ⟨ep' (f R.2.1 R.1).2.1, mem' (f R.2.1 R.1).2.1, ext' (f R.2.1 R.1).2.1, h1, hm, hb, hl _, fun _ a ha => ?_, fun _ => hs h0 _⟩
      rcases List.mem_append.1 ha with ha | ha
      · exact h.i64 h0 a ha
      · rw [List.mem_singleton] at ha; subst ha; exact hi
    · rw [if_neg h6] at e1
      rw [e1] at h1 ⊢
      exact ⟨ep' (f R.2.1 R.1).2.1, mem' (f R.2.1 R.1).2.1, ext' (f R.2.1 R.1).2.1, h1, hm, hb, hl _, fun h => absurd h h6, fun h => absurd h h6⟩
  · have e1 : rnS R f = R := by unfold rnS; rw [if_neg h0]
    rw [e1] at h1 ⊢
    exact ⟨ep, mem, ext, h1, hm, h5 h0, h.l11, fun h => absurd h h0, fun h => absurd h h0⟩
/-- The variables as they are made. -/
theorem bg_new (h : LA w0 W Z sa xs) : BgM (((((((((W.alloc (.cells #[.pointer (some ⟨sa, 0, none⟩)] 25)).alloc (.cells #[.int .i64 j] 3)).alloc (.cells #[.int .i64 p] 3)).alloc (.cells #[.int .i64 x] 3)).alloc (.cells #[.int .i64 0, .int .i64 0, .int .i64 0, .int .i64 0, .int .i64 0, .int .i64 0, .int .i64 0, .int .i64 0, .int .i64 0, .int .i64 0, .int .i64 0] 30)).alloc (.cells #[.int .i64 j, .int .i64 0, .int .i64 0, .int .i64 0, .int .i64 0, .int .i64 0, .int .i64 0, .int .i64 0, .int .i64 0, .int .i64 0, .int .i64 0] 30)).alloc (.cells #[.int .i64 0] 31)).alloc (.cells #[.int .i64 0] 3)).alloc (.cells #[.int .i64 0] 3)) Z W.heap.size (BgB sa j p x (epL j []) 0 0 0) := by
  refine ⟨fun k hk => ?_, fun k hk hz => by have := h.ar.zlt _ hz; omega⟩
  have : k = 0 ∨ k = 1 ∨ k = 2 ∨ k = 3 ∨ k = 4 ∨ k = 5 ∨ k = 6 ∨ k = 7 ∨ k = 8 := by omega
  rcases this with rfl | rfl | rfl | rfl | rfl | rfl | rfl | rfl | rfl
  all_goals
    simp only [World.alloc, Array.getElem?_push, Array.size_push]
    repeat (first | rw [if_neg (by omega)] | rw [if_pos (by omega)])
    rfl
end
end Go.Proofs.YtkgobglmkhkbbaaGreatDoor

/- the document's Psk, Begin. -/
namespace Go.Proofs.YtkgobglmkhkbbaaGreatDoor
open Go.RowKit Go.KK Go.Shelf Go.Maps
set_option linter.unusedVariables false
set_option linter.unusedSimpArgs false

theorem sla_tq {w : World} {A : Option Addr} {n c : Nat} {l : List Int} (h : SlA w 1 A n c (l.map (.int .i64))) (hl : l.length = n) {p : Nat} (hp : p ≤ n) : SlA w 1 A p c ((l.take p).map (.int .i64)) := by
  have := h.nc
  refine ⟨by omega, h.cm, by rw [List.length_map, List.length_take]; omega, fun j u hj => h.cells j u ?_⟩
  rw [List.getElem?_map, List.getElem?_take] at hj
  split at hj
  · rw [List.getElem?_map]; exact hj
  · cases hj
theorem SlM.cut {W : World} {Z : Nat → Prop} {A : Option Addr} {n c : Nat} {l : List Int} (h : SlM W Z A n c l) {k : Nat} (hk : k ≤ n) : SlM W Z A k c (l.take k) :=
  ⟨sla_tq h.1 h.1.lenI hk, fun b o e h0 => h.2 b o e (by omega)⟩
section
variable {w0 W W' : World} {Z Z' : Nat → Prop} {sa : Nat} {xs xs' : List ND}
set_option maxHeartbeats 2000000 in
set_option maxRecDepth 100000 in
theorem q_psk : ∀ (n : Nat) {W : World} {Z : Nat → Prop} {xs : List ND} {A : Option Addr} {c : Nat} {l : List Int}, LQ w0 W Z sa xs → SlM W Z A n c l → n ≤ 100000 → (∀ i ∈ l, I64 i) →
    Calls Tryz.prog 69 #[.pointer (some ⟨sa, 0, none⟩), .slice A n c] W (LrQ w0 W Z sa (pskF xs l)) := by
  intro n
  induction n with
  | zero =>
    intro W Z xs A c l h hl hn hi
    obtain rfl : l = [] := List.eq_nil_of_length_eq_zero hl.1.lenI
    have HX := hid (q_text h ⟨#[]⟩)
    clear h hl hi
    go_enter Tryz.func69, Tryz.ntmps69
    go_wp2_with fail
    refine HX.out.mono ?_
    rintro e w2 ⟨Z2, rfl, l2, m2⟩
    have L2 := hid l2; have M2 := hid m2
    clear l2 m2 HX
    go_wp2_with fail
    go_ret2
    exact (show LrQ _ _ _ _ _ _ _ from ⟨Z2, rfl, L2.out, M2.out⟩)
  | succ k ih =>
    intro W Z xs A c l h hl hn hi
    have HL := hid hl; have HI := hid hi
    have hlen := hl.1.lenI
    have HP := hid (ih (l := l.take k) h (hl.cut (Nat.le_succ k)) (by omega) (fun i hi' => hi i (List.mem_of_mem_take hi')))
    have hcc : k ≤ c := by have := hl.1.nc; omega
    obtain ⟨b, off, y, rfl, hy, -⟩ := hl.1.elemI (Nat.lt_succ_self k)
    have hyi : I64 y := hi y (List.mem_of_getElem? hy)
    have htk : l.take (k + 1) = l := List.take_of_length_le (by omega)
    have hcut := run_cut_to6 (P := Tryz.prog) (A := some ⟨b, off, none⟩) (n := k + 1) (c := c) Tryz.underlying22 (fun W => Tryz.sizeOf3 W) hcc
    have hne0 : ¬ ((k : Int) + 1 = 0) := by omega
    by_cases he : (pskF xs (l.take k)).2.2 = 0
    · have HF := hid (show pskF xs l = exF (pskF xs (l.take k)).1 (pskF xs (l.take k)).2.1 y by
        have := psk_one (xs := xs) hy he
        rwa [htk] at this)
      have hpi : I64 (pskF xs (l.take k)).2.1 ∨ True := .inr trivial
      have HPI := hid (fun U Zq (hla : LQ w0 U Zq sa (pskF xs (l.take k)).1) => (show I64 (pskF xs (l.take k)).2.1 from by
        have a := has_iff.1 ((sb_psk (l.take k)).has xs he)
        have b := hla.ar.ok.len
        try dsimp only at a b
        exact ⟨by omega, by omega⟩))
      rw [HF.out]
      unfold LrQ at HP
      rw [he] at HP
      have HY := hid hy
      clear he h hl hi hy hlen htk hpi HF ih
      generalize pskF xs (l.take k) = r at *
      obtain ⟨Y, m, er⟩ := r
      obtain ⟨r, hr⟩ : ∃ r : Rs, r = exF Y m y := ⟨_, rfl⟩
      rw [← hr]
      have HR := hid hr
      clear hr
      go_enter Tryz.func69, Tryz.ntmps69
      go_wp2_with fail
      refine HP.out.mono ?_
      rintro e w2 ⟨Z2, rfl, l2, m2⟩
      obtain ⟨b1, o1, y1, e1, hy1, hcy⟩ := (HL.out.mv m2).1.elemI (Nat.lt_succ_self k)
      injection e1 with e1
      injection e1 with e1 e2
      subst e1; subst e2
      have ey : y1 = y := Option.some.inj (hy1.symm.trans HY.out)
      subst ey
      have HX := hid (q_mix l2 (HPI.out _ _ l2) hyi)
      rw [← HR.out] at HX
      have M2 := hid m2
      clear l2 m2 HP hy1
      go_wp2_with fail
      refine HX.out.mono ?_
      rintro e w3 ⟨Z3, rfl, l3, m3⟩
      have L3 := hid l3; have M3 := hid (M2.out.trans m3)
      clear l3 m3 HX
      go_wp2_with fail
      go_ret2
      exact (show LrQ _ _ _ _ _ _ _ from ⟨Z3, rfl, L3.out, M3.out⟩)
    · have HF := hid (show pskF xs l = ((pskF xs (l.take k)).1, 0, (pskF xs (l.take k)).2.2) by
        exact psk_stuck (xs := xs) (l := l) (j := k) (by omega) he)
      rw [HF.out]
      unfold LrQ at HP
      have hne : ((pskF xs (l.take k)).2.2 != 0) = true := bne_iff_ne.2 he
      clear he h hl hi hy hlen htk HF ih
      generalize pskF xs (l.take k) = r at *
      obtain ⟨Y, m, er⟩ := r
      go_enter Tryz.func69, Tryz.ntmps69
      go_wp2_with fail
      refine HP.out.mono ?_
      rintro e w2 ⟨Z2, rfl, l2, m2⟩
      have L2 := hid l2; have M2 := hid m2
      clear l2 m2 HP
      go_wp2_with fail
      go_ret2
      exact (show LrQ _ _ _ _ _ _ _ from ⟨Z2, rfl, L2.out, M2.out⟩)
end
end Go.Proofs.YtkgobglmkhkbbaaGreatDoor

/- schedule: Begin walked. -/
namespace Go.Proofs.YtkgobglmkhkbbaaGreatDoor
open Go.RowKit Go.KK Go.Shelf Go.Maps
set_option linter.unusedVariables false
set_option linter.unusedSimpArgs false

section
variable {w0 W : World} {Z : Nat → Prop} {sa : Nat} {xs : List ND} {j p x : Int}
/-- The steps of Begin one by one. -/
abbrev bgR (xs : List ND) (j p x : Int) (n : Nat) : List ND × List Int × Int := runF xs [] ((bgS j p x).take n)
theorem st_0 (hT : Tb w0.heap.size w0) (hB : w0.heap.size ≤ W.heap.size) (hj : I64 j) (hp : I64 p) {wr : World} {Zr : Nat → Prop} {ep : List Int} {mem ext : Int} (hI : BgI w0 W Z sa j p x (bgR xs j p x 0) wr Zr ep mem ext) :
    Calls Tryz.prog 60 #[.pointer (some ⟨W.heap.size + 7, 0, none⟩), .func (.func 61) #[] #[.pointer (some ⟨W.heap.size, 0, none⟩), .pointer (some ⟨W.heap.size + 1, 0, none⟩), .pointer (some ⟨W.heap.size + 2, 0, none⟩)], .pointer (some ⟨W.heap.size + 6, 0, none⟩)] wr fun e w' => e = .returned (.tuple #[]) ∧ ∃ Z' ep2 mem2 ext2, BgI w0 W Z sa j p x (bgR xs j p x 1) w' Z' ep2 mem2 ext2 := by
  refine (do_2 (R := bgR xs j p x 0) (f := fun _ ys => exF ys j p) hI.la hI.bg hB (i := 7) (q := 0) (by omega) (by omega) rfl (fun _ => ep) (fun a => a) (fun _ => ext) (fun a e k _ h1 h2 => bgb_mem h1 h2) (fun a e => rfl) (fun _ => cl_2 hI.la hT hI.bg hj hp)).mono ?_
  intro e w' hd
  have := hI.next hd (sb_ex j p) (fun a => by exact hI.l11) (fun h0 a => by
    obtain ⟨e1, e2, e3⟩ := hI.ok h0
    have hl : (bgR xs j p x 0).2.1.length = 0 := run_len ((bgS j p x).take 0) xs [] h0
    clear hd hI
    generalize (bgR xs j p x 0).2.1 = acc at *
    refine ⟨?_, ?_, ?_⟩
    · try dsimp only
      rw [e1]; simp [epL, getD_snoc hl, -List.getD_eq_getElem?_getD]
    · try dsimp only
      rw [getD_snoc hl]; rfl
    · try dsimp only
      rw [e3, getD_snoc hl]; rfl)
  rwa [← run_take (fs := bgS j p x) (k := 0) rfl] at this
theorem st_1 (hT : Tb w0.heap.size w0) (hB : w0.heap.size ≤ W.heap.size) {wr : World} {Zr : Nat → Prop} {ep : List Int} {mem ext : Int} (hI : BgI w0 W Z sa j p x (bgR xs j p x 1) wr Zr ep mem ext) :
    Calls Tryz.prog 60 #[.pointer (some ⟨W.heap.size + 5, 1, none⟩), .func (.func 62) #[] #[.pointer (some ⟨W.heap.size, 0, none⟩), .pointer (some ⟨W.heap.size + 7, 0, none⟩)], .pointer (some ⟨W.heap.size + 6, 0, none⟩)] wr fun e w' => e = .returned (.tuple #[]) ∧ ∃ Z' ep2 mem2 ext2, BgI w0 W Z sa j p x (bgR xs j p x 2) w' Z' ep2 mem2 ext2 := by
  refine (do_3 (R := bgR xs j p x 1) (f := fun a ys => dvF ys (a.getD 0 0) lbWelcome) hI.la hI.bg hB (i := 5) (q := 1) (by omega) (by omega) (bgb_at (by rw [hI.l11]; omega)) (fun a => ep.set 1 a) (fun _ => mem) (fun _ => ext) (fun a e k _ h1 h2 => bgb_ep h1 h2) (fun a e => bgb_set 1) (fun h0 => by have hk := hI.ok h0; have := cl_3 hI.la hT hI.bg (by rw [hk.2.1]; exact i64_getD (hI.i64 h0) 0); rw [hk.2.1] at this; exact this)).mono ?_
  intro e w' hd
  have := hI.next hd (sb_dv _ _) (fun a => by rw [List.length_set]; exact hI.l11) (fun h0 a => by
    obtain ⟨e1, e2, e3⟩ := hI.ok h0
    have hl : (bgR xs j p x 1).2.1.length = 1 := run_len ((bgS j p x).take 1) xs [] h0
    clear hd hI
    generalize (bgR xs j p x 1).2.1 = acc at *
    refine ⟨?_, ?_, ?_⟩
    · try dsimp only
      rw [e1]; simp [epL, getD_snoc hl, -List.getD_eq_getElem?_getD]
    · try dsimp only
      rw [e2, getD_snoc hl]; rfl
    · try dsimp only
      rw [e3, getD_snoc hl]; rfl)
  rwa [← run_take (fs := bgS j p x) (k := 1) rfl] at this
theorem st_2 (hT : Tb w0.heap.size w0) (hB : w0.heap.size ≤ W.heap.size) (hx : I64 x) {wr : World} {Zr : Nat → Prop} {ep : List Int} {mem ext : Int} (hI : BgI w0 W Z sa j p x (bgR xs j p x 2) wr Zr ep mem ext) :
    Calls Tryz.prog 60 #[.pointer (some ⟨W.heap.size + 5, 2, none⟩), .func (.func 64) #[] #[.pointer (some ⟨W.heap.size, 0, none⟩), .pointer (some ⟨W.heap.size + 7, 0, none⟩), .pointer (some ⟨W.heap.size + 3, 0, none⟩)], .pointer (some ⟨W.heap.size + 6, 0, none⟩)] wr fun e w' => e = .returned (.tuple #[]) ∧ ∃ Z' ep2 mem2 ext2, BgI w0 W Z sa j p x (bgR xs j p x 3) w' Z' ep2 mem2 ext2 := by
  refine (do_4 (R := bgR xs j p x 2) (f := fun a ys => exdF ys (a.getD 0 0) lbEpoch x) hI.la hI.bg hB (i := 5) (q := 2) (by omega) (by omega) (bgb_at (by rw [hI.l11]; omega)) (fun a => ep.set 2 a) (fun _ => mem) (fun _ => ext) (fun a e k _ h1 h2 => bgb_ep h1 h2) (fun a e => bgb_set 2) (fun h0 => by have hk := hI.ok h0; have := cl_4 hI.la hT hI.bg (by rw [hk.2.1]; exact i64_getD (hI.i64 h0) 0) hx; rw [hk.2.1] at this; exact this)).mono ?_
  intro e w' hd
  have := hI.next hd (sb_exd _ _ _) (fun a => by rw [List.length_set]; exact hI.l11) (fun h0 a => by
    obtain ⟨e1, e2, e3⟩ := hI.ok h0
    have hl : (bgR xs j p x 2).2.1.length = 2 := run_len ((bgS j p x).take 2) xs [] h0
    clear hd hI
    generalize (bgR xs j p x 2).2.1 = acc at *
    refine ⟨?_, ?_, ?_⟩
    · try dsimp only
      rw [e1]; simp [epL, getD_snoc hl, -List.getD_eq_getElem?_getD]
    · try dsimp only
      rw [e2, getD_snoc hl]; rfl
    · try dsimp only
      rw [e3, getD_snoc hl]; rfl)
  rwa [← run_take (fs := bgS j p x) (k := 2) rfl] at this
theorem st_3 (hT : Tb w0.heap.size w0) (hB : w0.heap.size ≤ W.heap.size) {wr : World} {Zr : Nat → Prop} {ep : List Int} {mem ext : Int} (hI : BgI w0 W Z sa j p x (bgR xs j p x 3) wr Zr ep mem ext) {tb : Nat} (ht : wr.cell? ⟨tb, 1, none⟩ = some (.string lbSender)) :
    Calls Tryz.prog 60 #[.pointer (some ⟨W.heap.size + 5, 3, none⟩), .func (.func 66) #[] #[.pointer (some ⟨W.heap.size, 0, none⟩), .pointer (some ⟨W.heap.size + 5, 0, none⟩), .pointer (some ⟨tb, 0, none⟩)], .pointer (some ⟨W.heap.size + 6, 0, none⟩)] wr fun e w' => e = .returned (.tuple #[]) ∧ ∃ Z' ep2 mem2 ext2, BgI w0 W Z sa j p x (bgR xs j p x 4) w' Z' ep2 mem2 ext2 := by
  refine (do_5 (R := bgR xs j p x 3) (f := fun a ys => dvF ys (a.getD 2 0) lbSender) hI.la hI.bg hB (i := 5) (q := 3) (by omega) (by omega) (bgb_at (by rw [hI.l11]; omega)) (fun a => ep.set 3 a) (fun _ => mem) (fun _ => ext) (fun a e k _ h1 h2 => bgb_ep h1 h2) (fun a e => bgb_set 3) (fun h0 => by have hk := hI.ok h0; have := cl_5 hI.la hT hI.bg (by rw [hk.1]; exact i64_getD (hI.i64 h0) 2) hI.l11 ht; rw [hk.1] at this; exact this)).mono ?_
  intro e w' hd
  have := hI.next hd (sb_dv _ _) (fun a => by rw [List.length_set]; exact hI.l11) (fun h0 a => by
    obtain ⟨e1, e2, e3⟩ := hI.ok h0
    have hl : (bgR xs j p x 3).2.1.length = 3 := run_len ((bgS j p x).take 3) xs [] h0
    clear hd hI
    generalize (bgR xs j p x 3).2.1 = acc at *
    refine ⟨?_, ?_, ?_⟩
    · try dsimp only
      rw [e1]; simp [epL, getD_snoc hl, -List.getD_eq_getElem?_getD]
    · try dsimp only
      rw [e2, getD_snoc hl]; rfl
    · try dsimp only
      rw [e3, getD_snoc hl]; rfl)
  rwa [← run_take (fs := bgS j p x) (k := 3) rfl] at this
theorem st_4 (hT : Tb w0.heap.size w0) (hB : w0.heap.size ≤ W.heap.size) {wr : World} {Zr : Nat → Prop} {ep : List Int} {mem ext : Int} (hI : BgI w0 W Z sa j p x (bgR xs j p x 4) wr Zr ep mem ext) {tb : Nat} (ht : wr.cell? ⟨tb, 1, none⟩ = some (.string lbEncryption)) :
    Calls Tryz.prog 60 #[.pointer (some ⟨W.heap.size + 5, 4, none⟩), .func (.func 66) #[] #[.pointer (some ⟨W.heap.size, 0, none⟩), .pointer (some ⟨W.heap.size + 5, 0, none⟩), .pointer (some ⟨tb, 0, none⟩)], .pointer (some ⟨W.heap.size + 6, 0, none⟩)] wr fun e w' => e = .returned (.tuple #[]) ∧ ∃ Z' ep2 mem2 ext2, BgI w0 W Z sa j p x (bgR xs j p x 5) w' Z' ep2 mem2 ext2 := by
  refine (do_5 (R := bgR xs j p x 4) (f := fun a ys => dvF ys (a.getD 2 0) lbEncryption) hI.la hI.bg hB (i := 5) (q := 4) (by omega) (by omega) (bgb_at (by rw [hI.l11]; omega)) (fun a => ep.set 4 a) (fun _ => mem) (fun _ => ext) (fun a e k _ h1 h2 => bgb_ep h1 h2) (fun a e => bgb_set 4) (fun h0 => by have hk := hI.ok h0; have := cl_5 hI.la hT hI.bg (by rw [hk.1]; exact i64_getD (hI.i64 h0) 2) hI.l11 ht; rw [hk.1] at this; exact this)).mono ?_
  intro e w' hd
  have := hI.next hd (sb_dv _ _) (fun a => by rw [List.length_set]; exact hI.l11) (fun h0 a => by
    obtain ⟨e1, e2, e3⟩ := hI.ok h0
    have hl : (bgR xs j p x 4).2.1.length = 4 := run_len ((bgS j p x).take 4) xs [] h0
    clear hd hI
    generalize (bgR xs j p x 4).2.1 = acc at *
    refine ⟨?_, ?_, ?_⟩
    · try dsimp only
      rw [e1]; simp [epL, getD_snoc hl, -List.getD_eq_getElem?_getD]
    · try dsimp only
      rw [e2, getD_snoc hl]; rfl
    · try dsimp only
      rw [e3, getD_snoc hl]; rfl)
  rwa [← run_take (fs := bgS j p x) (k := 4) rfl] at this
theorem st_5 (hT : Tb w0.heap.size w0) (hB : w0.heap.size ≤ W.heap.size) {wr : World} {Zr : Nat → Prop} {ep : List Int} {mem ext : Int} (hI : BgI w0 W Z sa j p x (bgR xs j p x 5) wr Zr ep mem ext) {tb : Nat} (ht : wr.cell? ⟨tb, 1, none⟩ = some (.string lbExporter)) :
    Calls Tryz.prog 60 #[.pointer (some ⟨W.heap.size + 5, 5, none⟩), .func (.func 66) #[] #[.pointer (some ⟨W.heap.size, 0, none⟩), .pointer (some ⟨W.heap.size + 5, 0, none⟩), .pointer (some ⟨tb, 0, none⟩)], .pointer (some ⟨W.heap.size + 6, 0, none⟩)] wr fun e w' => e = .returned (.tuple #[]) ∧ ∃ Z' ep2 mem2 ext2, BgI w0 W Z sa j p x (bgR xs j p x 6) w' Z' ep2 mem2 ext2 := by
  refine (do_5 (R := bgR xs j p x 5) (f := fun a ys => dvF ys (a.getD 2 0) lbExporter) hI.la hI.bg hB (i := 5) (q := 5) (by omega) (by omega) (bgb_at (by rw [hI.l11]; omega)) (fun a => ep.set 5 a) (fun _ => mem) (fun _ => ext) (fun a e k _ h1 h2 => bgb_ep h1 h2) (fun a e => bgb_set 5) (fun h0 => by have hk := hI.ok h0; have := cl_5 hI.la hT hI.bg (by rw [hk.1]; exact i64_getD (hI.i64 h0) 2) hI.l11 ht; rw [hk.1] at this; exact this)).mono ?_
  intro e w' hd
  have := hI.next hd (sb_dv _ _) (fun a => by rw [List.length_set]; exact hI.l11) (fun h0 a => by
    obtain ⟨e1, e2, e3⟩ := hI.ok h0
    have hl : (bgR xs j p x 5).2.1.length = 5 := run_len ((bgS j p x).take 5) xs [] h0
    clear hd hI
    generalize (bgR xs j p x 5).2.1 = acc at *
    refine ⟨?_, ?_, ?_⟩
    · try dsimp only
      rw [e1]; simp [epL, getD_snoc hl, -List.getD_eq_getElem?_getD]
    · try dsimp only
      rw [e2, getD_snoc hl]; rfl
    · try dsimp only
      rw [e3, getD_snoc hl]; rfl)
  rwa [← run_take (fs := bgS j p x) (k := 5) rfl] at this
theorem st_6 (hT : Tb w0.heap.size w0) (hB : w0.heap.size ≤ W.heap.size) {wr : World} {Zr : Nat → Prop} {ep : List Int} {mem ext : Int} (hI : BgI w0 W Z sa j p x (bgR xs j p x 6) wr Zr ep mem ext) {tb : Nat} (ht : wr.cell? ⟨tb, 1, none⟩ = some (.string lbConfirm)) :
    Calls Tryz.prog 60 #[.pointer (some ⟨W.heap.size + 5, 6, none⟩), .func (.func 66) #[] #[.pointer (some ⟨W.heap.size, 0, none⟩), .pointer (some ⟨W.heap.size + 5, 0, none⟩), .pointer (some ⟨tb, 0, none⟩)], .pointer (some ⟨W.heap.size + 6, 0, none⟩)] wr fun e w' => e = .returned (.tuple #[]) ∧ ∃ Z' ep2 mem2 ext2, BgI w0 W Z sa j p x (bgR xs j p x 7) w' Z' ep2 mem2 ext2 := by
  refine (do_5 (R := bgR xs j p x 6) (f := fun a ys => dvF ys (a.getD 2 0) lbConfirm) hI.la hI.bg hB (i := 5) (q := 6) (by omega) (by omega) (bgb_at (by rw [hI.l11]; omega)) (fun a => ep.set 6 a) (fun _ => mem) (fun _ => ext) (fun a e k _ h1 h2 => bgb_ep h1 h2) (fun a e => bgb_set 6) (fun h0 => by have hk := hI.ok h0; have := cl_5 hI.la hT hI.bg (by rw [hk.1]; exact i64_getD (hI.i64 h0) 2) hI.l11 ht; rw [hk.1] at this; exact this)).mono ?_
  intro e w' hd
  have := hI.next hd (sb_dv _ _) (fun a => by rw [List.length_set]; exact hI.l11) (fun h0 a => by
    obtain ⟨e1, e2, e3⟩ := hI.ok h0
    have hl : (bgR xs j p x 6).2.1.length = 6 := run_len ((bgS j p x).take 6) xs [] h0
    clear hd hI
    generalize (bgR xs j p x 6).2.1 = acc at *
    refine ⟨?_, ?_, ?_⟩
    · try dsimp only
      rw [e1]; simp [epL, getD_snoc hl, -List.getD_eq_getElem?_getD]
    · try dsimp only
      rw [e2, getD_snoc hl]; rfl
    · try dsimp only
      rw [e3, getD_snoc hl]; rfl)
  rwa [← run_take (fs := bgS j p x) (k := 6) rfl] at this
theorem st_7 (hT : Tb w0.heap.size w0) (hB : w0.heap.size ≤ W.heap.size) {wr : World} {Zr : Nat → Prop} {ep : List Int} {mem ext : Int} (hI : BgI w0 W Z sa j p x (bgR xs j p x 7) wr Zr ep mem ext) {tb : Nat} (ht : wr.cell? ⟨tb, 1, none⟩ = some (.string lbMembership)) :
    Calls Tryz.prog 60 #[.pointer (some ⟨W.heap.size + 5, 7, none⟩), .func (.func 66) #[] #[.pointer (some ⟨W.heap.size, 0, none⟩), .pointer (some ⟨W.heap.size + 5, 0, none⟩), .pointer (some ⟨tb, 0, none⟩)], .pointer (some ⟨W.heap.size + 6, 0, none⟩)] wr fun e w' => e = .returned (.tuple #[]) ∧ ∃ Z' ep2 mem2 ext2, BgI w0 W Z sa j p x (bgR xs j p x 8) w' Z' ep2 mem2 ext2 := by
  refine (do_5 (R := bgR xs j p x 7) (f := fun a ys => dvF ys (a.getD 2 0) lbMembership) hI.la hI.bg hB (i := 5) (q := 7) (by omega) (by omega) (bgb_at (by rw [hI.l11]; omega)) (fun a => ep.set 7 a) (fun _ => mem) (fun _ => ext) (fun a e k _ h1 h2 => bgb_ep h1 h2) (fun a e => bgb_set 7) (fun h0 => by have hk := hI.ok h0; have := cl_5 hI.la hT hI.bg (by rw [hk.1]; exact i64_getD (hI.i64 h0) 2) hI.l11 ht; rw [hk.1] at this; exact this)).mono ?_
  intro e w' hd
  have := hI.next hd (sb_dv _ _) (fun a => by rw [List.length_set]; exact hI.l11) (fun h0 a => by
    obtain ⟨e1, e2, e3⟩ := hI.ok h0
    have hl : (bgR xs j p x 7).2.1.length = 7 := run_len ((bgS j p x).take 7) xs [] h0
    clear hd hI
    generalize (bgR xs j p x 7).2.1 = acc at *
    refine ⟨?_, ?_, ?_⟩
    · try dsimp only
      rw [e1]; simp [epL, getD_snoc hl, -List.getD_eq_getElem?_getD]
    · try dsimp only
      rw [e2, getD_snoc hl]; rfl
    · try dsimp only
      rw [e3, getD_snoc hl]; rfl)
  rwa [← run_take (fs := bgS j p x) (k := 7) rfl] at this
theorem st_8 (hT : Tb w0.heap.size w0) (hB : w0.heap.size ≤ W.heap.size) {wr : World} {Zr : Nat → Prop} {ep : List Int} {mem ext : Int} (hI : BgI w0 W Z sa j p x (bgR xs j p x 8) wr Zr ep mem ext) {tb : Nat} (ht : wr.cell? ⟨tb, 1, none⟩ = some (.string lbResumption)) :
    Calls Tryz.prog 60 #[.pointer (some ⟨W.heap.size + 5, 8, none⟩), .func (.func 66) #[] #[.pointer (some ⟨W.heap.size, 0, none⟩), .pointer (some ⟨W.heap.size + 5, 0, none⟩), .pointer (some ⟨tb, 0, none⟩)], .pointer (some ⟨W.heap.size + 6, 0, none⟩)] wr fun e w' => e = .returned (.tuple #[]) ∧ ∃ Z' ep2 mem2 ext2, BgI w0 W Z sa j p x (bgR xs j p x 9) w' Z' ep2 mem2 ext2 := by
  refine (do_5 (R := bgR xs j p x 8) (f := fun a ys => dvF ys (a.getD 2 0) lbResumption) hI.la hI.bg hB (i := 5) (q := 8) (by omega) (by omega) (bgb_at (by rw [hI.l11]; omega)) (fun a => ep.set 8 a) (fun _ => mem) (fun _ => ext) (fun a e k _ h1 h2 => bgb_ep h1 h2) (fun a e => bgb_set 8) (fun h0 => by have hk := hI.ok h0; have := cl_5 hI.la hT hI.bg (by rw [hk.1]; exact i64_getD (hI.i64 h0) 2) hI.l11 ht; rw [hk.1] at this; exact this)).mono ?_
  intro e w' hd
  have := hI.next hd (sb_dv _ _) (fun a => by rw [List.length_set]; exact hI.l11) (fun h0 a => by
    obtain ⟨e1, e2, e3⟩ := hI.ok h0
    have hl : (bgR xs j p x 8).2.1.length = 8 := run_len ((bgS j p x).take 8) xs [] h0
    clear hd hI
    generalize (bgR xs j p x 8).2.1 = acc at *
    refine ⟨?_, ?_, ?_⟩
    · try dsimp only
      rw [e1]; simp [epL, getD_snoc hl, -List.getD_eq_getElem?_getD]
    · try dsimp only
      rw [e2, getD_snoc hl]; rfl
    · try dsimp only
      rw [e3, getD_snoc hl]; rfl)
  rwa [← run_take (fs := bgS j p x) (k := 8) rfl] at this
theorem st_9 (hT : Tb w0.heap.size w0) (hB : w0.heap.size ≤ W.heap.size) {wr : World} {Zr : Nat → Prop} {ep : List Int} {mem ext : Int} (hI : BgI w0 W Z sa j p x (bgR xs j p x 9) wr Zr ep mem ext) {tb : Nat} (ht : wr.cell? ⟨tb, 1, none⟩ = some (.string lbInit)) :
    Calls Tryz.prog 60 #[.pointer (some ⟨W.heap.size + 5, 10, none⟩), .func (.func 66) #[] #[.pointer (some ⟨W.heap.size, 0, none⟩), .pointer (some ⟨W.heap.size + 5, 0, none⟩), .pointer (some ⟨tb, 0, none⟩)], .pointer (some ⟨W.heap.size + 6, 0, none⟩)] wr fun e w' => e = .returned (.tuple #[]) ∧ ∃ Z' ep2 mem2 ext2, BgI w0 W Z sa j p x (bgR xs j p x 10) w' Z' ep2 mem2 ext2 := by
  refine (do_5 (R := bgR xs j p x 9) (f := fun a ys => dvF ys (a.getD 2 0) lbInit) hI.la hI.bg hB (i := 5) (q := 10) (by omega) (by omega) (bgb_at (by rw [hI.l11]; omega)) (fun a => ep.set 10 a) (fun _ => mem) (fun _ => ext) (fun a e k _ h1 h2 => bgb_ep h1 h2) (fun a e => bgb_set 10) (fun h0 => by have hk := hI.ok h0; have := cl_5 hI.la hT hI.bg (by rw [hk.1]; exact i64_getD (hI.i64 h0) 2) hI.l11 ht; rw [hk.1] at this; exact this)).mono ?_
  intro e w' hd
  have := hI.next hd (sb_dv _ _) (fun a => by rw [List.length_set]; exact hI.l11) (fun h0 a => by
    obtain ⟨e1, e2, e3⟩ := hI.ok h0
    have hl : (bgR xs j p x 9).2.1.length = 9 := run_len ((bgS j p x).take 9) xs [] h0
    clear hd hI
    generalize (bgR xs j p x 9).2.1 = acc at *
    refine ⟨?_, ?_, ?_⟩
    · try dsimp only
      rw [e1]; simp [epL, getD_snoc hl, -List.getD_eq_getElem?_getD]
    · try dsimp only
      rw [e2, getD_snoc hl]; rfl
    · try dsimp only
      rw [e3, getD_snoc hl]; rfl)
  rwa [← run_take (fs := bgS j p x) (k := 9) rfl] at this
theorem st_10 (hT : Tb w0.heap.size w0) (hB : w0.heap.size ≤ W.heap.size) {wr : World} {Zr : Nat → Prop} {ep : List Int} {mem ext : Int} (hI : BgI w0 W Z sa j p x (bgR xs j p x 10) wr Zr ep mem ext) {tb : Nat} (ht : wr.cell? ⟨tb, 1, none⟩ = some (.string lbExternal)) :
    Calls Tryz.prog 60 #[.pointer (some ⟨W.heap.size + 8, 0, none⟩), .func (.func 66) #[] #[.pointer (some ⟨W.heap.size, 0, none⟩), .pointer (some ⟨W.heap.size + 5, 0, none⟩), .pointer (some ⟨tb, 0, none⟩)], .pointer (some ⟨W.heap.size + 6, 0, none⟩)] wr fun e w' => e = .returned (.tuple #[]) ∧ ∃ Z' ep2 mem2 ext2, BgI w0 W Z sa j p x (bgR xs j p x 11) w' Z' ep2 mem2 ext2 := by
  refine (do_5 (R := bgR xs j p x 10) (f := fun a ys => dvF ys (a.getD 2 0) lbExternal) hI.la hI.bg hB (i := 8) (q := 0) (by omega) (by omega) rfl (fun _ => ep) (fun _ => mem) (fun a => a) (fun a e k _ h1 h2 => bgb_ext h1 h2) (fun a e => rfl) (fun h0 => by have hk := hI.ok h0; have := cl_5 hI.la hT hI.bg (by rw [hk.1]; exact i64_getD (hI.i64 h0) 2) hI.l11 ht; rw [hk.1] at this; exact this)).mono ?_
  intro e w' hd
  have := hI.next hd (sb_dv _ _) (fun a => by exact hI.l11) (fun h0 a => by
    obtain ⟨e1, e2, e3⟩ := hI.ok h0
    have hl : (bgR xs j p x 10).2.1.length = 10 := run_len ((bgS j p x).take 10) xs [] h0
    clear hd hI
    generalize (bgR xs j p x 10).2.1 = acc at *
    refine ⟨?_, ?_, ?_⟩
    · try dsimp only
      rw [e1]; simp [epL, getD_snoc hl, -List.getD_eq_getElem?_getD]
    · try dsimp only
      rw [e2, getD_snoc hl]; rfl
    · try dsimp only
      rw [getD_snoc hl]; rfl)
  rwa [← run_take (fs := bgS j p x) (k := 10) rfl] at this
theorem st_11 (hT : Tb w0.heap.size w0) (hB : w0.heap.size ≤ W.heap.size) {wr : World} {Zr : Nat → Prop} {ep : List Int} {mem ext : Int} (hI : BgI w0 W Z sa j p x (bgR xs j p x 11) wr Zr ep mem ext) :
    Calls Tryz.prog 60 #[.pointer (some ⟨W.heap.size + 5, 9, none⟩), .func (.func 67) #[] #[.pointer (some ⟨W.heap.size, 0, none⟩), .pointer (some ⟨W.heap.size + 8, 0, none⟩)], .pointer (some ⟨W.heap.size + 6, 0, none⟩)] wr fun e w' => e = .returned (.tuple #[]) ∧ ∃ Z' ep2 mem2 ext2, BgI w0 W Z sa j p x (bgR xs j p x 12) w' Z' ep2 mem2 ext2 := by
  refine (do_6 (R := bgR xs j p x 11) (f := fun a ys => pbF ys (a.getD 10 0)) hI.la hI.bg hB (i := 5) (q := 9) (by omega) (by omega) (bgb_at (by rw [hI.l11]; omega)) (fun a => ep.set 9 a) (fun _ => mem) (fun _ => ext) (fun a e k _ h1 h2 => bgb_ep h1 h2) (fun a e => bgb_set 9) (fun h0 => by have hk := hI.ok h0; have := cl_6 hI.la hT hI.bg (by rw [hk.2.2]; exact i64_getD (hI.i64 h0) 10); rw [hk.2.2] at this; exact this)).mono ?_
  intro e w' hd
  have := hI.next hd (sb_pb _) (fun a => by rw [List.length_set]; exact hI.l11) (fun h0 a => by
    obtain ⟨e1, e2, e3⟩ := hI.ok h0
    have hl : (bgR xs j p x 11).2.1.length = 11 := run_len ((bgS j p x).take 11) xs [] h0
    clear hd hI
    generalize (bgR xs j p x 11).2.1 = acc at *
    refine ⟨?_, ?_, ?_⟩
    · try dsimp only
      rw [e1]; simp [epL, getD_snoc hl, -List.getD_eq_getElem?_getD]
    · try dsimp only
      rw [e2, getD_snoc hl]; rfl
    · try dsimp only
      rw [e3, getD_snoc hl]; rfl)
  rwa [← run_take (fs := bgS j p x) (k := 11) rfl] at this
end
end Go.Proofs.YtkgobglmkhkbbaaGreatDoor

