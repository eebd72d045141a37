import Derived.Test.YtfmkniakfgpgjaaGreatDoorY05
/- schedule: Psk, Joiner. -/
namespace Go.KK
open Go.RowKit
set_option linter.unusedVariables false
set_option linter.unusedSimpArgs false
theorem psk_err {r : Rs} (h : r.2.2 ≠ 0) : ∀ m : List Int, m ≠ [] → pskG r m = (r.1, 0, r.2.2) := by
  intro m
  induction m generalizing r with
  | nil => intro h; exact absurd rfl h
  | cons s m ih =>
    intro _
    have e : bdF r (fun ys p => exF ys p s) = (r.1, 0, r.2.2) := by unfold bdF; rw [if_neg h]
    show pskG (bdF r fun ys p => exF ys p s) m = _
    rw [e]
    rcases m with _ | ⟨t, m⟩
    · rfl
    · exact ih (r := (r.1, 0, r.2.2)) h (by simp)
theorem psk_split (r : Rs) : ∀ (l m : List Int), pskG r (l ++ m) = pskG (pskG r l) m := by
  intro l
  induction l generalizing r with
  | nil => intro m; rfl
  | cons s l ih => intro m; exact ih _ m
theorem psk_stuck {xs : List ND} {l : List Int} {j : Nat} (hj : j < l.length) (h : (pskF xs (l.take j)).2.2 ≠ 0) : pskF xs l = ((pskF xs (l.take j)).1, 0, (pskF xs (l.take j)).2.2) := by
  have e : l = l.take j ++ l.drop j := (List.take_append_drop j l).symm
  have e2 : pskF xs l = pskG (pskF xs (l.take j)) (l.drop j) := by
    conv => lhs; rw [e]
    exact psk_split _ _ _
  rw [e2]
  exact psk_err h _ (by
    intro h
    have := congrArg List.length h
    simp at this
    omega)
theorem psk_one {xs : List ND} {l : List Int} {j : Nat} {s : Int} (hs : l[j]? = some s) (h : (pskF xs (l.take j)).2.2 = 0) : pskF xs (l.take (j + 1)) = exF (pskF xs (l.take j)).1 (pskF xs (l.take j)).2.1 s := by
  have e : pskF xs (l.take (j + 1)) = bdF (pskF xs (l.take j)) fun ys p => exF ys p s := by
    unfold pskF
    rw [take_one hs, psk_snoc]
  rw [e]
  unfold bdF
  rw [if_pos h]
end Go.KK
namespace Go.Proofs.YtfmkniakfgpgjaaGreatDoor
open Go.RowKit Go.KK Go.Shelf Go.Maps

/-- A row of numbers that the arena's steps leave alone. -/
def SlM (W : World) (Z : Nat → Prop) (A : Option Addr) (n c : Nat) (l : List Int) : Prop := SlA W 1 A n c (l.map (.int .i64)) ∧ ∀ b o, A = some ⟨b, o, none⟩ → 0 < n → b < W.heap.size ∧ ¬ Z b
theorem SlM.mv {W W' : World} {Z Z' : Nat → Prop} {A : Option Addr} {n c : Nat} {l : List Int} (h : SlM W Z A n c l) (m : Mv Z W Z' W') : SlM W' Z' A n c l := by
  refine ⟨⟨h.1.nc, h.1.cm, h.1.len, fun j u hj => ?_⟩, fun b o e hn => ?_⟩
  · have hjl := (List.getElem?_eq_some_iff.1 hj).1
    have hlen := h.1.len
    obtain ⟨b, off, e, hc⟩ := h.1.cells j u hj
    have hn : 0 < n := by omega
    obtain ⟨h1, h2⟩ := h.2 b off e hn
    refine ⟨b, off, e, ?_⟩
    rw [World.cell?_of_block (a := ⟨b, off + j, none⟩) (show W'.heap[b]? = W.heap[b]? from m.t.block b h1 h2)]
    exact hc
  · obtain ⟨h1, h2⟩ := h.2 b o e hn
    refine ⟨Nat.lt_of_lt_of_le h1 m.t.size, fun hz => ?_⟩
    rcases m.n b hz with h | h
    · exact h2 h
    · omega
theorem SlM.nil (W : World) (Z : Nat → Prop) : SlM W Z none 0 0 [] := ⟨SlA.nil _ _, fun b o e => by cases e⟩
section
variable {w0 W W' : World} {Z Z' : Nat → Prop} {sa : Nat} {xs xs' : List ND}
set_option maxHeartbeats 2000000 in
set_option maxRecDepth 100000 in
theorem l_psk (h : LA w0 W Z sa xs) (hT : Tb w0.heap.size w0) {A : Option Addr} {n c : Nat} {l : List Int} (hl : SlM W Z A n c l) (hn : n ≤ 100000) (hi : ∀ i ∈ l, I64 i) :
    Calls Tryz.prog 64 #[.pointer (some ⟨sa, 0, none⟩), .slice A n c] W (LrS w0 W Z sa (pskF xs l)) := by
  have HT := hid hT; have HL := hid hl; have HI := hid hi
  have HLN := hid hl.1.lenI
  have HX := hid (l_text h hT ⟨#[]⟩)
  have HI0 := hid (show I64 (mk xs (txN ⟨#[]⟩)).2.1 from idx_i64 h.ar.ok (txN ⟨#[]⟩))
  clear h hT hl hi
  go_enter Tryz.func64, Tryz.ntmps64
  go_wp2_with fail
  refine HX.out.mono ?_
  rintro e w2 ⟨Z2, rfl, l2, m2⟩
  have L2 := hid l2; have M2 := hid m2
  clear l2 m2 HX
  have HOK := hid L2.out.ar.ok
  go_wp2_with fail
  go_loopw [17, 6, 7] (fun v p e wr => ∃ (j : Nat) (Zr : Nat → Prop) (R : Rs), v = .int .i64 j ∧ j ≤ n ∧ Hid (R = pskF xs (l.take j)) ∧ p = .int .i64 R.2.1 ∧ e = .int .i64 R.2.2 ∧ I64 R.2.1 ∧ LA w0 wr Zr sa R.1 ∧ Mv Z W Zr wr) (fun v _ _ _ => n - (intOf v).toNat)
  case atStart => exact ⟨0, Z2, _, rfl, Nat.zero_le _, hid rfl, rfl, rfl, HI0.out, L2.out, M2.out⟩
  case round =>
    clear L2 M2 HOK
    obtain ⟨j, Zr, R, hv, hj, hR, hp, he, hpi, hla, hmv⟩ := hrel
    subst hv; subst hp; subst he
    have HLA := hid hla; have HMV := hid hmv
    clear hla hmv
    by_cases hlt : j < n
    · obtain ⟨b, off, y, rfl, hy, hcy⟩ := (HL.out.mv HMV.out).1.elemI hlt
      have hlt' : (j : Int) < (n : Int) := by omega
      have hyi : I64 y := HI.out y (List.mem_of_getElem? hy)
      by_cases he : R.2.2 = 0
      · have HST := hid (show pskF xs (l.take (j + 1)) = exF R.1 R.2.1 y by
          have := psk_one (xs := xs) hy (by rw [← hR.out]; exact he)
          rwa [← hR.out] at this)
        have HEX := hid (l_ex HLA.out HT.out hpi hyi)
        have hii : I64 (exF R.1 R.2.1 y).2.1 := idx_i64 HLA.out.ar.ok (ndN 5 [R.2.1, y])
        have HLT := hid hlt
        rw [he]
        clear hy
        generalize exF R.1 R.2.1 y = r at *
        go_wp2_with fail
        refine HEX.out.mono ?_
        rintro e w3 ⟨Z3, rfl, l3, m3⟩
        have L3 := hid l3; have M3 := hid (HMV.out.trans m3)
        clear l3 m3 HEX HLA HMV hcy
        go_wp2_with fail
        go_roundw
        case rel => exact ⟨j + 1, Z3, r, by go_num, by have := HLT.out; omega, hid HST.out.symm, rfl, rfl, hii, L3.out, M3.out⟩
        case measure => have := HLT.out; simp [intOf]; omega
      · have HST := hid (show pskF xs l = (R.1, 0, R.2.2) by
          have := psk_stuck (xs := xs) (l := l) (j := j) (by have := HLN.out; omega) (by rw [← hR.out]; exact he)
          rwa [← hR.out] at this)
        have hne : (R.2.2 != 0) = true := bne_iff_ne.2 he
        clear hy he
        go_wp2_with fail
        go_ret2
        exact (show LrS _ _ _ _ _ _ _ from ⟨Zr, by rw [HST.out]; rfl, by rw [HST.out]; exact HLA.out, HMV.out⟩)
    · obtain rfl : j = n := by omega
      have hlt' : ¬ (j : Int) < (j : Int) := by omega
      have HST := hid (show pskF xs l = R by rw [hR.out, List.take_of_length_le (by have := HLN.out; omega)])
      go_wp2_with fail
      go_ret2
      exact (show LrS _ _ _ _ _ _ _ from ⟨Zr, by rw [HST.out]; rfl, by rw [HST.out]; exact HLA.out, HMV.out⟩)
theorem l_jn (h : LA w0 W Z sa xs) (hT : Tb w0.heap.size w0) {i c x : Int} (hi : I64 i) (hc : I64 c) (hx : I64 x) :
    Calls Tryz.prog 63 #[.pointer (some ⟨sa, 0, none⟩), .int .i64 i, .int .i64 c, .int .i64 x] W (LrS w0 W Z sa (jnF xs i c x)) := by
  have HT := hid hT
  have HX := hid (l_ex h hT hi hc)
  have hmi : I64 (exF xs i c).2.1 := idx_i64 h.ar.ok (ndN 5 [i, c])
  clear h hT
  by_cases he : (exF xs i c).2.2 = 0
  · have HF := hid (show jnF xs i c x = exdF (exF xs i c).1 (exF xs i c).2.1 lbJoiner x by unfold jnF bdF; rw [if_pos he])
    rw [HF.out]
    unfold LrS at HX
    rw [he] at HX
    clear he
    generalize exF xs i c = r at *
    obtain ⟨Y, m, er⟩ := r
    obtain ⟨r, hr⟩ : ∃ r : Rs, r = exdF Y m lbJoiner x := ⟨_, rfl⟩
    rw [← hr]
    have HR := hid hr
    clear hr HF
    go_enter Tryz.func63, Tryz.ntmps63
    go_wp2_with fail
    refine HX.out.mono ?_
    rintro e w2 ⟨Z2, rfl, l2, m2⟩
    have HO := hid (l_exd l2 HT.out hmi hx lbJoiner)
    rw [← HR.out] at HO
    unfold lbJoiner at HO
    have M2 := hid m2
    clear l2 m2 HX
    go_wp2_with fail
    refine HO.out.mono ?_
    rintro e w3 ⟨Z3, rfl, l3, m3⟩
    have L3 := hid l3; have M3 := hid (M2.out.trans m3)
    clear l3 m3 HO
    go_wp2_with fail
    go_ret2
    exact ⟨Z3, rfl, L3.out, M3.out⟩
  · have HF := hid (show jnF xs i c x = ((exF xs i c).1, 0, (exF xs i c).2.2) by unfold jnF bdF; rw [if_neg he])
    rw [HF.out]
    unfold LrS at HX
    have hne : ((exF xs i c).2.2 != 0) = true := bne_iff_ne.2 he
    clear he
    generalize exF xs i c = r at *
    obtain ⟨Y, m, er⟩ := r
    go_enter Tryz.func63, Tryz.ntmps63
    go_wp2_with fail
    refine HX.out.mono ?_
    rintro e w2 ⟨Z2, rfl, l2, m2⟩
    have L2 := hid l2; have M2 := hid m2
    clear l2 m2 HX HF
    go_wp2_with fail
    go_ret2
    exact ⟨Z2, rfl, L2.out, M2.out⟩
end
end Go.Proofs.YtfmkniakfgpgjaaGreatDoor

/- schedule: Begin's variables, and what lays a term as long as there is no error. -/
namespace Go.KK
open Go.RowKit
set_option linter.unusedVariables false
set_option linter.unusedSimpArgs false
/-- One step more. -/
def rnS (R : List ND × List Int × Int) (f : List Int → List ND → Rs) : List ND × List Int × Int :=
  if R.2.2 = 0 then (if (f R.2.1 R.1).2.2 = 0 then ((f R.2.1 R.1).1, R.2.1 ++ [(f R.2.1 R.1).2.1], 0) else ((f R.2.1 R.1).1, R.2.1, (f R.2.1 R.1).2.2)) else R
theorem run_snoc : ∀ (fs : List (List Int → List ND → Rs)) (f : List Int → List ND → Rs) (xs : List ND) (acc : List Int), runF xs acc (fs ++ [f]) = rnS (runF xs acc fs) f
  | [], f, xs, acc => by
    show (if _ then _ else _) = rnS (xs, acc, 0) f
    unfold rnS
    rw [if_pos rfl]
    rfl
  | g :: fs, f, xs, acc => by
    by_cases h : (g acc xs).2.2 = 0
    · rw [List.cons_append, run_cons_ok h, run_cons_ok h]
      exact run_snoc fs f _ _
    · rw [List.cons_append, run_cons_no h, run_cons_no h]
      unfold rnS
      rw [if_neg (show ¬ ((g acc xs).1, acc, (g acc xs).2.2).2.2 = 0 from h)]
end Go.KK
namespace Go.Proofs.YtfmkniakfgpgjaaGreatDoor
open Go.RowKit Go.KK Go.Shelf Go.Maps

/-- The variables of Begin, block by block. -/
def BgB (sa : Nat) (j p x : Int) (ep : List Int) (first mem ext : Int) : Nat → Array Value
  | 0 => #[.pointer (some ⟨sa, 0, none⟩)] | 1 => #[.int .i64 j] | 2 => #[.int .i64 p] | 3 => #[.int .i64 x] | 4 => ((List.replicate 11 (0 : Int)).map (.int .i64)).toArray
  | 5 => (ep.map (.int .i64)).toArray | 6 => #[.int .i64 first] | 7 => #[.int .i64 mem] | 8 => #[.int .i64 ext] | _ => #[]
def BgT : Nat → TypeId
  | 0 => 27 | 4 => 29 | 5 => 29 | 6 => 34 | _ => 3
structure BgM (W : World) (Z : Nat → Prop) (H : Nat) (B : Nat → Array Value) : Prop where
  at' : ∀ k, k < 9 → W.heap[H + k]? = some (.cells (B k) (BgT k) (0, 0))
  nz : ∀ k, k < 9 → ¬ Z (H + k)
section
variable {w0 W W' : World} {Z Z' : Nat → Prop} {sa H : Nat} {xs xs' : List ND} {B B' : Nat → Array Value}
theorem BgM.lt (h : BgM W Z H B) {k : Nat} (hk : k < 9) : H + k < W.heap.size := (Array.getElem?_eq_some_iff.1 (h.at' k hk)).1
theorem BgM.mv (h : BgM W Z H B) (m : Mv Z W Z' W') : BgM W' Z' H B :=
  ⟨fun k hk => (m.t.block _ (h.lt hk) (h.nz k hk)).trans (h.at' k hk), fun k hk hz => (m.n _ hz).elim (h.nz k hk) fun h' => by have := h.lt hk; omega⟩
theorem BgM.cell (h : BgM W Z H B) {k o : Nat} {v : Value} (hk : k < 9) (hv : (B k)[o]? = some v) : W.cell? ⟨H + k, o, none⟩ = some v := by
  rw [cell_of_row W (H + k) o _ _ (0, 0) (h.at' k hk)]
  exact hv
theorem BgM.frozen (h : BgM W Z H B) {k o : Nat} (hk : k < 9) : W.frozen? ⟨H + k, o, none⟩ = false := frozen_of_row W (H + k) o _ _ (h.at' k hk)
/-- One of the variables is turned. -/
theorem BgM.put (h : BgM W Z H B) {i o : Nat} (hi : i < 9) (v : Value) (he : ∀ k, k < 9 → k ≠ i → B' k = B k) (hn : B' i = (B i).setIfInBounds o v) : BgM (W.setCell ⟨H + i, o, none⟩ v) Z H B' := by
  refine ⟨fun k hk => ?_, h.nz⟩
  by_cases e : k = i
  · subst e
    rw [heap_setCell_same W (H + k) o _ _ _ (h.at' k hk), hn]
  · rw [Below.heap_setCell W ⟨H + i, o, none⟩ v (H + k) (by simp; omega), he k hk e]
    exact h.at' k hk
theorem LA.put1 (h : LA w0 W Z sa xs) {b o : Nat} (v : Value) (hz : ¬ Z b) (hb : w0.heap.size ≤ b) : LA w0 (W.setCell ⟨b, o, none⟩ v) Z sa xs := by
  have ht : Turn (fun k => k = b) W (W.setCell ⟨b, o, none⟩ v) := Turn.setCell v (.inl rfl)
  exact ⟨h.ar.turn ht fun k hk e => hz (e ▸ hk), h.z, h.bl.trans (ht.below (fun k e => e ▸ hb) h.bl.size)⟩
end
/-- What 'do' leaves: the step was taken, or an error had come ahead. -/
def DoS (w0 W : World) (Z : Nat → Prop) (sa H : Nat) (j p x : Int) (R : List ND × List Int × Int) (f : List Int → List ND → Rs) (ep ep' : Int → List Int) (mem mem' ext ext' : Int → Int) (e : Ending) (w' : World) : Prop :=
  e = .returned (.tuple #[]) ∧ ∃ Z' : Nat → Prop, LA w0 w' Z' sa (rnS R f).1 ∧ Turn (fun b => Z b ∨ H ≤ b) W w' ∧ (∀ b, Z' b → Z b ∨ W.heap.size ≤ b) ∧ ((R.2.2 = 0 → BgM w' Z' H (BgB sa j p x (ep' (f R.2.1 R.1).2.1) (f R.2.1 R.1).2.2 (mem' (f R.2.1 R.1).2.1) (ext' (f R.2.1 R.1).2.1))) ∧ (R.2.2 ≠ 0 → BgM w' Z' H (BgB sa j p x (ep 0) R.2.2 (mem 0) (ext 0))))
section
variable {w0 W : World} {Z : Nat → Prop} {sa H : Nat} {j p x : Int} {R : List ND × List Int × Int} {f : List Int → List ND → Rs} {ep : List Int} {mem ext : Int}
set_option maxHeartbeats 2000000 in
set_option maxRecDepth 100000 in
theorem do_2 (h : LA w0 W Z sa R.1) (hb : BgM W Z H (BgB sa j p x ep R.2.2 mem ext)) (hB : w0.heap.size ≤ H) {i q : Nat} {v0 : Value} (hi : i < 9) (hi6 : i ≠ 6) (hq : (BgB sa j p x ep R.2.2 mem ext i)[q]? = some v0)
    (ep' : Int → List Int) (mem' ext' : Int → Int)
    (hput : ∀ (a e : Int) k, k < 9 → k ≠ i → k ≠ 6 → BgB sa j p x (ep' a) e (mem' a) (ext' a) k = BgB sa j p x ep R.2.2 mem ext k) (hput2 : ∀ a e : Int, BgB sa j p x (ep' a) e (mem' a) (ext' a) i = (BgB sa j p x ep R.2.2 mem ext i).setIfInBounds q (.int .i64 a))
    (hmk : R.2.2 = 0 → Calls Tryz.prog 109 #[.pointer (some ⟨H, 0, none⟩), .pointer (some ⟨H + 1, 0, none⟩), .pointer (some ⟨H + 2, 0, none⟩)] W (LrS w0 W Z sa (f R.2.1 R.1))) :
    Calls Tryz.prog 108 #[.pointer (some ⟨H + i, q, none⟩), .func (.func 109) #[] #[.pointer (some ⟨H, 0, none⟩), .pointer (some ⟨H + 1, 0, none⟩), .pointer (some ⟨H + 2, 0, none⟩)], .pointer (some ⟨H + 6, 0, none⟩)] W (DoS w0 W Z sa H j p x R f (fun _ => ep) ep' (fun _ => mem) mem' (fun _ => ext) ext') := by
  have hf := hb.cell (k := 6) (o := 0) (by omega) (show (BgB sa j p x ep R.2.2 mem ext 6)[0]? = some (.int .i64 R.2.2) from rfl)
  by_cases he : R.2.2 = 0
  · have HM := hid (hmk he)
    have HR := hid (show (rnS R f).1 = (f R.2.1 R.1).1 by unfold rnS; rw [if_pos he]; split <;> rfl)
    have HBB := hid hb
    have HE := hid he
    rw [he] at hf
    clear h hmk he hb
    unfold DoS
    generalize f R.2.1 R.1 = r at *
    go_enter Tryz.func108, Tryz.ntmps108
    go_wp2_with fail
    refine HM.out.mono ?_
    rintro e w2 ⟨Z2, rfl, l2, m2⟩
    have B2 := hid (HBB.out.mv m2)
    have L2 := hid l2
    have c1 := B2.out.cell hi hq
    have z1 := B2.out.frozen (o := q) hi
    have c2 := B2.out.cell (k := 6) (o := 0) (by omega) (show (BgB sa j p x ep R.2.2 mem ext 6)[0]? = some (.int .i64 R.2.2) from rfl)
    have z2 := B2.out.frozen (k := 6) (o := 0) (by omega)
    have hi69 : (6 : Nat) < 9 := by decide
    have HP := hid (show BgM ((w2.setCell ⟨H + i, q, none⟩ (.int .i64 r.2.1)).setCell ⟨H + 6, 0, none⟩ (.int .i64 r.2.2)) Z2 H (BgB sa j p x (ep' r.2.1) r.2.2 (mem' r.2.1) (ext' r.2.1)) from by
      have s1 := B2.out.put (B' := fun k => if k = i then (BgB sa j p x ep R.2.2 mem ext i).setIfInBounds q (.int .i64 r.2.1) else BgB sa j p x ep R.2.2 mem ext k) hi (.int .i64 r.2.1) (fun k _ hne => if_neg hne) (if_pos rfl)
      refine s1.put hi69 (.int .i64 r.2.2) (fun k hk hne => ?_) ?_
      · by_cases e : k = i
        · subst e
          rw [if_pos rfl]; exact hput2 _ _
        · rw [if_neg e]; exact hput _ _ k hk e hne
      · rw [if_neg (Ne.symm hi6)]; rfl)
    have hne6 : ¬ (H + i = H + 6) := by omega
    have HL := hid ((L2.out.put1 (b := H + i) (o := q) (.int .i64 r.2.1) (B2.out.nz i hi) (by omega)).put1 (b := H + 6) (o := 0) (.int .i64 r.2.2) (B2.out.nz 6 hi69) (by omega))
    have HTU := hid (show Turn (fun b => Z b ∨ H ≤ b) W ((w2.setCell ⟨H + i, q, none⟩ (.int .i64 r.2.1)).setCell ⟨H + 6, 0, none⟩ (.int .i64 r.2.2)) from
      ((m2.t.mono (fun k hk => .inl hk)).trans (Turn.setCell (F := fun b => Z b ∨ H ≤ b) (a := ⟨H + i, q, none⟩) (.int .i64 r.2.1) (.inl (.inr (by simp)))) (fun k hk => .inl hk)).trans (Turn.setCell (F := fun b => Z b ∨ H ≤ b) (a := ⟨H + 6, 0, none⟩) (.int .i64 r.2.2) (.inl (.inr (by simp)))) (fun k hk => .inl hk))
    have HNN := hid m2.n
    clear l2 m2 B2 L2 HM HBB hput hput2
    go_wp2_with fail
    go_end0
    exact ⟨rfl, Z2, by rw [HR.out]; exact HL.out, HTU.out, HNN.out, fun _ => HP.out, fun hn => absurd HE.out hn⟩
  · have HR := hid (show rnS R f = R by unfold rnS; rw [if_neg he])
    have HBB := hid hb
    have HL := hid h
    have HE := hid he
    have hne : (R.2.2 == 0) = false := beq_eq_false_iff_ne.2 he
    clear h hmk he hb hput hput2
    unfold DoS
    rw [HR.out]
    generalize f R.2.1 R.1 = r at *
    go_enter Tryz.func108, Tryz.ntmps108
    go_wp2_with fail
    go_end0
    exact ⟨rfl, Z, HL.out, Turn.refl _ _, fun _ h => .inl h, fun hn => absurd hn HE.out, fun _ => HBB.out⟩
set_option maxHeartbeats 2000000 in
set_option maxRecDepth 100000 in
theorem do_3 (h : LA w0 W Z sa R.1) (hb : BgM W Z H (BgB sa j p x ep R.2.2 mem ext)) (hB : w0.heap.size ≤ H) {i q : Nat} {v0 : Value} (hi : i < 9) (hi6 : i ≠ 6) (hq : (BgB sa j p x ep R.2.2 mem ext i)[q]? = some v0)
    (ep' : Int → List Int) (mem' ext' : Int → Int)
    (hput : ∀ (a e : Int) k, k < 9 → k ≠ i → k ≠ 6 → BgB sa j p x (ep' a) e (mem' a) (ext' a) k = BgB sa j p x ep R.2.2 mem ext k) (hput2 : ∀ a e : Int, BgB sa j p x (ep' a) e (mem' a) (ext' a) i = (BgB sa j p x ep R.2.2 mem ext i).setIfInBounds q (.int .i64 a))
    (hmk : R.2.2 = 0 → Calls Tryz.prog 110 #[.pointer (some ⟨H, 0, none⟩), .pointer (some ⟨H + 7, 0, none⟩)] W (LrS w0 W Z sa (f R.2.1 R.1))) :
    Calls Tryz.prog 108 #[.pointer (some ⟨H + i, q, none⟩), .func (.func 110) #[] #[.pointer (some ⟨H, 0, none⟩), .pointer (some ⟨H + 7, 0, none⟩)], .pointer (some ⟨H + 6, 0, none⟩)] W (DoS w0 W Z sa H j p x R f (fun _ => ep) ep' (fun _ => mem) mem' (fun _ => ext) ext') := by
  have hf := hb.cell (k := 6) (o := 0) (by omega) (show (BgB sa j p x ep R.2.2 mem ext 6)[0]? = some (.int .i64 R.2.2) from rfl)
  by_cases he : R.2.2 = 0
  · have HM := hid (hmk he)
    have HR := hid (show (rnS R f).1 = (f R.2.1 R.1).1 by unfold rnS; rw [if_pos he]; split <;> rfl)
    have HBB := hid hb
    have HE := hid he
    rw [he] at hf
    clear h hmk he hb
    unfold DoS
    generalize f R.2.1 R.1 = r at *
    go_enter Tryz.func108, Tryz.ntmps108
    go_wp2_with fail
    refine HM.out.mono ?_
    rintro e w2 ⟨Z2, rfl, l2, m2⟩
    have B2 := hid (HBB.out.mv m2)
    have L2 := hid l2
    have c1 := B2.out.cell hi hq
    have z1 := B2.out.frozen (o := q) hi
    have c2 := B2.out.cell (k := 6) (o := 0) (by omega) (show (BgB sa j p x ep R.2.2 mem ext 6)[0]? = some (.int .i64 R.2.2) from rfl)
    have z2 := B2.out.frozen (k := 6) (o := 0) (by omega)
    have hi69 : (6 : Nat) < 9 := by decide
    have HP := hid (show BgM ((w2.setCell ⟨H + i, q, none⟩ (.int .i64 r.2.1)).setCell ⟨H + 6, 0, none⟩ (.int .i64 r.2.2)) Z2 H (BgB sa j p x (ep' r.2.1) r.2.2 (mem' r.2.1) (ext' r.2.1)) from by
      have s1 := B2.out.put (B' := fun k => if k = i then (BgB sa j p x ep R.2.2 mem ext i).setIfInBounds q (.int .i64 r.2.1) else BgB sa j p x ep R.2.2 mem ext k) hi (.int .i64 r.2.1) (fun k _ hne => if_neg hne) (if_pos rfl)
      refine s1.put hi69 (.int .i64 r.2.2) (fun k hk hne => ?_) ?_
      · by_cases e : k = i
        · subst e
          rw [if_pos rfl]; exact hput2 _ _
        · rw [if_neg e]; exact hput _ _ k hk e hne
      · rw [if_neg (Ne.symm hi6)]; rfl)
    have hne6 : ¬ (H + i = H + 6) := by omega
    have HL := hid ((L2.out.put1 (b := H + i) (o := q) (.int .i64 r.2.1) (B2.out.nz i hi) (by omega)).put1 (b := H + 6) (o := 0) (.int .i64 r.2.2) (B2.out.nz 6 hi69) (by omega))
    have HTU := hid (show Turn (fun b => Z b ∨ H ≤ b) W ((w2.setCell ⟨H + i, q, none⟩ (.int .i64 r.2.1)).setCell ⟨H + 6, 0, none⟩ (.int .i64 r.2.2)) from
      ((m2.t.mono (fun k hk => .inl hk)).trans (Turn.setCell (F := fun b => Z b ∨ H ≤ b) (a := ⟨H + i, q, none⟩) (.int .i64 r.2.1) (.inl (.inr (by simp)))) (fun k hk => .inl hk)).trans (Turn.setCell (F := fun b => Z b ∨ H ≤ b) (a := ⟨H + 6, 0, none⟩) (.int .i64 r.2.2) (.inl (.inr (by simp)))) (fun k hk => .inl hk))
    have HNN := hid m2.n
    clear l2 m2 B2 L2 HM HBB hput hput2
    go_wp2_with fail
    go_end0
    exact ⟨rfl, Z2, by rw [HR.out]; exact HL.out, HTU.out, HNN.out, fun _ => HP.out, fun hn => absurd HE.out hn⟩
  · have HR := hid (show rnS R f = R by unfold rnS; rw [if_neg he])
    have HBB := hid hb
    have HL := hid h
    have HE := hid he
    have hne : (R.2.2 == 0) = false := beq_eq_false_iff_ne.2 he
    clear h hmk he hb hput hput2
    unfold DoS
    rw [HR.out]
    generalize f R.2.1 R.1 = r at *
    go_enter Tryz.func108, Tryz.ntmps108
    go_wp2_with fail
    go_end0
    exact ⟨rfl, Z, HL.out, Turn.refl _ _, fun _ h => .inl h, fun hn => absurd hn HE.out, fun _ => HBB.out⟩
set_option maxHeartbeats 2000000 in
set_option maxRecDepth 100000 in
theorem do_4 (h : LA w0 W Z sa R.1) (hb : BgM W Z H (BgB sa j p x ep R.2.2 mem ext)) (hB : w0.heap.size ≤ H) {i q : Nat} {v0 : Value} (hi : i < 9) (hi6 : i ≠ 6) (hq : (BgB sa j p x ep R.2.2 mem ext i)[q]? = some v0)
    (ep' : Int → List Int) (mem' ext' : Int → Int)
    (hput : ∀ (a e : Int) k, k < 9 → k ≠ i → k ≠ 6 → BgB sa j p x (ep' a) e (mem' a) (ext' a) k = BgB sa j p x ep R.2.2 mem ext k) (hput2 : ∀ a e : Int, BgB sa j p x (ep' a) e (mem' a) (ext' a) i = (BgB sa j p x ep R.2.2 mem ext i).setIfInBounds q (.int .i64 a))
    (hmk : R.2.2 = 0 → Calls Tryz.prog 112 #[.pointer (some ⟨H, 0, none⟩), .pointer (some ⟨H + 7, 0, none⟩), .pointer (some ⟨H + 3, 0, none⟩)] W (LrS w0 W Z sa (f R.2.1 R.1))) :
    Calls Tryz.prog 108 #[.pointer (some ⟨H + i, q, none⟩), .func (.func 112) #[] #[.pointer (some ⟨H, 0, none⟩), .pointer (some ⟨H + 7, 0, none⟩), .pointer (some ⟨H + 3, 0, none⟩)], .pointer (some ⟨H + 6, 0, none⟩)] W (DoS w0 W Z sa H j p x R f (fun _ => ep) ep' (fun _ => mem) mem' (fun _ => ext) ext') := by
  have hf := hb.cell (k := 6) (o := 0) (by omega) (show (BgB sa j p x ep R.2.2 mem ext 6)[0]? = some (.int .i64 R.2.2) from rfl)
  by_cases he : R.2.2 = 0
  · have HM := hid (hmk he)
    have HR := hid (show (rnS R f).1 = (f R.2.1 R.1).1 by unfold rnS; rw [if_pos he]; split <;> rfl)
    have HBB := hid hb
    have HE := hid he
    rw [he] at hf
    clear h hmk he hb
    unfold DoS
    generalize f R.2.1 R.1 = r at *
    go_enter Tryz.func108, Tryz.ntmps108
    go_wp2_with fail
    refine HM.out.mono ?_
    rintro e w2 ⟨Z2, rfl, l2, m2⟩
    have B2 := hid (HBB.out.mv m2)
    have L2 := hid l2
    have c1 := B2.out.cell hi hq
    have z1 := B2.out.frozen (o := q) hi
    have c2 := B2.out.cell (k := 6) (o := 0) (by omega) (show (BgB sa j p x ep R.2.2 mem ext 6)[0]? = some (.int .i64 R.2.2) from rfl)
    have z2 := B2.out.frozen (k := 6) (o := 0) (by omega)
    have hi69 : (6 : Nat) < 9 := by decide
    have HP := hid (show BgM ((w2.setCell ⟨H + i, q, none⟩ (.int .i64 r.2.1)).setCell ⟨H + 6, 0, none⟩ (.int .i64 r.2.2)) Z2 H (BgB sa j p x (ep' r.2.1) r.2.2 (mem' r.2.1) (ext' r.2.1)) from by
      have s1 := B2.out.put (B' := fun k => if k = i then (BgB sa j p x ep R.2.2 mem ext i).setIfInBounds q (.int .i64 r.2.1) else BgB sa j p x ep R.2.2 mem ext k) hi (.int .i64 r.2.1) (fun k _ hne => if_neg hne) (if_pos rfl)
      refine s1.put hi69 (.int .i64 r.2.2) (fun k hk hne => ?_) ?_
      · by_cases e : k = i
        · subst e
          rw [if_pos rfl]; exact hput2 _ _
        · rw [if_neg e]; exact hput _ _ k hk e hne
      · rw [if_neg (Ne.symm hi6)]; rfl)
    have hne6 : ¬ (H + i = H + 6) := by omega
    have HL := hid ((L2.out.put1 (b := H + i) (o := q) (.int .i64 r.2.1) (B2.out.nz i hi) (by omega)).put1 (b := H + 6) (o := 0) (.int .i64 r.2.2) (B2.out.nz 6 hi69) (by omega))
    have HTU := hid (show Turn (fun b => Z b ∨ H ≤ b) W ((w2.setCell ⟨H + i, q, none⟩ (.int .i64 r.2.1)).setCell ⟨H + 6, 0, none⟩ (.int .i64 r.2.2)) from
      ((m2.t.mono (fun k hk => .inl hk)).trans (Turn.setCell (F := fun b => Z b ∨ H ≤ b) (a := ⟨H + i, q, none⟩) (.int .i64 r.2.1) (.inl (.inr (by simp)))) (fun k hk => .inl hk)).trans (Turn.setCell (F := fun b => Z b ∨ H ≤ b) (a := ⟨H + 6, 0, none⟩) (.int .i64 r.2.2) (.inl (.inr (by simp)))) (fun k hk => .inl hk))
    have HNN := hid m2.n
    clear l2 m2 B2 L2 HM HBB hput hput2
    go_wp2_with fail
    go_end0
    exact ⟨rfl, Z2, by rw [HR.out]; exact HL.out, HTU.out, HNN.out, fun _ => HP.out, fun hn => absurd HE.out hn⟩
  · have HR := hid (show rnS R f = R by unfold rnS; rw [if_neg he])
    have HBB := hid hb
    have HL := hid h
    have HE := hid he
    have hne : (R.2.2 == 0) = false := beq_eq_false_iff_ne.2 he
    clear h hmk he hb hput hput2
    unfold DoS
    rw [HR.out]
    generalize f R.2.1 R.1 = r at *
    go_enter Tryz.func108, Tryz.ntmps108
    go_wp2_with fail
    go_end0
    exact ⟨rfl, Z, HL.out, Turn.refl _ _, fun _ h => .inl h, fun hn => absurd hn HE.out, fun _ => HBB.out⟩
set_option maxHeartbeats 2000000 in
set_option maxRecDepth 100000 in
theorem do_5 (h : LA w0 W Z sa R.1) (hb : BgM W Z H (BgB sa j p x ep R.2.2 mem ext)) (hB : w0.heap.size ≤ H) {i q : Nat} {tb : Nat} {v0 : Value} (hi : i < 9) (hi6 : i ≠ 6) (hq : (BgB sa j p x ep R.2.2 mem ext i)[q]? = some v0)
    (ep' : Int → List Int) (mem' ext' : Int → Int)
    (hput : ∀ (a e : Int) k, k < 9 → k ≠ i → k ≠ 6 → BgB sa j p x (ep' a) e (mem' a) (ext' a) k = BgB sa j p x ep R.2.2 mem ext k) (hput2 : ∀ a e : Int, BgB sa j p x (ep' a) e (mem' a) (ext' a) i = (BgB sa j p x ep R.2.2 mem ext i).setIfInBounds q (.int .i64 a))
    (hmk : R.2.2 = 0 → Calls Tryz.prog 113 #[.pointer (some ⟨H, 0, none⟩), .pointer (some ⟨H + 5, 0, none⟩), .pointer (some ⟨tb, 0, none⟩)] W (LrS w0 W Z sa (f R.2.1 R.1))) :
    Calls Tryz.prog 108 #[.pointer (some ⟨H + i, q, none⟩), .func (.func 113) #[] #[.pointer (some ⟨H, 0, none⟩), .pointer (some ⟨H + 5, 0, none⟩), .pointer (some ⟨tb, 0, none⟩)], .pointer (some ⟨H + 6, 0, none⟩)] W (DoS w0 W Z sa H j p x R f (fun _ => ep) ep' (fun _ => mem) mem' (fun _ => ext) ext') := by
  have hf := hb.cell (k := 6) (o := 0) (by omega) (show (BgB sa j p x ep R.2.2 mem ext 6)[0]? = some (.int .i64 R.2.2) from rfl)
  by_cases he : R.2.2 = 0
  · have HM := hid (hmk he)
    have HR := hid (show (rnS R f).1 = (f R.2.1 R.1).1 by unfold rnS; rw [if_pos he]; split <;> rfl)
    have HBB := hid hb
    have HE := hid he
    rw [he] at hf
    clear h hmk he hb
    unfold DoS
    generalize f R.2.1 R.1 = r at *
    go_enter Tryz.func108, Tryz.ntmps108
    go_wp2_with fail
    refine HM.out.mono ?_
    rintro e w2 ⟨Z2, rfl, l2, m2⟩
    have B2 := hid (HBB.out.mv m2)
    have L2 := hid l2
    have c1 := B2.out.cell hi hq
    have z1 := B2.out.frozen (o := q) hi
    have c2 := B2.out.cell (k := 6) (o := 0) (by omega) (show (BgB sa j p x ep R.2.2 mem ext 6)[0]? = some (.int .i64 R.2.2) from rfl)
    have z2 := B2.out.frozen (k := 6) (o := 0) (by omega)
    have hi69 : (6 : Nat) < 9 := by decide
    have HP := hid (show BgM ((w2.setCell ⟨H + i, q, none⟩ (.int .i64 r.2.1)).setCell ⟨H + 6, 0, none⟩ (.int .i64 r.2.2)) Z2 H (BgB sa j p x (ep' r.2.1) r.2.2 (mem' r.2.1) (ext' r.2.1)) from by
      have s1 := B2.out.put (B' := fun k => if k = i then (BgB sa j p x ep R.2.2 mem ext i).setIfInBounds q (.int .i64 r.2.1) else BgB sa j p x ep R.2.2 mem ext k) hi (.int .i64 r.2.1) (fun k _ hne => if_neg hne) (if_pos rfl)
      refine s1.put hi69 (.int .i64 r.2.2) (fun k hk hne => ?_) ?_
      · by_cases e : k = i
        · subst e
          rw [if_pos rfl]; exact hput2 _ _
        · rw [if_neg e]; exact hput _ _ k hk e hne
      · rw [if_neg (Ne.symm hi6)]; rfl)
    have hne6 : ¬ (H + i = H + 6) := by omega
    have HL := hid ((L2.out.put1 (b := H + i) (o := q) (.int .i64 r.2.1) (B2.out.nz i hi) (by omega)).put1 (b := H + 6) (o := 0) (.int .i64 r.2.2) (B2.out.nz 6 hi69) (by omega))
    have HTU := hid (show Turn (fun b => Z b ∨ H ≤ b) W ((w2.setCell ⟨H + i, q, none⟩ (.int .i64 r.2.1)).setCell ⟨H + 6, 0, none⟩ (.int .i64 r.2.2)) from
      ((m2.t.mono (fun k hk => .inl hk)).trans (Turn.setCell (F := fun b => Z b ∨ H ≤ b) (a := ⟨H + i, q, none⟩) (.int .i64 r.2.1) (.inl (.inr (by simp)))) (fun k hk => .inl hk)).trans (Turn.setCell (F := fun b => Z b ∨ H ≤ b) (a := ⟨H + 6, 0, none⟩) (.int .i64 r.2.2) (.inl (.inr (by simp)))) (fun k hk => .inl hk))
    have HNN := hid m2.n
    clear l2 m2 B2 L2 HM HBB hput hput2
    go_wp2_with fail
    go_end0
    exact ⟨rfl, Z2, by rw [HR.out]; exact HL.out, HTU.out, HNN.out, fun _ => HP.out, fun hn => absurd HE.out hn⟩
  · have HR := hid (show rnS R f = R by unfold rnS; rw [if_neg he])
    have HBB := hid hb
    have HL := hid h
    have HE := hid he
    have hne : (R.2.2 == 0) = false := beq_eq_false_iff_ne.2 he
    clear h hmk he hb hput hput2
    unfold DoS
    rw [HR.out]
    generalize f R.2.1 R.1 = r at *
    go_enter Tryz.func108, Tryz.ntmps108
    go_wp2_with fail
    go_end0
    exact ⟨rfl, Z, HL.out, Turn.refl _ _, fun _ h => .inl h, fun hn => absurd hn HE.out, fun _ => HBB.out⟩
set_option maxHeartbeats 2000000 in
set_option maxRecDepth 100000 in
theorem do_6 (h : LA w0 W Z sa R.1) (hb : BgM W Z H (BgB sa j p x ep R.2.2 mem ext)) (hB : w0.heap.size ≤ H) {i q : Nat} {v0 : Value} (hi : i < 9) (hi6 : i ≠ 6) (hq : (BgB sa j p x ep R.2.2 mem ext i)[q]? = some v0)
    (ep' : Int → List Int) (mem' ext' : Int → Int)
    (hput : ∀ (a e : Int) k, k < 9 → k ≠ i → k ≠ 6 → BgB sa j p x (ep' a) e (mem' a) (ext' a) k = BgB sa j p x ep R.2.2 mem ext k) (hput2 : ∀ a e : Int, BgB sa j p x (ep' a) e (mem' a) (ext' a) i = (BgB sa j p x ep R.2.2 mem ext i).setIfInBounds q (.int .i64 a))
    (hmk : R.2.2 = 0 → Calls Tryz.prog 114 #[.pointer (some ⟨H, 0, none⟩), .pointer (some ⟨H + 8, 0, none⟩)] W (LrS w0 W Z sa (f R.2.1 R.1))) :
    Calls Tryz.prog 108 #[.pointer (some ⟨H + i, q, none⟩), .func (.func 114) #[] #[.pointer (some ⟨H, 0, none⟩), .pointer (some ⟨H + 8, 0, none⟩)], .pointer (some ⟨H + 6, 0, none⟩)] W (DoS w0 W Z sa H j p x R f (fun _ => ep) ep' (fun _ => mem) mem' (fun _ => ext) ext') := by
  have hf := hb.cell (k := 6) (o := 0) (by omega) (show (BgB sa j p x ep R.2.2 mem ext 6)[0]? = some (.int .i64 R.2.2) from rfl)
  by_cases he : R.2.2 = 0
  · have HM := hid (hmk he)
    have HR := hid (show (rnS R f).1 = (f R.2.1 R.1).1 by unfold rnS; rw [if_pos he]; split <;> rfl)
    have HBB := hid hb
    have HE := hid he
    rw [he] at hf
    clear h hmk he hb
    unfold DoS
    generalize f R.2.1 R.1 = r at *
    go_enter Tryz.func108, Tryz.ntmps108
    go_wp2_with fail
    refine HM.out.mono ?_
    rintro e w2 ⟨Z2, rfl, l2, m2⟩
    have B2 := hid (HBB.out.mv m2)
    have L2 := hid l2
    have c1 := B2.out.cell hi hq
    have z1 := B2.out.frozen (o := q) hi
    have c2 := B2.out.cell (k := 6) (o := 0) (by omega) (show (BgB sa j p x ep R.2.2 mem ext 6)[0]? = some (.int .i64 R.2.2) from rfl)
    have z2 := B2.out.frozen (k := 6) (o := 0) (by omega)
    have hi69 : (6 : Nat) < 9 := by decide
    have HP := hid (show BgM ((w2.setCell ⟨H + i, q, none⟩ (.int .i64 r.2.1)).setCell ⟨H + 6, 0, none⟩ (.int .i64 r.2.2)) Z2 H (BgB sa j p x (ep' r.2.1) r.2.2 (mem' r.2.1) (ext' r.2.1)) from by
      have s1 := B2.out.put (B' := fun k => if k = i then (BgB sa j p x ep R.2.2 mem ext i).setIfInBounds q (.int .i64 r.2.1) else BgB sa j p x ep R.2.2 mem ext k) hi (.int .i64 r.2.1) (fun k _ hne => if_neg hne) (if_pos rfl)
      refine s1.put hi69 (.int .i64 r.2.2) (fun k hk hne => ?_) ?_
      · by_cases e : k = i
        · subst e
          rw [if_pos rfl]; exact hput2 _ _
        · rw [if_neg e]; exact hput _ _ k hk e hne
      · rw [if_neg (Ne.symm hi6)]; rfl)
    have hne6 : ¬ (H + i = H + 6) := by omega
    have HL := hid ((L2.out.put1 (b := H + i) (o := q) (.int .i64 r.2.1) (B2.out.nz i hi) (by omega)).put1 (b := H + 6) (o := 0) (.int .i64 r.2.2) (B2.out.nz 6 hi69) (by omega))
    have HTU := hid (show Turn (fun b => Z b ∨ H ≤ b) W ((w2.setCell ⟨H + i, q, none⟩ (.int .i64 r.2.1)).setCell ⟨H + 6, 0, none⟩ (.int .i64 r.2.2)) from
      ((m2.t.mono (fun k hk => .inl hk)).trans (Turn.setCell (F := fun b => Z b ∨ H ≤ b) (a := ⟨H + i, q, none⟩) (.int .i64 r.2.1) (.inl (.inr (by simp)))) (fun k hk => .inl hk)).trans (Turn.setCell (F := fun b => Z b ∨ H ≤ b) (a := ⟨H + 6, 0, none⟩) (.int .i64 r.2.2) (.inl (.inr (by simp)))) (fun k hk => .inl hk))
    have HNN := hid m2.n
    clear l2 m2 B2 L2 HM HBB hput hput2
    go_wp2_with fail
    go_end0
    exact ⟨rfl, Z2, by rw [HR.out]; exact HL.out, HTU.out, HNN.out, fun _ => HP.out, fun hn => absurd HE.out hn⟩
  · have HR := hid (show rnS R f = R by unfold rnS; rw [if_neg he])
    have HBB := hid hb
    have HL := hid h
    have HE := hid he
    have hne : (R.2.2 == 0) = false := beq_eq_false_iff_ne.2 he
    clear h hmk he hb hput hput2
    unfold DoS
    rw [HR.out]
    generalize f R.2.1 R.1 = r at *
    go_enter Tryz.func108, Tryz.ntmps108
    go_wp2_with fail
    go_end0
    exact ⟨rfl, Z, HL.out, Turn.refl _ _, fun _ h => .inl h, fun hn => absurd hn HE.out, fun _ => HBB.out⟩
end
end Go.Proofs.YtfmkniakfgpgjaaGreatDoor

/- schedule: what the closures of Begin make. -/
namespace Go.Proofs.YtfmkniakfgpgjaaGreatDoor
open Go.RowKit Go.KK Go.Shelf Go.Maps
set_option linter.unusedVariables false
set_option linter.unusedSimpArgs false

section
variable {w0 W : World} {Z : Nat → Prop} {sa H : Nat} {xs : List ND} {j p x : Int} {ep : List Int} {first mem ext : Int}
theorem cl_2 (h : LA w0 W Z sa xs) (hT : Tb w0.heap.size w0) (hb : BgM W Z H (BgB sa j p x ep first mem ext)) (hj : I64 j) (hp : I64 p) :
    Calls Tryz.prog 109 #[.pointer (some ⟨H, 0, none⟩), .pointer (some ⟨H + 1, 0, none⟩), .pointer (some ⟨H + 2, 0, none⟩)] W (LrS w0 W Z sa (exF xs j p)) := by
  have c0 := hb.cell (k := 0) (o := 0) (by omega) rfl
  rw [Nat.add_zero] at c0
  have c1 := hb.cell (k := 1) (o := 0) (by omega) rfl
  have c2 := hb.cell (k := 2) (o := 0) (by omega) rfl
  have HM := hid (l_ex h hT hj hp)
  clear h hT hb
  unfold LrS at HM ⊢
  generalize exF xs j p = r at *
  go_enter Tryz.func109, Tryz.ntmps109
  go_wp2_with fail
  refine HM.out.mono ?_
  rintro e w2 ⟨Z2, rfl, l2, m2⟩
  have L2 := hid l2; have M2 := hid m2
  clear l2 m2 HM
  go_wp2_with fail
  go_ret2
  exact ⟨Z2, rfl, L2.out, M2.out⟩
theorem cl_3 (h : LA w0 W Z sa xs) (hT : Tb w0.heap.size w0) (hb : BgM W Z H (BgB sa j p x ep first mem ext)) (hm : I64 mem) :
    Calls Tryz.prog 110 #[.pointer (some ⟨H, 0, none⟩), .pointer (some ⟨H + 7, 0, none⟩)] W (LrS w0 W Z sa (dvF xs mem lbWelcome)) := by
  have c0 := hb.cell (k := 0) (o := 0) (by omega) rfl
  rw [Nat.add_zero] at c0
  have c1 := hb.cell (k := 7) (o := 0) (by omega) rfl
  have HM := hid (l_dv h hT hm lbWelcome)
  clear h hT hb
  unfold LrS at HM ⊢
  generalize dvF xs mem lbWelcome = r at *
  unfold lbWelcome at HM
  go_enter Tryz.func110, Tryz.ntmps110
  go_wp2_with fail
  refine HM.out.mono ?_
  rintro e w2 ⟨Z2, rfl, l2, m2⟩
  have L2 := hid l2; have M2 := hid m2
  clear l2 m2 HM
  go_wp2_with fail
  go_ret2
  exact ⟨Z2, rfl, L2.out, M2.out⟩
theorem cl_4 (h : LA w0 W Z sa xs) (hT : Tb w0.heap.size w0) (hb : BgM W Z H (BgB sa j p x ep first mem ext)) (hm : I64 mem) (hx : I64 x) :
    Calls Tryz.prog 112 #[.pointer (some ⟨H, 0, none⟩), .pointer (some ⟨H + 7, 0, none⟩), .pointer (some ⟨H + 3, 0, none⟩)] W (LrS w0 W Z sa (exdF xs mem lbEpoch x)) := by
  have c0 := hb.cell (k := 0) (o := 0) (by omega) rfl
  rw [Nat.add_zero] at c0
  have c1 := hb.cell (k := 7) (o := 0) (by omega) rfl
  have c2 := hb.cell (k := 3) (o := 0) (by omega) rfl
  have HM := hid (l_exd h hT hm hx lbEpoch)
  clear h hT hb
  unfold LrS at HM ⊢
  generalize exdF xs mem lbEpoch x = r at *
  unfold lbEpoch at HM
  go_enter Tryz.func112, Tryz.ntmps112
  go_wp2_with fail
  refine HM.out.mono ?_
  rintro e w2 ⟨Z2, rfl, l2, m2⟩
  have L2 := hid l2; have M2 := hid m2
  clear l2 m2 HM
  go_wp2_with fail
  go_ret2
  exact ⟨Z2, rfl, L2.out, M2.out⟩
theorem cl_5 (h : LA w0 W Z sa xs) (hT : Tb w0.heap.size w0) (hb : BgM W Z H (BgB sa j p x ep first mem ext)) (he : I64 (ep.getD 2 0)) (h11 : ep.length = 11) {tb : Nat} {lab : ByteArray} (ht : W.cell? ⟨tb, 1, none⟩ = some (.string lab)) :
    Calls Tryz.prog 113 #[.pointer (some ⟨H, 0, none⟩), .pointer (some ⟨H + 5, 0, none⟩), .pointer (some ⟨tb, 0, none⟩)] W (LrS w0 W Z sa (dvF xs (ep.getD 2 0) lab)) := by
  have c0 := hb.cell (k := 0) (o := 0) (by omega) rfl
  rw [Nat.add_zero] at c0
  have c1 := hb.cell (k := 5) (o := 2) (v := .int .i64 (ep.getD 2 0)) (by omega) (by
    show ((ep.map (Value.int .i64)).toArray)[2]? = _
    rw [List.getElem?_toArray, List.getElem?_map, List.getD, List.getElem?_eq_getElem (by omega)]; rfl)
  have HM := hid (l_dv h hT he lab)
  clear h hT hb h11
  unfold LrS at HM ⊢
  generalize dvF xs (ep.getD 2 0) lab = r at *
  generalize ep.getD 2 0 = e2 at *
  go_enter Tryz.func113, Tryz.ntmps113
  go_wp2_with fail
  refine HM.out.mono ?_
  rintro e w2 ⟨Z2, rfl, l2, m2⟩
  have L2 := hid l2; have M2 := hid m2
  clear l2 m2 HM
  go_wp2_with fail
  go_ret2
  exact ⟨Z2, rfl, L2.out, M2.out⟩
theorem cl_6 (h : LA w0 W Z sa xs) (hT : Tb w0.heap.size w0) (hb : BgM W Z H (BgB sa j p x ep first mem ext)) (he : I64 ext) :
    Calls Tryz.prog 114 #[.pointer (some ⟨H, 0, none⟩), .pointer (some ⟨H + 8, 0, none⟩)] W (LrS w0 W Z sa (pbF xs ext)) := by
  have c0 := hb.cell (k := 0) (o := 0) (by omega) rfl
  rw [Nat.add_zero] at c0
  have c1 := hb.cell (k := 8) (o := 0) (by omega) rfl
  have HM := hid (l_pb h hT he)
  clear h hT hb
  unfold LrS at HM ⊢
  generalize pbF xs ext = r at *
  go_enter Tryz.func114, Tryz.ntmps114
  go_wp2_with fail
  refine HM.out.mono ?_
  rintro e w2 ⟨Z2, rfl, l2, m2⟩
  have L2 := hid l2; have M2 := hid m2
  clear l2 m2 HM
  go_wp2_with fail
  go_ret2
  exact ⟨Z2, rfl, L2.out, M2.out⟩
end
end Go.Proofs.YtfmkniakfgpgjaaGreatDoor

/- schedule: Begin. -/
namespace Go.KK
open Go.RowKit
set_option linter.unusedVariables false
set_option linter.unusedSimpArgs false
theorem getD_snoc {acc : List Int} {a : Int} {n : Nat} (h : acc.length = n) (i : Nat) : (acc ++ [a]).getD i 0 = if i = n then a else acc.getD i 0 := by
  subst h
  rw [List.getD, List.getD]
  by_cases h1 : i = acc.length
  · subst h1
    rw [if_pos rfl, List.getElem?_append_right (Nat.le_refl _), Nat.sub_self]; rfl
  · rw [if_neg h1]
    by_cases h2 : i < acc.length
    · rw [List.getElem?_append_left h2]
    · rw [List.getElem?_eq_none (by simp; omega), List.getElem?_eq_none (by omega)]
theorem run_take {xs : List ND} {fs : List (List Int → List ND → Rs)} {k : Nat} {f : List Int → List ND → Rs} (h : fs[k]? = some f) : runF xs [] (fs.take (k + 1)) = rnS (runF xs [] (fs.take k)) f := by
  rw [take_one h, run_snoc]
end Go.KK
namespace Go.Proofs.YtfmkniakfgpgjaaGreatDoor
open Go.RowKit Go.KK Go.Shelf Go.Maps

/-- An epoch's value. -/
def epV (ep : List Int) : Value := .agg (ep.map (.int .i64)).toArray
/-- A call that makes an epoch. -/
def EpS (w0 W : World) (Z : Nat → Prop) (sa : Nat) (r : List ND × List Int × Int) (e : Ending) (w' : World) : Prop := ∃ Z', e = .returned (.tuple #[epV r.2.1, .int .i64 r.2.2]) ∧ LA w0 w' Z' sa r.1 ∧ Mv Z W Z' w'
theorem Mv.step {Z Z1 Z2 : Nat → Prop} {W W1 W2 : World} {H : Nat} (a : Mv Z W Z1 W1) (ht : Turn (fun b => Z1 b ∨ H ≤ b) W1 W2) (hn : ∀ b, Z2 b → Z1 b ∨ W1.heap.size ≤ b) (hH : W.heap.size ≤ H) : Mv Z W Z2 W2 :=
  ⟨a.t.trans ht (fun k hk => hk.elim (a.n k) fun h => .inr (Nat.le_trans hH h)), fun k hk => (hn k hk).elim (a.n k) fun h => .inr (Nat.le_trans a.t.size h)⟩
theorem bgb_mem {sa k : Nat} {j p x : Int} {ep : List Int} {e e' m m' ext : Int} (h7 : k ≠ 7) (h6 : k ≠ 6) : BgB sa j p x ep e m ext k = BgB sa j p x ep e' m' ext k := by
  unfold BgB; split <;> simp_all
theorem bgb_ext {sa k : Nat} {j p x : Int} {ep : List Int} {e e' m ext ext' : Int} (h7 : k ≠ 8) (h6 : k ≠ 6) : BgB sa j p x ep e m ext k = BgB sa j p x ep e' m ext' k := by
  unfold BgB; split <;> simp_all
theorem bgb_ep {sa k : Nat} {j p x : Int} {ep ep' : List Int} {e e' m ext : Int} (h7 : k ≠ 5) (h6 : k ≠ 6) : BgB sa j p x ep e m ext k = BgB sa j p x ep' e' m ext k := by
  unfold BgB; split <;> simp_all
theorem bgb_set {sa : Nat} {j p x : Int} {ep : List Int} {e e' m ext a : Int} (q : Nat) : BgB sa j p x (ep.set q a) e m ext 5 = (BgB sa j p x ep e' m ext 5).setIfInBounds q (.int .i64 a) := by
  show ((ep.set q a).map (Value.int .i64)).toArray = ((ep.map (Value.int .i64)).toArray).setIfInBounds q (.int .i64 a)
  rw [List.map_set]; simp
theorem bgb_at {sa : Nat} {j p x : Int} {ep : List Int} {e m ext : Int} {q : Nat} (h : q < ep.length) : (BgB sa j p x ep e m ext 5)[q]? = some (.int .i64 (ep.getD q 0)) := by
  show ((ep.map (Value.int .i64)).toArray)[q]? = _
  rw [List.getElem?_toArray, List.getElem?_map, List.getD, List.getElem?_eq_getElem h]; rfl
theorem i64_getD {l : List Int} (h : ∀ a ∈ l, I64 a) (i : Nat) : I64 (l.getD i 0) := by
  rw [List.getD]
  rcases hi : l[i]? with _ | a
  · exact ⟨by decide, by decide⟩
  · exact h a (List.mem_of_getElem? hi)
/-- Where Begin stands behind so many steps. -/
structure BgI (w0 W : World) (Z : Nat → Prop) (sa : Nat) (j p x : Int) (R : List ND × List Int × Int) (wr : World) (Zr : Nat → Prop) (ep : List Int) (mem ext : Int) : Prop where
  la : LA w0 wr Zr sa R.1
  mv : Mv Z W Zr wr
  bg : BgM wr Zr W.heap.size (BgB sa j p x ep R.2.2 mem ext)
  l11 : ep.length = 11
  i64 : R.2.2 = 0 → ∀ a ∈ R.2.1, I64 a
  ok : R.2.2 = 0 → ep = epL j R.2.1 ∧ mem = R.2.1.getD 0 0 ∧ ext = R.2.1.getD 10 0
section
variable {w0 W : World} {Z : Nat → Prop} {sa : Nat} {xs : List ND} {j p x : Int}
theorem BgI.next {R : List ND × List Int × Int} {wr w' : World} {Zr : Nat → Prop} {ep : List Int} {mem ext : Int} (h : BgI w0 W Z sa j p x R wr Zr ep mem ext) {f : List Int → List ND → Rs} {ep' : Int → List Int} {mem' ext' : Int → Int} {e : Ending}
    (hd : DoS w0 wr Zr sa W.heap.size j p x R f (fun _ => ep) ep' (fun _ => mem) mem' (fun _ => ext) ext' e w') (hsb : Sb (f R.2.1)) (hl : ∀ a, (ep' a).length = 11)
    (hs : R.2.2 = 0 → ∀ a, ep' a = epL j (R.2.1 ++ [a]) ∧ mem' a = (R.2.1 ++ [a]).getD 0 0 ∧ ext' a = (R.2.1 ++ [a]).getD 10 0) :
    e = .returned (.tuple #[]) ∧ ∃ Z' ep2 mem2 ext2, BgI w0 W Z sa j p x (rnS R f) w' Z' ep2 mem2 ext2 := by
  obtain ⟨he, Z', h1, h2, h3, h4, h5⟩ := hd
  refine ⟨he, Z', ?_⟩
  have hm := h.mv.step h2 h3 (Nat.le_refl _)
  by_cases h0 : R.2.2 = 0
  · have hb := h4 h0
    have e1 : rnS R f = (if (f R.2.1 R.1).2.2 = 0 then ((f R.2.1 R.1).1, R.2.1 ++ [(f R.2.1 R.1).2.1], 0) else ((f R.2.1 R.1).1, R.2.1, (f R.2.1 R.1).2.2)) := by unfold rnS; rw [if_pos h0]
    by_cases h6 : (f R.2.1 R.1).2.2 = 0
    · rw [if_pos h6] at e1
      rw [h6] at hb
      rw [e1] at h1 ⊢
      have hi : I64 (f R.2.1 R.1).2.1 := by
        have a := has_iff.1 (hsb.has R.1 h6)
        have b := h1.ar.ok.len
        try dsimp only at b
        exact ⟨by omega, by omega⟩
      refine ⟨ep' (f R.2.1 R.1).2.1, mem' (f R.2.1 R.1).2.1, ext' (f R.2.1 R.1).2.1, h1, hm, hb, hl _, fun _ a ha => ?_, fun _ => hs h0 _⟩
      rcases List.mem_append.1 ha with ha | ha
      · exact h.i64 h0 a ha
      · rw [List.mem_singleton] at ha; subst ha; exact hi
    · rw [if_neg h6] at e1
      rw [e1] at h1 ⊢
      exact ⟨ep' (f R.2.1 R.1).2.1, mem' (f R.2.1 R.1).2.1, ext' (f R.2.1 R.1).2.1, h1, hm, hb, hl _, fun h => absurd h h6, fun h => absurd h h6⟩
  · have e1 : rnS R f = R := by unfold rnS; rw [if_neg h0]
    rw [e1] at h1 ⊢
    exact ⟨ep, mem, ext, h1, hm, h5 h0, h.l11, fun h => absurd h h0, fun h => absurd h h0⟩
/-- The variables as they are made. -/
theorem bg_new (h : LA w0 W Z sa xs) : BgM (((((((((W.alloc (.cells #[.pointer (some ⟨sa, 0, none⟩)] 27)).alloc (.cells #[.int .i64 j] 3)).alloc (.cells #[.int .i64 p] 3)).alloc (.cells #[.int .i64 x] 3)).alloc (.cells #[.int .i64 0, .int .i64 0, .int .i64 0, .int .i64 0, .int .i64 0, .int .i64 0, .int .i64 0, .int .i64 0, .int .i64 0, .int .i64 0, .int .i64 0] 29)).alloc (.cells #[.int .i64 j, .int .i64 0, .int .i64 0, .int .i64 0, .int .i64 0, .int .i64 0, .int .i64 0, .int .i64 0, .int .i64 0, .int .i64 0, .int .i64 0] 29)).alloc (.cells #[.int .i64 0] 34)).alloc (.cells #[.int .i64 0] 3)).alloc (.cells #[.int .i64 0] 3)) Z W.heap.size (BgB sa j p x (epL j []) 0 0 0) := by
  refine ⟨fun k hk => ?_, fun k hk hz => by have := h.ar.zlt _ hz; omega⟩
  have : k = 0 ∨ k = 1 ∨ k = 2 ∨ k = 3 ∨ k = 4 ∨ k = 5 ∨ k = 6 ∨ k = 7 ∨ k = 8 := by omega
  rcases this with rfl | rfl | rfl | rfl | rfl | rfl | rfl | rfl | rfl
  all_goals
    simp only [World.alloc, Array.getElem?_push, Array.size_push]
    repeat (first | rw [if_neg (by omega)] | rw [if_pos (by omega)])
    rfl
end
end Go.Proofs.YtfmkniakfgpgjaaGreatDoor

