import Derived.Test.YtkgobglmkhkbbaaGreatDoorZ06
import Derived.Test.YtkgobglmkhkbbaaGreatDoorZ04
import Derived.Test.YtkgobglmkhkbbaaGreatDoorZ03
/- schedule: Psk, Joiner. -/
namespace Go.KK
open Go.RowKit
set_option linter.unusedVariables false
set_option linter.unusedSimpArgs false
theorem psk_err {r : Rs} (h : r.2.2 ≠ 0) : ∀ m : List Int, m ≠ [] → pskG r m = (r.1, 0, r.2.2) := by
  intro m
  induction m generalizing r with
  | nil => intro h; exact absurd rfl h
  | cons s m ih =>
    intro _
    have e : bdF r (fun ys p => exF ys p s) = (r.1, 0, r.2.2) := by unfold bdF; rw [if_neg h]
    show pskG (bdF r fun ys p => exF ys p s) m = _
    rw [e]
    rcases m with _ | ⟨t, m⟩
    · rfl
    · exact ih (r := (r.1, 0, r.2.2)) h (by simp)
theorem psk_split (r : Rs) : ∀ (l m : List Int), pskG r (l ++ m) = pskG (pskG r l) m := by
  intro l
  induction l generalizing r with
  | nil => intro m; rfl
  | cons s l ih => intro m; exact ih _ m
theorem psk_stuck {xs : List ND} {l : List Int} {j : Nat} (hj : j < l.length) (h : (pskF xs (l.take j)).2.2 ≠ 0) : pskF xs l = ((pskF xs (l.take j)).1, 0, (pskF xs (l.take j)).2.2) := by
  have e : l = l.take j ++ l.drop j := (List.take_append_drop j l).symm
  have e2 : pskF xs l = pskG (pskF xs (l.take j)) (l.drop j) := by
    conv => lhs; rw [e]
    exact psk_split _ _ _
  rw [e2]
  exact psk_err h _ (by
    intro h
    have := congrArg List.length h
    simp at this
    omega)
theorem psk_one {xs : List ND} {l : List Int} {j : Nat} {s : Int} (hs : l[j]? = some s) (h : (pskF xs (l.take j)).2.2 = 0) : pskF xs (l.take (j + 1)) = exF (pskF xs (l.take j)).1 (pskF xs (l.take j)).2.1 s := by
  have e : pskF xs (l.take (j + 1)) = bdF (pskF xs (l.take j)) fun ys p => exF ys p s := by
    unfold pskF
    rw [take_one hs, psk_snoc]
  rw [e]
  unfold bdF
  rw [if_pos h]
end Go.KK
namespace Go.Proofs.YtkgobglmkhkbbaaGreatDoor
open Go.RowKit Go.KK Go.Shelf Go.Maps

/-- A row of numbers that the arena's steps leave alone. -/
def SlM (W : World) (Z : Nat → Prop) (A : Option Addr) (n c : Nat) (l : List Int) : Prop := SlA W 1 A n c (l.map (.int .i64)) ∧ ∀ b o, A = some ⟨b, o, none⟩ → 0 < n → b < W.heap.size ∧ ¬ Z b
theorem SlM.mv {W W' : World} {Z Z' : Nat → Prop} {A : Option Addr} {n c : Nat} {l : List Int} (h : SlM W Z A n c l) (m : Mv Z W Z' W') : SlM W' Z' A n c l := by
  refine ⟨⟨h.1.nc, h.1.cm, h.1.len, fun j u hj => ?_⟩, fun b o e hn => ?_⟩
  · have hjl := (List.getElem?_eq_some_iff.1 hj).1
    have hlen := h.1.len
    obtain ⟨b, off, e, hc⟩ := h.1.cells j u hj
    have hn : 0 < n := by omega
    obtain ⟨h1, h2⟩ := h.2 b off e hn
    refine ⟨b, off, e, ?_⟩
    rw [World.cell?_of_block (a := ⟨b, off + j, none⟩) (show W'.heap[b]? = W.heap[b]? from m.t.block b h1 h2)]
    exact hc
  · obtain ⟨h1, h2⟩ := h.2 b o e hn
    refine ⟨Nat.lt_of_lt_of_le h1 m.t.size, fun hz => ?_⟩
    rcases m.n b hz with h | h
    · exact h2 h
    · omega
theorem SlM.of_in {w0 W : World} {Z : Nat → Prop} {sa : Nat} {xs : List ND} {A : Option Addr} {n c : Nat} {l : List Int} (h : SlA w0 1 A n c (l.map (.int .i64))) (la : LA w0 W Z sa xs) : SlM W Z A n c l := by
  refine ⟨h.ext la.bl, fun b o e hn => ?_⟩
  obtain ⟨b', o', x, e', -, hc⟩ := h.elemI hn
  rw [e] at e'
  injection e' with e'
  injection e' with e1 e2
  subst e1
  have := block_lt_of_cell hc
  exact ⟨Nat.lt_of_lt_of_le this la.sz, fun hz => by have := la.z b hz; simp only at *; omega⟩
theorem SlM.nil (W : World) (Z : Nat → Prop) : SlM W Z none 0 0 [] := ⟨SlA.nil _ _, fun b o e => by cases e⟩
section
variable {w0 W W' : World} {Z Z' : Nat → Prop} {sa : Nat} {xs xs' : List ND}
set_option maxHeartbeats 2000000 in
set_option maxRecDepth 100000 in
theorem l_psk (h : LA w0 W Z sa xs) (hT : Tb w0.heap.size w0) {A : Option Addr} {n c : Nat} {l : List Int} (hl : SlM W Z A n c l) (hn : n ≤ 100000) (hi : ∀ i ∈ l, I64 i) :
    Calls Tryz.prog 18 #[.pointer (some ⟨sa, 0, none⟩), .slice A n c] W (LrS w0 W Z sa (pskF xs l)) := by
  have HT := hid hT; have HL := hid hl; have HI := hid hi
  have HLN := hid hl.1.lenI
  have HX := hid (l_text h hT ⟨#[]⟩)
  have HI0 := hid (show I64 (mk xs (txN ⟨#[]⟩)).2.1 from idx_i64 h.ar.ok (txN ⟨#[]⟩))
  clear h hT hl hi
  go_enter Tryz.func18, Tryz.ntmps18
  go_wp2_with fail
  refine HX.out.mono ?_
  rintro e w2 ⟨Z2, rfl, l2, m2⟩
  have L2 := hid l2; have M2 := hid m2
  clear l2 m2 HX
  have HOK := hid L2.out.ar.ok
  go_wp2_with fail
  go_loopw [17, 6, 7] (fun v p e wr => ∃ (j : Nat) (Zr : Nat → Prop) (R : Rs), v = .int .i64 j ∧ j ≤ n ∧ Hid (R = pskF xs (l.take j)) ∧ p = .int .i64 R.2.1 ∧ e = .int .i64 R.2.2 ∧ I64 R.2.1 ∧ LA w0 wr Zr sa R.1 ∧ Mv Z W Zr wr) (fun v _ _ _ => n - (intOf v).toNat)
  case atStart => exact ⟨0, Z2, _, rfl, Nat.zero_le _, hid rfl, rfl, rfl, HI0.out, L2.out, M2.out⟩
  case round =>
    clear L2 M2 HOK
    obtain ⟨j, Zr, R, hv, hj, hR, hp, he, hpi, hla, hmv⟩ := hrel
    subst hv; subst hp; subst he
    have HLA := hid hla; have HMV := hid hmv
    clear hla hmv
    by_cases hlt : j < n
    · obtain ⟨b, off, y, rfl, hy, hcy⟩ := (HL.out.mv HMV.out).1.elemI hlt
      have hlt' : (j : Int) < (n : Int) := by omega
      have hyi : I64 y := HI.out y (List.mem_of_getElem? hy)
      by_cases he : R.2.2 = 0
      · have HST := hid (show pskF xs (l.take (j + 1)) = exF R.1 R.2.1 y by
          have := psk_one (xs := xs) hy (by rw [← hR.out]; exact he)
          rwa [← hR.out] at this)
        have HEX := hid (l_ex HLA.out HT.out hpi hyi)
        have hii : I64 (exF R.1 R.2.1 y).2.1 := idx_i64 HLA.out.ar.ok (ndN 5 [R.2.1, y])
        have HLT := hid hlt
        rw [he]
        clear hy
        generalize exF R.1 R.2.1 y = r at *
        go_wp2_with fail
        refine HEX.out.mono ?_
        rintro e w3 ⟨Z3, rfl, l3, m3⟩
        have L3 := hid l3; have M3 := hid (HMV.out.trans m3)
        clear l3 m3 HEX HLA HMV hcy
        go_wp2_with fail
        go_roundw
        case rel => exact ⟨j + 1, Z3, r, by go_num, by have := HLT.out; omega, hid HST.out.symm, rfl, rfl, hii, L3.out, M3.out⟩
        case measure => have := HLT.out; simp [intOf]; omega
      · have HST := hid (show pskF xs l = (R.1, 0, R.2.2) by
          have := psk_stuck (xs := xs) (l := l) (j := j) (by have := HLN.out; omega) (by rw [← hR.out]; exact he)
          rwa [← hR.out] at this)
        have hne : (R.2.2 != 0) = true := bne_iff_ne.2 he
        clear hy he
        go_wp2_with fail
        go_ret2
        exact (show LrS _ _ _ _ _ _ _ from ⟨Zr, by rw [HST.out]; rfl, by rw [HST.out]; exact HLA.out, HMV.out⟩)
    · obtain rfl : j = n := by omega
      have hlt' : ¬ (j : Int) < (j : Int) := by omega
      have HST := hid (show pskF xs l = R by rw [hR.out, List.take_of_length_le (by have := HLN.out; omega)])
      go_wp2_with fail
      go_ret2
      exact (show LrS _ _ _ _ _ _ _ from ⟨Zr, by rw [HST.out]; rfl, by rw [HST.out]; exact HLA.out, HMV.out⟩)
theorem l_jn (h : LA w0 W Z sa xs) (hT : Tb w0.heap.size w0) {i c x : Int} (hi : I64 i) (hc : I64 c) (hx : I64 x) :
    Calls Tryz.prog 28 #[.pointer (some ⟨sa, 0, none⟩), .int .i64 i, .int .i64 c, .int .i64 x] W (LrS w0 W Z sa (jnF xs i c x)) := by
  have HT := hid hT
  have HX := hid (l_ex h hT hi hc)
  have hmi : I64 (exF xs i c).2.1 := idx_i64 h.ar.ok (ndN 5 [i, c])
  clear h hT
  by_cases he : (exF xs i c).2.2 = 0
  · have HF := hid (show jnF xs i c x = exdF (exF xs i c).1 (exF xs i c).2.1 lbJoiner x by unfold jnF bdF; rw [if_pos he])
    rw [HF.out]
    unfold LrS at HX
    rw [he] at HX
    clear he
    generalize exF xs i c = r at *
    obtain ⟨Y, m, er⟩ := r
    obtain ⟨r, hr⟩ : ∃ r : Rs, r = exdF Y m lbJoiner x := ⟨_, rfl⟩
    rw [← hr]
    have HR := hid hr
    clear hr HF
    go_enter Tryz.func28, Tryz.ntmps28
    go_wp2_with fail
    refine HX.out.mono ?_
    rintro e w2 ⟨Z2, rfl, l2, m2⟩
    have HO := hid (l_exd l2 HT.out hmi hx lbJoiner)
    rw [← HR.out] at HO
    unfold lbJoiner at HO
    have M2 := hid m2
    clear l2 m2 HX
    go_wp2_with fail
    refine HO.out.mono ?_
    rintro e w3 ⟨Z3, rfl, l3, m3⟩
    have L3 := hid l3; have M3 := hid (M2.out.trans m3)
    clear l3 m3 HO
    go_wp2_with fail
    go_ret2
    exact ⟨Z3, rfl, L3.out, M3.out⟩
  · have HF := hid (show jnF xs i c x = ((exF xs i c).1, 0, (exF xs i c).2.2) by unfold jnF bdF; rw [if_neg he])
    rw [HF.out]
    unfold LrS at HX
    have hne : ((exF xs i c).2.2 != 0) = true := bne_iff_ne.2 he
    clear he
    generalize exF xs i c = r at *
    obtain ⟨Y, m, er⟩ := r
    go_enter Tryz.func28, Tryz.ntmps28
    go_wp2_with fail
    refine HX.out.mono ?_
    rintro e w2 ⟨Z2, rfl, l2, m2⟩
    have L2 := hid l2; have M2 := hid m2
    clear l2 m2 HX HF
    go_wp2_with fail
    go_ret2
    exact ⟨Z2, rfl, L2.out, M2.out⟩
end
end Go.Proofs.YtkgobglmkhkbbaaGreatDoor

/- plain: layer 12: hashes, tags, contexts, chains in words of makes. -/
namespace Go.KK
open Go.RowKit
set_option linter.unusedVariables false
set_option linter.unusedSimpArgs false

def hsF (xs : List ND) (l : List Int) : Rs := bdF (mk xs (ndN 3 l)) fun ys x => mk ys (ndN 4 [x])
def tgF (xs : List ND) (k m : Int) : Rs := mk xs (ndN 11 [k, m])
theorem sb_hs (l : List Int) : Sb fun xs => hsF xs l := sb_bd (G := fun x ys => mk ys (ndN 4 [x])) (sb_nd 3 l) fun x => sb_nd 4 [x]
theorem sb_tg (k m : Int) : Sb fun xs => tgF xs k m := sb_nd 11 [k, m]
/-- A hash of a list. -/
def HsAt (X : List ND) (i : Int) (l : List Int) : Prop := ∃ x, At X x (ndN 3 l) ∧ At X i (ndN 4 [x])
theorem HsAt.ext {X : List ND} {i : Int} {l : List Int} (h : HsAt X i l) (m : List ND) : HsAt (X ++ m) i l := by
  obtain ⟨x, h1, h2⟩ := h; exact ⟨x, h1.ext m, h2.ext m⟩
theorem hs_at {xs : List ND} {l : List Int} (h : (hsF xs l).2.2 = 0) : HsAt (hsF xs l).1 (hsF xs l).2.1 l := by
  unfold hsF at h ⊢
  obtain ⟨h1, h2⟩ := bd_ok h
  rw [h2] at h ⊢
  obtain ⟨m, hm⟩ := (sb_nd 4 [(mk xs (ndN 3 l)).2.1]).ext (mk xs (ndN 3 l)).1
  try dsimp only at hm
  refine ⟨(mk xs (ndN 3 l)).2.1, ?_, mk_at' h⟩
  rw [hm]
  exact (mk_at' h1).ext m
theorem nd_inj {o : Int} {l l' : List Int} (h : ndN o l = ndN o l') : l = l' := by
  unfold ndN at h
  simp only [ND.mk.injEq, true_and] at h
  exact h
theorem HsAt.eq {X : List ND} {i : Int} {l l' : List Int} (h : HsAt X i l) (k : HsAt X i l') : l = l' := by
  obtain ⟨x, h1, h2⟩ := h; obtain ⟨x', k1, k2⟩ := k
  have e := nd_inj (h2.eq k2)
  simp only [List.cons.injEq, and_true] at e
  subst e
  exact nd_inj (h1.eq k1)
theorem HsAt.uniq {X : List ND} (ok : Okay X) {i j : Int} {l : List Int} (h : HsAt X i l) (k : HsAt X j l) : i = j := by
  obtain ⟨x, h1, h2⟩ := h; obtain ⟨x', k1, k2⟩ := k
  obtain rfl := At.uniq ok h1 k1
  exact At.uniq ok h2 k2
theorem HsAt.iff {X : List ND} (ok : Okay X) {i j : Int} {l m : List Int} (h : HsAt X i l) (k : HsAt X j m) : i = j ↔ l = m :=
  ⟨fun e => by subst e; exact h.eq k, fun e => by subst e; exact h.uniq ok k⟩
theorem At.iff {X : List ND} (ok : Okay X) {i j : Int} {x y : ND} (h : At X i x) (k : At X j y) : i = j ↔ x = y :=
  ⟨fun e => by subst e; exact h.eq k, fun e => by subst e; exact h.uniq ok k⟩
/-- A term's parts have lesser numbers. -/
theorem At.lt {X : List ND} (ok : Okay X) {i : Int} {o : Int} {l : List Int} (h : At X i (ndN o l)) : ∀ p ∈ l, 0 ≤ p ∧ p < i := fun p hp => by
  have hm := ok.may _ _ h.2
  unfold mayB at hm
  simp only [Bool.and_eq_true, List.all_eq_true] at hm
  have hx := has_iff.1 (hm.1.2 p hp)
  rw [List.length_take] at hx
  have := h.1
  omega
theorem HsAt.lt {X : List ND} (ok : Okay X) {i : Int} {l : List Int} (h : HsAt X i l) : ∀ p ∈ l, 0 ≤ p ∧ p < i := fun p hp => by
  obtain ⟨x, h1, h2⟩ := h
  have a := h1.lt ok p hp
  have b := h2.lt ok x (by simp)
  omega
/-! a chain of messages -/
/-- One message of a chain: its confirmed hash and what the next one begins with. -/
def chS (xs : List ND) (start : Int) (m : Int × Int × Int) : List ND × (Int × Int) × Int :=
  if (hsF xs [start, m.1, m.2.1]).2.2 = 0 then
    if (tgF (hsF xs [start, m.1, m.2.1]).1 m.2.2 (hsF xs [start, m.1, m.2.1]).2.1).2.2 = 0 then
      ((hsF (tgF (hsF xs [start, m.1, m.2.1]).1 m.2.2 (hsF xs [start, m.1, m.2.1]).2.1).1 [(hsF xs [start, m.1, m.2.1]).2.1, (tgF (hsF xs [start, m.1, m.2.1]).1 m.2.2 (hsF xs [start, m.1, m.2.1]).2.1).2.1]).1,
        ((hsF xs [start, m.1, m.2.1]).2.1, (hsF (tgF (hsF xs [start, m.1, m.2.1]).1 m.2.2 (hsF xs [start, m.1, m.2.1]).2.1).1 [(hsF xs [start, m.1, m.2.1]).2.1, (tgF (hsF xs [start, m.1, m.2.1]).1 m.2.2 (hsF xs [start, m.1, m.2.1]).2.1).2.1]).2.1),
        (hsF (tgF (hsF xs [start, m.1, m.2.1]).1 m.2.2 (hsF xs [start, m.1, m.2.1]).2.1).1 [(hsF xs [start, m.1, m.2.1]).2.1, (tgF (hsF xs [start, m.1, m.2.1]).1 m.2.2 (hsF xs [start, m.1, m.2.1]).2.1).2.1]).2.2)
    else ((tgF (hsF xs [start, m.1, m.2.1]).1 m.2.2 (hsF xs [start, m.1, m.2.1]).2.1).1, (0, 0), (tgF (hsF xs [start, m.1, m.2.1]).1 m.2.2 (hsF xs [start, m.1, m.2.1]).2.1).2.2)
  else ((hsF xs [start, m.1, m.2.1]).1, (0, 0), (hsF xs [start, m.1, m.2.1]).2.2)
/-- What a message makes, step by step, where all went well. -/
theorem ch_ok {xs : List ND} {start : Int} {m : Int × Int × Int} (h : (chS xs start m).2.2 = 0) : ∃ c ys t zs, hsF xs [start, m.1, m.2.1] = (ys, c, 0) ∧ tgF ys m.2.2 c = (zs, t, 0) ∧ hsF zs [c, t] = ((chS xs start m).1, (chS xs start m).2.1.2, 0) ∧ (chS xs start m).2.1.1 = c := by
  unfold chS at h ⊢
  generalize hr : hsF xs [start, m.1, m.2.1] = r at *
  obtain ⟨ys, c, e⟩ := r
  dsimp only at h ⊢
  by_cases h1 : e = 0
  · rw [if_pos h1] at h ⊢
    subst h1
    generalize ht : tgF ys m.2.2 c = q at *
    obtain ⟨zs, t, f⟩ := q
    dsimp only at h ⊢
    by_cases h2 : f = 0
    · rw [if_pos h2] at h ⊢
      subst h2
      dsimp only at h ⊢
      refine ⟨c, ys, t, zs, rfl, ht, ?_, rfl⟩
      generalize hsF zs [c, t] = v at *
      obtain ⟨a, b, d⟩ := v
      dsimp only at h ⊢
      rw [h]
    · rw [if_neg h2] at h; exact absurd h h2
  · rw [if_neg h1] at h; exact absurd h h1
theorem ch_mk {xs ys zs vs : List ND} {start c t i : Int} {m : Int × Int × Int} (h1 : hsF xs [start, m.1, m.2.1] = (ys, c, 0)) (h2 : tgF ys m.2.2 c = (zs, t, 0)) (h3 : hsF zs [c, t] = (vs, i, 0)) : chS xs start m = (vs, (c, i), 0) := by
  unfold chS
  rw [h1]
  dsimp only
  rw [if_pos rfl, h2]
  dsimp only
  rw [if_pos rfl, h3]
theorem ch_ext (xs : List ND) (start : Int) (m : Int × Int × Int) : ∃ v, (chS xs start m).1 = xs ++ v := by
  obtain ⟨m1, h1⟩ := (sb_hs [start, m.1, m.2.1]).ext xs
  obtain ⟨m2, h2⟩ := (sb_tg m.2.2 (hsF xs [start, m.1, m.2.1]).2.1).ext (hsF xs [start, m.1, m.2.1]).1
  obtain ⟨m3, h3⟩ := (sb_hs [(hsF xs [start, m.1, m.2.1]).2.1, (tgF (hsF xs [start, m.1, m.2.1]).1 m.2.2 (hsF xs [start, m.1, m.2.1]).2.1).2.1]).ext (tgF (hsF xs [start, m.1, m.2.1]).1 m.2.2 (hsF xs [start, m.1, m.2.1]).2.1).1
  unfold chS
  try dsimp only at h1 h2 h3
  split
  · split
    · exact ⟨m1 ++ (m2 ++ m3), by dsimp only; rw [h3, h2, h1]; simp⟩
    · exact ⟨m1 ++ m2, by dsimp only; rw [h2, h1]; simp⟩
  · exact ⟨m1, h1⟩
theorem ch_okay {xs : List ND} (ok : Okay xs) (start : Int) (m : Int × Int × Int) : Okay (chS xs start m).1 := by
  have o1 := (sb_hs [start, m.1, m.2.1]).ok xs ok
  have o2 := (sb_tg m.2.2 (hsF xs [start, m.1, m.2.1]).2.1).ok _ o1
  have o3 := (sb_hs [(hsF xs [start, m.1, m.2.1]).2.1, (tgF (hsF xs [start, m.1, m.2.1]).1 m.2.2 (hsF xs [start, m.1, m.2.1]).2.1).2.1]).ok _ o2
  unfold chS
  split
  · split
    · exact o3
    · exact o2
  · exact o1
theorem ch_fix {xs : List ND} {start : Int} {m : Int × Int × Int} {v : List ND} (ok : Okay ((chS xs start m).1 ++ v)) (h : (chS xs start m).2.2 = 0) : chS ((chS xs start m).1 ++ v) start m = ((chS xs start m).1 ++ v, (chS xs start m).2.1, 0) := by
  obtain ⟨c, ys, t, zs, h1, h2, h3, h4⟩ := ch_ok h
  obtain ⟨m2, e2⟩ := (sb_tg m.2.2 c).ext ys
  obtain ⟨m3, e3⟩ := (sb_hs [c, t]).ext zs
  try dsimp only at e2 e3
  rw [h2] at e2; rw [h3] at e3
  try dsimp only at e2 e3
  have f1 := (sb_hs [start, m.1, m.2.1]).fix xs (m2 ++ (m3 ++ v))
  have f2 := (sb_tg m.2.2 c).fix ys (m3 ++ v)
  have f3 := (sb_hs [c, t]).fix zs v
  try dsimp only at f1 f2 f3
  rw [h1] at f1; rw [h2] at f2; rw [h3] at f3
  try dsimp only at f1 f2 f3
  have eA : (chS xs start m).1 ++ v = ys ++ (m2 ++ (m3 ++ v)) := by rw [e3, e2]; simp
  have eB : (chS xs start m).1 ++ v = zs ++ (m3 ++ v) := by rw [e3]; simp
  rw [← eA] at f1
  rw [← eB] at f2
  have r := ch_mk (f1 ok rfl) (f2 ok rfl) (f3 ok rfl)
  rw [r]
  rw [← h4]
/-- Where a chain stands: the arena, what the next one begins with, the hashes, the error. -/
abbrev Cs := List ND × Int × List Int × Int
def chT (st : Cs) (m : Int × Int × Int) : Cs :=
  if st.2.2.2 = 0 then
    (if (chS st.1 st.2.1 m).2.2 = 0 then ((chS st.1 st.2.1 m).1, (chS st.1 st.2.1 m).2.1.2, st.2.2.1 ++ [(chS st.1 st.2.1 m).2.1.1], 0)
      else ((chS st.1 st.2.1 m).1, 0, [], (chS st.1 st.2.1 m).2.2))
  else st
def chF (xs : List ND) (start : Int) (l : List (Int × Int × Int)) : Cs := l.foldl chT (xs, start, [], 0)
theorem ch_snoc (xs : List ND) (start : Int) (l : List (Int × Int × Int)) (m : Int × Int × Int) : chF xs start (l ++ [m]) = chT (chF xs start l) m := by unfold chF; rw [List.foldl_append]; rfl
theorem chT_ok {st : Cs} {m : Int × Int × Int} (h : (chT st m).2.2.2 = 0) : st.2.2.2 = 0 ∧ (chS st.1 st.2.1 m).2.2 = 0 ∧ chT st m = ((chS st.1 st.2.1 m).1, (chS st.1 st.2.1 m).2.1.2, st.2.2.1 ++ [(chS st.1 st.2.1 m).2.1.1], 0) := by
  unfold chT at h ⊢
  by_cases h1 : st.2.2.2 = 0
  · rw [if_pos h1] at h ⊢
    by_cases h2 : (chS st.1 st.2.1 m).2.2 = 0
    · rw [if_pos h2]; exact ⟨h1, h2, rfl⟩
    · rw [if_neg h2] at h; exact absurd h h2
  · rw [if_neg h1] at h; exact absurd h h1
theorem ch_grow (xs : List ND) (start : Int) : ∀ l : List (Int × Int × Int), ∃ v, (chF xs start l).1 = xs ++ v := by
  intro l
  refine snoc_ind (P := fun l => ∃ v, (chF xs start l).1 = xs ++ v) ⟨[], by simp [chF]⟩ (fun l m ih => ?_) l
  rw [ch_snoc]
  obtain ⟨v, hv⟩ := ih
  obtain ⟨u, hu⟩ := ch_ext (chF xs start l).1 (chF xs start l).2.1 m
  unfold chT
  split
  · split
    · exact ⟨v ++ u, by dsimp only; rw [hu, hv]; simp⟩
    · exact ⟨v ++ u, by dsimp only; rw [hu, hv]; simp⟩
  · exact ⟨v, hv⟩
theorem chF_okay {xs : List ND} (ok : Okay xs) (start : Int) : ∀ l : List (Int × Int × Int), Okay (chF xs start l).1 := by
  intro l
  refine snoc_ind (P := fun l => Okay (chF xs start l).1) ok (fun l m ih => ?_) l
  rw [ch_snoc]
  have := ch_okay ih (chF xs start l).2.1 m
  unfold chT
  split
  · split <;> exact this
  · exact ih
/-- A chain on an arena that went on is the same. -/
theorem chF_fix (xs : List ND) (start : Int) : ∀ (l : List (Int × Int × Int)) (v : List ND), Okay ((chF xs start l).1 ++ v) → (chF xs start l).2.2.2 = 0 → chF ((chF xs start l).1 ++ v) start l = ((chF xs start l).1 ++ v, (chF xs start l).2.1, (chF xs start l).2.2.1, 0) := by
  intro l
  refine snoc_ind (P := fun l => ∀ (v : List ND), Okay ((chF xs start l).1 ++ v) → (chF xs start l).2.2.2 = 0 → chF ((chF xs start l).1 ++ v) start l = ((chF xs start l).1 ++ v, (chF xs start l).2.1, (chF xs start l).2.2.1, 0)) (fun v ok h => rfl) (fun l m ih v ok h => ?_) l
  rw [ch_snoc xs start l m] at ok h ⊢
  obtain ⟨h1, h2, h3⟩ := chT_ok h
  rw [h3] at ok ⊢
  dsimp only at ok ⊢
  obtain ⟨u, hu⟩ := ch_ext (chF xs start l).1 (chF xs start l).2.1 m
  have e : (chS (chF xs start l).1 (chF xs start l).2.1 m).1 ++ v = (chF xs start l).1 ++ (u ++ v) := by rw [hu]; simp
  have i1 := ih (u ++ v) (by rw [← e]; exact ok) h1
  rw [← e] at i1
  have i2 := ch_fix ok h2
  rw [ch_snoc, i1]
  unfold chT
  dsimp only
  rw [if_pos rfl, i2]
  dsimp only
  rw [if_pos rfl]
theorem chF_len (xs : List ND) (start : Int) : ∀ l : List (Int × Int × Int), (chF xs start l).2.2.2 = 0 → (chF xs start l).2.2.1.length = l.length := by
  intro l
  refine snoc_ind (P := fun l => (chF xs start l).2.2.2 = 0 → (chF xs start l).2.2.1.length = l.length) (fun _ => rfl) (fun l m ih h => ?_) l
  rw [ch_snoc] at h ⊢
  obtain ⟨h1, h2, h3⟩ := chT_ok h
  rw [h3]
  simp [ih h1]
/-- What a chain's hashes are made of. -/
inductive ChAt (X : List ND) (start : Int) : List (Int × Int × Int) → List Int → Int → Prop
  | nil : ChAt X start [] [] start
  | snoc {l : List (Int × Int × Int)} {out : List Int} {s c t n : Int} {m : Int × Int × Int} (h : ChAt X start l out s) (hc : HsAt X c [s, m.1, m.2.1]) (ht : At X t (ndN 11 [m.2.2, c])) (hn : HsAt X n [c, t]) : ChAt X start (l ++ [m]) (out ++ [c]) n
theorem ChAt.ext {X : List ND} {start : Int} {l : List (Int × Int × Int)} {out : List Int} {n : Int} (h : ChAt X start l out n) (v : List ND) : ChAt (X ++ v) start l out n := by
  induction h with
  | nil => exact .nil
  | snoc _ hc ht hn ih => exact .snoc ih (hc.ext v) (ht.ext v) (hn.ext v)
theorem chF_at (xs : List ND) (start : Int) : ∀ l : List (Int × Int × Int), (chF xs start l).2.2.2 = 0 → ChAt (chF xs start l).1 start l (chF xs start l).2.2.1 (chF xs start l).2.1 := by
  intro l
  refine snoc_ind (P := fun l => (chF xs start l).2.2.2 = 0 → ChAt (chF xs start l).1 start l (chF xs start l).2.2.1 (chF xs start l).2.1) (fun _ => .nil) (fun l m ih h => ?_) l
  rw [ch_snoc] at h ⊢
  obtain ⟨h1, h2, h3⟩ := chT_ok h
  rw [h3]
  dsimp only
  obtain ⟨u, hu⟩ := ch_ext (chF xs start l).1 (chF xs start l).2.1 m
  obtain ⟨c, ys, t, zs, g1, g2, g3, g4⟩ := ch_ok h2
  have a0 := (ih h1).ext u
  rw [← hu] at a0
  obtain ⟨m2, e2⟩ := (sb_tg m.2.2 c).ext ys
  obtain ⟨m3, e3⟩ := (sb_hs [c, t]).ext zs
  try dsimp only at e2 e3
  rw [g2] at e2; rw [g3] at e3
  try dsimp only at e2 e3
  have b1 := hs_at (xs := (chF xs start l).1) (l := [(chF xs start l).2.1, m.1, m.2.1]) (by rw [g1])
  rw [g1] at b1
  have b2 := mk_at' (xs := ys) (x := ndN 11 [m.2.2, c]) (by show (tgF ys m.2.2 c).2.2 = 0; rw [g2])
  rw [show mk ys (ndN 11 [m.2.2, c]) = (zs, t, 0) from g2] at b2
  have b3 := hs_at (xs := zs) (l := [c, t]) (by rw [g3])
  rw [g3] at b3
  rw [g4]
  refine .snoc a0 ?_ ?_ b3
  · rw [e3, e2]; exact (b1.ext m2).ext m3
  · rw [e3]; exact b2.ext m3
end Go.KK

/- plain: layer 12's laws: tags, chains apart, chains that go on. -/
namespace Go.KK
open Go.RowKit
set_option linter.unusedVariables false
set_option linter.unusedSimpArgs false

theorem ChAt.inv {X : List ND} {start : Int} {l : List (Int × Int × Int)} {out : List Int} {n : Int} (h : ChAt X start l out n) : (l = [] ∧ out = [] ∧ n = start) ∨
    ∃ l' m o s c t, l = l' ++ [m] ∧ out = o ++ [c] ∧ ChAt X start l' o s ∧ HsAt X c [s, m.1, m.2.1] ∧ At X t (ndN 11 [m.2.2, c]) ∧ HsAt X n [c, t] := by
  cases h with
  | nil => exact .inl ⟨rfl, rfl, rfl⟩
  | snoc h hc ht hn => exact .inr ⟨_, _, _, _, _, _, rfl, rfl, h, hc, ht, hn⟩
theorem ChAt.last {X : List ND} {start : Int} {l : List (Int × Int × Int)} {m : Int × Int × Int} {out : List Int} {n : Int} (h : ChAt X start (l ++ [m]) out n) :
    ∃ o s c t, out = o ++ [c] ∧ ChAt X start l o s ∧ HsAt X c [s, m.1, m.2.1] ∧ At X t (ndN 11 [m.2.2, c]) ∧ HsAt X n [c, t] := by
  rcases h.inv with ⟨e, -⟩ | ⟨l', m', o, s, c, t, e, rfl, h1, h2, h3, h4⟩
  · simp at e
  · obtain ⟨e1, e2⟩ := List.append_inj' e rfl
    simp only [List.cons.injEq, and_true] at e2
    subst e1; subst e2
    exact ⟨o, s, c, t, rfl, h1, h2, h3, h4⟩
/-- Two chains of one length begin the next one alike, just if all was the same. -/
theorem ch_next {X : List ND} (ok : Okay X) {start : Int} : ∀ (l m : List (Int × Int × Int)) (out out' : List Int) (n n' : Int), l.length = m.length → ChAt X start l out n → ChAt X start m out' n' → (n = n' ↔ l = m) := by
  intro l
  refine snoc_ind (P := fun l => ∀ (m : List (Int × Int × Int)) (out out' : List Int) (n n' : Int), l.length = m.length → ChAt X start l out n → ChAt X start m out' n' → (n = n' ↔ l = m)) (fun m out out' n n' hl h k => ?_) (fun l a ih m out out' n n' hl h k => ?_) l
  · have hm : m = [] := List.eq_nil_of_length_eq_zero (by simpa using hl.symm)
    subst hm
    rcases h.inv with ⟨-, -, e⟩ | ⟨l', m', o, s, c, t, e, -⟩
    · rcases k.inv with ⟨-, -, e'⟩ | ⟨l', m', o, s, c, t, e', -⟩
      · rw [e, e']; exact ⟨fun _ => rfl, fun _ => rfl⟩
      · simp at e'
    · simp at e
  · rcases List.eq_nil_or_concat m with rfl | ⟨m', b, rfl⟩
    · simp at hl
    · rw [List.concat_eq_append] at *
      simp only [List.length_append, List.length_singleton, Nat.add_right_cancel_iff] at hl
      obtain ⟨o, s, c, t, -, h1, hc, ht, hn⟩ := h.last
      obtain ⟨o', s', c', t', -, h1', hc', ht', hn'⟩ := k.last
      have i1 := ih m' _ _ _ _ hl h1 h1'
      rw [hn.iff ok hn']
      constructor
      · intro e
        simp only [List.cons.injEq, and_true] at e
        obtain ⟨ec, et⟩ := e
        subst ec; subst et
        have g1 := hc.eq hc'
        have g2 := nd_inj (ht.eq ht')
        simp only [List.cons.injEq, and_true] at g1 g2
        obtain ⟨a0, a1', a2⟩ := a; obtain ⟨b0, b1', b2⟩ := b
        simp only at g1 g2
        rw [i1.1 g1.1, g1.2.1, g1.2.2, g2]
      · intro e
        obtain ⟨f1, f2⟩ := List.append_inj' e rfl
        simp only [List.cons.injEq, and_true] at f2
        subst f1; subst f2
        obtain rfl := i1.2 rfl
        obtain rfl := hc.uniq ok hc'
        obtain rfl := At.uniq ok ht ht'
        rfl
/-- A chain's hash at a place: of what it is made. -/
theorem ch_place {X : List ND} {start : Int} {l : List (Int × Int × Int)} {out : List Int} {n : Int} (h : ChAt X start l out n) : ∀ i a, l[i]? = some a → ∃ s, ChAt X start (l.take i) (out.take i) s ∧ HsAt X (out.getD i 0) [s, a.1, a.2.1] := by
  induction h with
  | nil => intro i a hi; simp at hi
  | @snoc l out s c t n m h hc ht hn ih =>
    intro i a hi
    have hlen : out.length = l.length := by
      clear ih hc ht hn hi
      induction h with
      | nil => rfl
      | snoc _ _ _ _ ih => simp [ih]
    by_cases hl : i < l.length
    · rw [List.getElem?_append_left hl] at hi
      obtain ⟨s1, h1, h2⟩ := ih i a hi
      refine ⟨s1, ?_, ?_⟩
      · rw [List.take_append_of_le_length (by omega), List.take_append_of_le_length (by omega)]; exact h1
      · rw [List.getD, List.getElem?_append_left (by omega)]; exact h2
    · have hi2 : i = l.length := by
        have := (List.getElem?_eq_some_iff.1 hi).1
        simp at this; omega
      subst hi2
      rw [List.getElem?_append_right (Nat.le_refl _), Nat.sub_self] at hi
      simp only [List.getElem?_cons_zero, Option.some.injEq] at hi
      subst hi
      refine ⟨s, ?_, ?_⟩
      · rw [List.take_append_of_le_length (Nat.le_refl _), List.take_length, List.take_append_of_le_length (by omega), List.take_of_length_le (by omega)]; exact h
      · rw [List.getD, List.getElem?_append_right (by omega), hlen, Nat.sub_self]; exact hc
/-- Two chains have one hash at one place, just if all contents and signatures up to there and all secrets ahead of it are the same. -/
theorem ch_apart {X : List ND} (ok : Okay X) {start : Int} {l m : List (Int × Int × Int)} {out out' : List Int} {n n' : Int} (h : ChAt X start l out n) (k : ChAt X start m out' n') (i : Nat) (a b : Int × Int × Int) (ha : l[i]? = some a) (hb : m[i]? = some b) :
    out.getD i 0 = out'.getD i 0 ↔ l.take i = m.take i ∧ a.1 = b.1 ∧ a.2.1 = b.2.1 := by
  obtain ⟨s, h1, h2⟩ := ch_place h i a ha
  obtain ⟨s', k1, k2⟩ := ch_place k i b hb
  have hl := (List.getElem?_eq_some_iff.1 ha).1
  have hm := (List.getElem?_eq_some_iff.1 hb).1
  have e := ch_next ok (l.take i) (m.take i) _ _ _ _ (by rw [List.length_take, List.length_take]; omega) h1 k1
  rw [h2.iff ok k2]
  simp only [List.cons.injEq, and_true]
  rw [e]
/-- A chain's hashes rise. -/
theorem ch_rise {X : List ND} (ok : Okay X) {start : Int} {l : List (Int × Int × Int)} {out : List Int} {n : Int} (h : ChAt X start l out n) : out.Pairwise (· < ·) ∧ ∀ o ∈ out, o < n := by
  induction h with
  | nil => exact ⟨.nil, fun o ho => by simp at ho⟩
  | @snoc l out s c t n m h hc ht hn ih =>
    have h1 := hc.lt ok s (by simp)
    have h2 := hn.lt ok c (by simp)
    refine ⟨List.pairwise_append.2 ⟨ih.1, List.pairwise_singleton _ _, fun a ha b hb => ?_⟩, fun o ho => ?_⟩
    · rw [List.mem_singleton] at hb
      subst hb
      have := ih.2 a ha
      omega
    · rcases List.mem_append.1 ho with ho | ho
      · have := ih.2 o ho; omega
      · rw [List.mem_singleton] at ho
        subst ho
        omega
/-- A chain of fewer messages. -/
theorem chF_pre (xs : List ND) (start : Int) (k : Nat) : ∀ l : List (Int × Int × Int), (chF xs start l).2.2.2 = 0 → (chF xs start (l.take k)).2.2.2 = 0 ∧ (chF xs start (l.take k)).2.2.1 = (chF xs start l).2.2.1.take k ∧ ∃ v, (chF xs start l).1 = (chF xs start (l.take k)).1 ++ v := by
  intro l
  refine snoc_ind (P := fun l => (chF xs start l).2.2.2 = 0 → (chF xs start (l.take k)).2.2.2 = 0 ∧ (chF xs start (l.take k)).2.2.1 = (chF xs start l).2.2.1.take k ∧ ∃ v, (chF xs start l).1 = (chF xs start (l.take k)).1 ++ v) (fun h => ⟨by simpa using h, by simp [chF], [], by simp⟩) (fun l m ih h => ?_) l
  by_cases hk : k ≤ l.length
  · rw [List.take_append_of_le_length hk]
    rw [ch_snoc] at h ⊢
    obtain ⟨h1, h2, h3⟩ := chT_ok h
    obtain ⟨i1, i2, v, hv⟩ := ih h1
    obtain ⟨u, hu⟩ := ch_ext (chF xs start l).1 (chF xs start l).2.1 m
    rw [h3]
    refine ⟨i1, ?_, v ++ u, ?_⟩
    · dsimp only
      rw [List.take_append_of_le_length (by rw [chF_len xs start l h1]; exact hk)]
      exact i2
    · dsimp only
      rw [hu, hv]; simp
  · rw [List.take_of_length_le (by simp; omega)]
    refine ⟨h, ?_, [], by simp⟩
    rw [List.take_of_length_le (by rw [chF_len xs start _ h]; simp; omega)]
end Go.KK

/- transcript over the law's arena: All, Tag, hashed, Confirmed, Interim. -/
namespace Go.Proofs.YtkgobglmkhkbbaaGreatDoor
open Go.RowKit Go.KK Go.Shelf Go.Maps
set_option linter.unusedVariables false
set_option linter.unusedSimpArgs false

section
variable {w0 W W' : World} {Z Z' : Nat → Prop} {sa : Nat} {xs xs' : List ND}
theorem l_all (h : LA w0 W Z sa xs) (hT : Tb w0.heap.size w0) {A : Option Addr} {n c : Nat} {l : List Int} (hl : SlA W 1 A n c (l.map (.int .i64))) (hi : ∀ i ∈ l, I64 i) :
    Calls Tryz.prog 77 #[.pointer (some ⟨sa, 0, none⟩), .slice A n c] W (LrS w0 W Z sa (mk xs (ndN 3 l))) := by
  have HM := hid (l_list h hT hl hi)
  clear h hT hl hi
  generalize mk xs (ndN 3 l) = r at *
  unfold LrS at HM ⊢
  go_enter Tryz.func77, Tryz.ntmps77
  go_wp2_with fail
  refine HM.out.mono ?_
  rintro e w' ⟨Z', rfl, h1, h2⟩
  have H1 := hid h1; have H2 := hid h2
  clear h1 h2
  go_wp2_with fail
  go_ret2
  exact ⟨Z', rfl, H1.out, H2.out⟩
theorem l_ctg (h : LA w0 W Z sa xs) (hT : Tb w0.heap.size w0) {k m : Int} (hk : I64 k) (hm : I64 m) :
    Calls Tryz.prog 84 #[.pointer (some ⟨sa, 0, none⟩), .int .i64 k, .int .i64 m] W (LrS w0 W Z sa (tgF xs k m)) := by
  have HM := hid (l_of (h.alloc (.cells #[.int .i64 k, .int .i64 m] 3)) hT (o := 11) (l := [k, m]) (sla_row #[.int .i64 k, .int .i64 m] (by unfold maxLen; simp)) (i64_lit (by decide) (by decide)) (fun i hi => by
    simp only [List.mem_cons, List.mem_nil_iff, or_false] at hi
    rcases hi with rfl | rfl
    · exact hk
    · exact hm))
  clear h hT
  unfold tgF
  generalize mk xs (ndN 11 [k, m]) = r at *
  go_enter Tryz.func84, Tryz.ntmps84
  go_wp2_with fail
  refine HM.out.mono ?_
  rintro e w' ⟨Z', rfl, h1, h2⟩
  have H1 := hid h1; have H2 := hid ((Mv.alloc Z W (.cells #[.int .i64 k, .int .i64 m] 3)).trans h2)
  clear h1 h2 HM
  go_wp2_with fail
  go_ret2
  exact ⟨Z', rfl, H1.out, H2.out⟩
theorem l_tg (h : LA w0 W Z sa xs) (hT : Tb w0.heap.size w0) {k m : Int} (hk : I64 k) (hm : I64 m) :
    Calls Tryz.prog 44 #[.pointer (some ⟨sa, 0, none⟩), .int .i64 k, .int .i64 m] W (LrS w0 W Z sa (tgF xs k m)) := by
  have HM := hid (l_ctg h hT hk hm)
  clear h hT
  generalize tgF xs k m = r at *
  unfold LrS at HM ⊢
  go_enter Tryz.func44, Tryz.ntmps44
  go_wp2_with fail
  refine HM.out.mono ?_
  rintro e w' ⟨Z', rfl, h1, h2⟩
  have H1 := hid h1; have H2 := hid h2
  clear h1 h2 HM
  go_wp2_with fail
  go_ret2
  exact ⟨Z', rfl, H1.out, H2.out⟩
set_option maxHeartbeats 2000000 in
set_option maxRecDepth 100000 in
theorem l_hs (h : LA w0 W Z sa xs) (hT : Tb w0.heap.size w0) {A : Option Addr} {n c : Nat} {l : List Int} (hl : SlA W 1 A n c (l.map (.int .i64))) (hi : ∀ i ∈ l, I64 i) :
    Calls Tryz.prog 83 #[.pointer (some ⟨sa, 0, none⟩), .slice A n c] W (LrS w0 W Z sa (hsF xs l)) := by
  have HT := hid hT
  have HX := hid (l_all h hT hl hi)
  have hti := idx_i64 h.ar.ok (ndN 3 l)
  clear h hT hl hi
  by_cases he : makE xs (ndN 3 l) = 0
  · have HF := hid (show hsF xs l = mk (makT xs (ndN 3 l)) (ndN 4 [makI xs (ndN 3 l)]) by unfold hsF bdF; rw [if_pos (show (mk xs (ndN 3 l)).2.2 = 0 from he)]; rfl)
    rw [HF.out]
    unfold LrS mk at HX
    rw [he] at HX
    clear he
    generalize makI xs (ndN 3 l) = ti at *
    generalize makT xs (ndN 3 l) = Y at *
    obtain ⟨r, hr⟩ : ∃ r : Rs, r = mk Y (ndN 4 [ti]) := ⟨_, rfl⟩
    rw [← hr]
    have HR := hid hr
    clear hr HF
    go_enter Tryz.func83, Tryz.ntmps83
    go_wp2_with fail
    refine HX.out.mono ?_
    rintro e w2 ⟨Z2, rfl, l2, m2⟩
    have HO := hid (show Calls Tryz.prog 57 #[.pointer (some ⟨sa, 0, none⟩), .agg #[.int .i64 4, .int .i64 0, .string ⟨#[]⟩, .slice (some ⟨w2.heap.size, 0, none⟩) 1 1]] (w2.alloc (.cells #[.int .i64 ti] 3)) (LrS w0 (w2.alloc (.cells #[.int .i64 ti] 3)) Z2 sa (mk Y (ndN 4 [ti]))) from
      l_mke (l2.alloc (.cells #[.int .i64 ti] 3)) HT.out (x := ndN 4 [ti]) (sla_row #[.int .i64 ti] (by unfold maxLen; simp)) (ndI_nd (i64_lit (by decide) (by decide)) (fun i hi => by rw [List.mem_singleton] at hi; subst hi; exact hti)))
    rw [← HR.out] at HO
    have M2 := hid (m2.trans (Mv.alloc Z2 w2 (.cells #[.int .i64 ti] 3)))
    clear l2 m2 HX
    go_wp2_with fail
    refine HO.out.mono ?_
    rintro e w3 ⟨Z3, rfl, l3, m3⟩
    have L3 := hid l3; have M3 := hid (M2.out.trans m3)
    clear l3 m3 HO
    go_wp2_with fail
    go_ret2
    exact ⟨Z3, rfl, L3.out, M3.out⟩
  · have HF := hid (show hsF xs l = (makT xs (ndN 3 l), 0, makE xs (ndN 3 l)) by unfold hsF bdF; rw [if_neg (show ¬ (mk xs (ndN 3 l)).2.2 = 0 from he)]; rfl)
    rw [HF.out]
    unfold LrS mk at HX
    have hne : (makE xs (ndN 3 l) != 0) = true := bne_iff_ne.2 he
    clear he
    generalize makE xs (ndN 3 l) = te at *
    generalize makI xs (ndN 3 l) = ti at *
    generalize makT xs (ndN 3 l) = Y at *
    go_enter Tryz.func83, Tryz.ntmps83
    go_wp2_with fail
    refine HX.out.mono ?_
    rintro e w2 ⟨Z2, rfl, l2, m2⟩
    have L2 := hid l2; have M2 := hid m2
    clear l2 m2 HX HF
    go_wp2_with fail
    go_ret2
    exact ⟨Z2, rfl, L2.out, M2.out⟩
theorem l_cf (h : LA w0 W Z sa xs) (hT : Tb w0.heap.size w0) {i c s : Int} (hi : I64 i) (hc : I64 c) (hs : I64 s) :
    Calls Tryz.prog 43 #[.pointer (some ⟨sa, 0, none⟩), .int .i64 i, .int .i64 c, .int .i64 s] W (LrS w0 W Z sa (hsF xs [i, c, s])) := by
  have HM := hid (l_hs (h.alloc (.cells #[.int .i64 i, .int .i64 c, .int .i64 s] 3)) hT (l := [i, c, s]) (sla_row #[.int .i64 i, .int .i64 c, .int .i64 s] (by unfold maxLen; simp)) (fun y hy => by
    simp only [List.mem_cons, List.mem_nil_iff, or_false] at hy
    rcases hy with rfl | rfl | rfl
    · exact hi
    · exact hc
    · exact hs))
  clear h hT
  generalize hsF xs [i, c, s] = r at *
  go_enter Tryz.func43, Tryz.ntmps43
  go_wp2_with fail
  refine HM.out.mono ?_
  rintro e w' ⟨Z', rfl, h1, h2⟩
  have H1 := hid h1; have H2 := hid ((Mv.alloc Z W (.cells #[.int .i64 i, .int .i64 c, .int .i64 s] 3)).trans h2)
  clear h1 h2 HM
  go_wp2_with fail
  go_ret2
  exact ⟨Z', rfl, H1.out, H2.out⟩
theorem l_im (h : LA w0 W Z sa xs) (hT : Tb w0.heap.size w0) {c t : Int} (hc : I64 c) (ht : I64 t) :
    Calls Tryz.prog 45 #[.pointer (some ⟨sa, 0, none⟩), .int .i64 c, .int .i64 t] W (LrS w0 W Z sa (hsF xs [c, t])) := by
  have HM := hid (l_hs (h.alloc (.cells #[.int .i64 c, .int .i64 t] 3)) hT (l := [c, t]) (sla_row #[.int .i64 c, .int .i64 t] (by unfold maxLen; simp)) (fun y hy => by
    simp only [List.mem_cons, List.mem_nil_iff, or_false] at hy
    rcases hy with rfl | rfl
    · exact hc
    · exact ht))
  clear h hT
  generalize hsF xs [c, t] = r at *
  go_enter Tryz.func45, Tryz.ntmps45
  go_wp2_with fail
  refine HM.out.mono ?_
  rintro e w' ⟨Z', rfl, h1, h2⟩
  have H1 := hid h1; have H2 := hid ((Mv.alloc Z W (.cells #[.int .i64 c, .int .i64 t] 3)).trans h2)
  clear h1 h2 HM
  go_wp2_with fail
  go_ret2
  exact ⟨Z', rfl, H1.out, H2.out⟩
end
end Go.Proofs.YtkgobglmkhkbbaaGreatDoor

/- plain: layer 12: contexts. -/
namespace Go.KK
open Go.RowKit
set_option linter.unusedVariables false
set_option linter.unusedSimpArgs false

def lbGroup : ByteArray := ⟨#[103, 114, 111, 117, 112]⟩
/-- A number's digits as a text. -/
def digB (n : Int) : ByteArray := ⟨(Lib.itoa n).toArray⟩
theorem digB_inj {n m : Int} (h : digB n = digB m) : n = m := by
  have := congrArg (fun s : ByteArray => s.data.toList) h
  exact itoa_inj (by simpa [digB] using this)
def ctF (xs : List ND) (id ep tr cf ex : Int) : Rs :=
  if 0 ≤ ep then bdF (mk xs (txN lbGroup)) fun ys g => bdF (mk ys (txN (digB ep))) fun zs d => mk zs (ndN 3 [g, id, d, tr, cf, ex]) else (xs, 0, 1)
theorem sb_ct0 (id ep tr cf ex : Int) : Sb fun xs => bdF (mk xs (txN lbGroup)) fun ys g => bdF (mk ys (txN (digB ep))) fun zs d => mk zs (ndN 3 [g, id, d, tr, cf, ex]) :=
  sb_bd (G := fun g ys => bdF (mk ys (txN (digB ep))) fun zs d => mk zs (ndN 3 [g, id, d, tr, cf, ex])) (sb_tx _) fun g => sb_bd (G := fun d zs => mk zs (ndN 3 [g, id, d, tr, cf, ex])) (sb_tx _) fun d => sb_nd 3 [g, id, d, tr, cf, ex]
theorem ct_pos {xs : List ND} {id ep tr cf ex : Int} (h : 0 ≤ ep) : ctF xs id ep tr cf ex = bdF (mk xs (txN lbGroup)) fun ys g => bdF (mk ys (txN (digB ep))) fun zs d => mk zs (ndN 3 [g, id, d, tr, cf, ex]) := by
  unfold ctF; rw [if_pos h]
theorem ct_neg {xs : List ND} {id ep tr cf ex : Int} (h : (ctF xs id ep tr cf ex).2.2 = 0) : 0 ≤ ep := by
  unfold ctF at h
  by_cases hp : 0 ≤ ep
  · exact hp
  · rw [if_neg hp] at h; cases h
/-- What a context is made of. -/
def CtAt (X : List ND) (i id ep tr cf ex : Int) : Prop := ∃ g d, At X g (txN lbGroup) ∧ At X d (txN (digB ep)) ∧ At X i (ndN 3 [g, id, d, tr, cf, ex])
theorem CtAt.ext {X : List ND} {i id ep tr cf ex : Int} (h : CtAt X i id ep tr cf ex) (m : List ND) : CtAt (X ++ m) i id ep tr cf ex := by
  obtain ⟨g, d, h1, h2, h3⟩ := h; exact ⟨g, d, h1.ext m, h2.ext m, h3.ext m⟩
theorem ct_at {xs : List ND} {id ep tr cf ex : Int} (h : (ctF xs id ep tr cf ex).2.2 = 0) : CtAt (ctF xs id ep tr cf ex).1 (ctF xs id ep tr cf ex).2.1 id ep tr cf ex := by
  have hp := ct_neg h
  rw [ct_pos hp] at h ⊢
  obtain ⟨h1, h2⟩ := bd_ok h
  rw [h2] at h ⊢
  obtain ⟨h3, h4⟩ := bd_ok h
  rw [h4] at h ⊢
  obtain ⟨m1, e1⟩ := mak_pre (mk xs (txN lbGroup)).1 (txN (digB ep))
  obtain ⟨m2, e2⟩ := mak_pre (mk (mk xs (txN lbGroup)).1 (txN (digB ep))).1 (ndN 3 [(mk xs (txN lbGroup)).2.1, id, (mk (mk xs (txN lbGroup)).1 (txN (digB ep))).2.1, tr, cf, ex])
  refine ⟨(mk xs (txN lbGroup)).2.1, (mk (mk xs (txN lbGroup)).1 (txN (digB ep))).2.1, ?_, ?_, mk_at' h⟩
  · show At (makT _ _) _ _
    rw [e2, show (mk (mk xs (txN lbGroup)).1 (txN (digB ep))).1 = (mk xs (txN lbGroup)).1 ++ m1 from e1]
    exact ((mk_at' h1).ext m1).ext m2
  · show At (makT _ _) _ _
    rw [e2]
    exact (mk_at' h3).ext m2
theorem txN_inj {s t : ByteArray} (h : txN s = txN t) : s = t := by
  unfold txN at h
  simp only [ND.mk.injEq, true_and, and_true] at h
  exact h
theorem CtAt.eq {X : List ND} {i id ep tr cf ex id' ep' tr' cf' ex' : Int} (h : CtAt X i id ep tr cf ex) (k : CtAt X i id' ep' tr' cf' ex') : id = id' ∧ ep = ep' ∧ tr = tr' ∧ cf = cf' ∧ ex = ex' := by
  obtain ⟨g, d, h1, h2, h3⟩ := h; obtain ⟨g', d', k1, k2, k3⟩ := k
  have e := nd_inj (h3.eq k3)
  simp only [List.cons.injEq, and_true] at e
  obtain ⟨-, e1, e2, e3, e4, e5⟩ := e
  subst e2
  exact ⟨e1, digB_inj (txN_inj (h2.eq k2)), e3, e4, e5⟩
theorem CtAt.uniq {X : List ND} (ok : Okay X) {i j id ep tr cf ex : Int} (h : CtAt X i id ep tr cf ex) (k : CtAt X j id ep tr cf ex) : i = j := by
  obtain ⟨g, d, h1, h2, h3⟩ := h; obtain ⟨g', d', k1, k2, k3⟩ := k
  obtain rfl := At.uniq ok h1 k1
  obtain rfl := At.uniq ok h2 k2
  exact At.uniq ok h3 k3
end Go.KK

