/- schedule: Psk, Joiner. -/
import Derived.Test.YtkgobglmkhkbbaaGreatDoorU6
namespace Go.KK
open Go.RowKit
set_option linter.unusedVariables false
set_option linter.unusedSimpArgs false
theorem psk_err {r : Rs} (h : r.2.2 ≠ 0) : ∀ m : List Int, m ≠ [] → pskG r m = (r.1, 0, r.2.2) := by
  intro m
  induction m generalizing r with
  | nil => intro h; exact absurd rfl h
  | cons s m ih =>
    intro _
    have e : bdF r (fun ys p => exF ys p s) = (r.1, 0, r.2.2) := by unfold bdF; rw [if_neg h]
    show pskG (bdF r fun ys p => exF ys p s) m = _
    rw [e]
    rcases m with _ | ⟨t, m⟩
    · rfl
    · exact ih (r := (r.1, 0, r.2.2)) h (by simp)
theorem psk_split (r : Rs) : ∀ (l m : List Int), pskG r (l ++ m) = pskG (pskG r l) m := by
  intro l
  induction l generalizing r with
  | nil => intro m; rfl
  | cons s l ih => intro m; exact ih _ m
theorem psk_stuck {xs : List ND} {l : List Int} {j : Nat} (hj : j < l.length) (h : (pskF xs (l.take j)).2.2 ≠ 0) : pskF xs l = ((pskF xs (l.take j)).1, 0, (pskF xs (l.take j)).2.2) := by
  have e : l = l.take j ++ l.drop j := (List.take_append_drop j l).symm
  have e2 : pskF xs l = pskG (pskF xs (l.take j)) (l.drop j) := by
    conv => lhs; rw [e]
    exact psk_split _ _ _
  rw [e2]
  exact psk_err h _ (by
    intro h
    have := congrArg List.length h
    simp at this
    omega)
theorem psk_one {xs : List ND} {l : List Int} {j : Nat} {s : Int} (hs : l[j]? = some s) (h : (pskF xs (l.take j)).2.2 = 0) : pskF xs (l.take (j + 1)) = exF (pskF xs (l.take j)).1 (pskF xs (l.take j)).2.1 s := by
  have e : pskF xs (l.take (j + 1)) = bdF (pskF xs (l.take j)) fun ys p => exF ys p s := by
    unfold pskF
    rw [take_one hs, psk_snoc]
  rw [e]
  unfold bdF
  rw [if_pos h]
end Go.KK
namespace Go.Proofs.YtkgobglmkhkbbaaGreatDoor
open Go.RowKit Go.KK Go.Shelf Go.Maps

/-- A row of numbers that the arena's steps leave alone. -/
def SlM (W : World) (Z : Nat → Prop) (A : Option Addr) (n c : Nat) (l : List Int) : Prop := SlA W 1 A n c (l.map (.int .i64)) ∧ ∀ b o, A = some ⟨b, o, none⟩ → 0 < n → b < W.heap.size ∧ ¬ Z b
theorem SlM.mv {W W' : World} {Z Z' : Nat → Prop} {A : Option Addr} {n c : Nat} {l : List Int} (h : SlM W Z A n c l) (m : Mv Z W Z' W') : SlM W' Z' A n c l := by
  refine ⟨⟨h.1.nc, h.1.cm, h.1.len, fun j u hj => ?_⟩, fun b o e hn => ?_⟩
  · have hjl := (List.getElem?_eq_some_iff.1 hj).1
    have hlen := h.1.len
    obtain ⟨b, off, e, hc⟩ := h.1.cells j u hj
    have hn : 0 < n := by omega
    obtain ⟨h1, h2⟩ := h.2 b off e hn
    refine ⟨b, off, e, ?_⟩
    rw [World.cell?_of_block (a := ⟨b, off + j, none⟩) (show W'.heap[b]? = W.heap[b]? from m.t.block b h1 h2)]
    exact hc
  · obtain ⟨h1, h2⟩ := h.2 b o e hn
    refine ⟨Nat.lt_of_lt_of_le h1 m.t.size, fun hz => ?_⟩
    rcases m.n b hz with h | h
    · exact h2 h
    · omega
theorem SlM.of_in {w0 W : World} {Z : Nat → Prop} {sa : Nat} {xs : List ND} {A : Option Addr} {n c : Nat} {l : List Int} (h : SlA w0 1 A n c (l.map (.int .i64))) (la : LA w0 W Z sa xs) : SlM W Z A n c l := by
  refine ⟨h.ext la.bl, fun b o e hn => ?_⟩
  obtain ⟨b', o', x, e', -, hc⟩ := h.elemI hn
  rw [e] at e'
  injection e' with e'
  injection e' with e1 e2
  subst e1
  have := block_lt_of_cell hc
  exact ⟨Nat.lt_of_lt_of_le this la.sz, fun hz => by have := la.z b hz; simp only at *; omega⟩
theorem SlM.nil (W : World) (Z : Nat → Prop) : SlM W Z none 0 0 [] := ⟨SlA.nil _ _, fun b o e => by cases e⟩
section
variable {w0 W W' : World} {Z Z' : Nat → Prop} {sa : Nat} {xs xs' : List ND}
set_option maxHeartbeats 2000000 in
set_option maxRecDepth 100000 in
theorem l_psk (h : LA w0 W Z sa xs) (hT : Tb w0.heap.size w0) {A : Option Addr} {n c : Nat} {l : List Int} (hl : SlM W Z A n c l) (hn : n ≤ 100000) (hi : ∀ i ∈ l, I64 i) :
    Calls Tryz.prog 18 #[.pointer (some ⟨sa, 0, none⟩), .slice A n c] W (LrS w0 W Z sa (pskF xs l)) := by
  have HT := hid hT; have HL := hid hl; have HI := hid hi
  have HLN := hid hl.1.lenI
  have HX := hid (l_text h hT ⟨#[]⟩)
  have HI0 := hid (show I64 (mk xs (txN ⟨#[]⟩)).2.1 from idx_i64 h.ar.ok (txN ⟨#[]⟩))
  clear h hT hl hi
  go_enter Tryz.func18, Tryz.ntmps18
  go_wp2_with fail
  refine HX.out.mono ?_
  rintro e w2 ⟨Z2, rfl, l2, m2⟩
  have L2 := hid l2; have M2 := hid m2
  clear l2 m2 HX
  have HOK := hid L2.out.ar.ok
  go_wp2_with fail
  go_loopw [17, 6, 7] (fun v p e wr => ∃ (j : Nat) (Zr : Nat → Prop) (R : Rs), v = .int .i64 j ∧ j ≤ n ∧ Hid (R = pskF xs (l.take j)) ∧ p = .int .i64 R.2.1 ∧ e = .int .i64 R.2.2 ∧ I64 R.2.1 ∧ LA w0 wr Zr sa R.1 ∧ Mv Z W Zr wr) (fun v _ _ _ => n - (intOf v).toNat)
  case atStart => exact ⟨0, Z2, _, rfl, Nat.zero_le _, hid rfl, rfl, rfl, HI0.out, L2.out, M2.out⟩
  case round =>
    clear L2 M2 HOK
    obtain ⟨j, Zr, R, hv, hj, hR, hp, he, hpi, hla, hmv⟩ := hrel
    subst hv; subst hp; subst he
    have HLA := hid hla; have HMV := hid hmv
    clear hla hmv
    by_cases hlt : j < n
    · obtain ⟨b, off, y, rfl, hy, hcy⟩ := (HL.out.mv HMV.out).1.elemI hlt
      have hlt' : (j : Int) < (n : Int) := by omega
      have hyi : I64 y := HI.out y (List.mem_of_getElem? hy)
      by_cases he : R.2.2 = 0
      · have HST := hid (show pskF xs (l.take (j + 1)) = exF R.1 R.2.1 y by
          have := psk_one (xs := xs) hy (by rw [← hR.out]; exact he)
          rwa [← hR.out] at this)
        have HEX := hid (l_ex HLA.out HT.out hpi hyi)
        have hii : I64 (exF R.1 R.2.1 y).2.1 := idx_i64 HLA.out.ar.ok (ndN 5 [R.2.1, y])
        have HLT := hid hlt
        rw [he]
        clear hy
        generalize exF R.1 R.2.1 y = r at *
        go_wp2_with fail
        refine HEX.out.mono ?_
        rintro e w3 ⟨Z3, rfl, l3, m3⟩
        have L3 := hid l3; have M3 := hid (HMV.out.trans m3)
        clear l3 m3 HEX HLA HMV hcy
        go_wp2_with fail
        go_roundw
        case rel => exact ⟨j + 1, Z3, r, by go_num, by have := HLT.out; omega, hid HST.out.symm, rfl, rfl, hii, L3.out, M3.out⟩
        case measure => have := HLT.out; simp [intOf]; omega
      · have HST := hid (show pskF xs l = (R.1, 0, R.2.2) by
          have := psk_stuck (xs := xs) (l := l) (j := j) (by have := HLN.out; omega) (by rw [← hR.out]; exact he)
          rwa [← hR.out] at this)
        have hne : (R.2.2 != 0) = true := bne_iff_ne.2 he
        clear hy he
        go_wp2_with fail
        go_ret2
        exact (show LrS _ _ _ _ _ _ _ from ⟨Zr, by rw [HST.out]; rfl, by rw [HST.out]; exact HLA.out, HMV.out⟩)
    · obtain rfl : j = n := by omega
      have hlt' : ¬ (j : Int) < (j : Int) := by omega
      have HST := hid (show pskF xs l = R by rw [hR.out, List.take_of_length_le (by have := HLN.out; omega)])
      go_wp2_with fail
      go_ret2
      exact (show LrS _ _ _ _ _ _ _ from ⟨Zr, by rw [HST.out]; rfl, by rw [HST.out]; exact HLA.out, HMV.out⟩)
theorem l_jn (h : LA w0 W Z sa xs) (hT : Tb w0.heap.size w0) {i c x : Int} (hi : I64 i) (hc : I64 c) (hx : I64 x) :
    Calls Tryz.prog 28 #[.pointer (some ⟨sa, 0, none⟩), .int .i64 i, .int .i64 c, .int .i64 x] W (LrS w0 W Z sa (jnF xs i c x)) := by
  have HT := hid hT
  have HX := hid (l_ex h hT hi hc)
  have hmi : I64 (exF xs i c).2.1 := idx_i64 h.ar.ok (ndN 5 [i, c])
  clear h hT
  by_cases he : (exF xs i c).2.2 = 0
  · have HF := hid (show jnF xs i c x = exdF (exF xs i c).1 (exF xs i c).2.1 lbJoiner x by unfold jnF bdF; rw [if_pos he])
    rw [HF.out]
    unfold LrS at HX
    rw [he] at HX
    clear he
    generalize exF xs i c = r at *
    obtain ⟨Y, m, er⟩ := r
    obtain ⟨r, hr⟩ : ∃ r : Rs, r = exdF Y m lbJoiner x := ⟨_, rfl⟩
    rw [← hr]
    have HR := hid hr
    clear hr HF
    go_enter Tryz.func28, Tryz.ntmps28
    go_wp2_with fail
    refine HX.out.mono ?_
    rintro e w2 ⟨Z2, rfl, l2, m2⟩
    have HO := hid (l_exd l2 HT.out hmi hx lbJoiner)
    rw [← HR.out] at HO
    unfold lbJoiner at HO
    have M2 := hid m2
    clear l2 m2 HX
    go_wp2_with fail
    refine HO.out.mono ?_
    rintro e w3 ⟨Z3, rfl, l3, m3⟩
    have L3 := hid l3; have M3 := hid (M2.out.trans m3)
    clear l3 m3 HO
    go_wp2_with fail
    go_ret2
    exact ⟨Z3, rfl, L3.out, M3.out⟩
  · have HF := hid (show jnF xs i c x = ((exF xs i c).1, 0, (exF xs i c).2.2) by unfold jnF bdF; rw [if_neg he])
    rw [HF.out]
    unfold LrS at HX
    have hne : ((exF xs i c).2.2 != 0) = true := bne_iff_ne.2 he
    clear he
    generalize exF xs i c = r at *
    obtain ⟨Y, m, er⟩ := r
    go_enter Tryz.func28, Tryz.ntmps28
    go_wp2_with fail
    refine HX.out.mono ?_
    rintro e w2 ⟨Z2, rfl, l2, m2⟩
    have L2 := hid l2; have M2 := hid m2
    clear l2 m2 HX HF
    go_wp2_with fail
    go_ret2
    exact ⟨Z2, rfl, L2.out, M2.out⟩
end
end Go.Proofs.YtkgobglmkhkbbaaGreatDoor
