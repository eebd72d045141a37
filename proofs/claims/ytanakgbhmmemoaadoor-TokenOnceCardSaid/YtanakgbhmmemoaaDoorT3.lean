/- token: Had. -/
import Derived.Test.YtanakgbhmmemoaaDoorT2
namespace Go.Proofs.YtanakgbhmmemoaaDoor
open Go.RowKit Go.KK Go.Shelf Go.Maps
set_option linter.unusedVariables false
set_option linter.unusedSimpArgs false

/-- Counts that stay numbers. -/
def CtB (g : List (Int × Int)) : Prop := ∀ c ∈ g, 0 ≤ c.2 ∧ c.2 ≤ 1000000
theorem lb_of {g : List (Int × Int)} (h : CtS g) {k : Nat} {c : Int × Int} (hk : g[k]? = some c) : lbF g c.1 = k := by
  have hlt := (List.getElem?_eq_some_iff.1 hk).1
  refine lb_is c.1 (by omega) (fun i d hd hi => cts_rise h hd hk hi) (fun i d hd hi => ?_)
  rcases Nat.lt_or_ge k i with h1 | h1
  · have := cts_rise h hk hd h1; omega
  · have : i = k := by omega
    subst this
    rw [hk] at hd
    injection hd with hd
    rw [hd]; omega
theorem cnt_yes {g : List (Int × Int)} (h : CtS g) {w : Int} (hi : isF g w = true) : ∃ c, g[lbF g w]? = some c ∧ c.1 = w ∧ cntF g w = c.2 ∧ c ∈ g := by
  have hs : (g.find? fun c => c.1 == w).isSome = true := by
    rw [List.find?_isSome]
    unfold isF at hi
    rw [List.any_eq_true] at hi
    obtain ⟨c, h1, h2⟩ := hi
    exact ⟨c, h1, h2⟩
  obtain ⟨c, hc⟩ := Option.isSome_iff_exists.1 hs
  have h1 := List.find?_some hc
  have h2 := List.mem_of_find?_eq_some hc
  have h3 : c.1 = w := by simpa using h1
  obtain ⟨k, hk, e⟩ := List.mem_iff_getElem.1 h2
  have hkc : g[k]? = some c := by rw [List.getElem?_eq_getElem hk, e]
  have hl := lb_of h hkc
  rw [h3] at hl
  exact ⟨c, by rw [hl]; exact hkc, h3, by unfold cntF; rw [hc], h2⟩
theorem cnt_no {g : List (Int × Int)} {w : Int} (hi : isF g w = false) : cntF g w = 0 := by
  unfold cntF
  have : (g.find? fun c => c.1 == w) = none := by
    rw [List.find?_eq_none]
    unfold isF at hi
    rw [List.any_eq_false] at hi
    exact hi
  rw [this]
theorem cnt_le {g : List (Int × Int)} (h : CtS g) (hb : CtB g) (w : Int) : 0 ≤ cntF g w ∧ cntF g w ≤ 1000000 := by
  rcases hi : isF g w with _ | _
  · rw [cnt_no hi]; omega
  · obtain ⟨c, _, _, e, hm⟩ := cnt_yes h hi
    rw [e]; exact hb c hm
theorem had_le {g : List (Int × Int)} (h : CtS g) (hb : CtB g) : ∀ l : List Int, 0 ≤ hadF g l ∧ hadF g l ≤ 1000000 * l.length
  | [] => by simp [hadF]
  | x :: l => by
    have h1 := cnt_le h hb x
    have h2 := had_le h hb l
    unfold hadF at h2 ⊢
    rw [List.map_cons, List.sum_cons, List.length_cons]
    omega
theorem had_snoc (g : List (Int × Int)) (l : List Int) (x : Int) : hadF g (l ++ [x]) = hadF g l + cntF g x := by
  unfold hadF; rw [List.map_append, List.sum_append]; simp
set_option maxHeartbeats 2000000 in
set_option maxRecDepth 20000 in
theorem had_any (m : MT) (A : Option Addr) (c : Nat) (p : Value) (A' : Option Addr) (n' c' : Nat) (l : List Int) (w : World) (h : CtA w A c m.g) (hs : CtS m.g) (hcb : CtB m.g) (hn : m.g.length ≤ 1000000) (hl : SlA w 1 A' n' c' (l.map (.int .i64))) (hln : n' ≤ 1000) :
    Calls Tryd.prog 26 #[.agg #[.int .i64 m.k, .int .i64 m.q, .slice A m.g.length c, p], .slice A' n' c'] w fun e w' => e = .returned (.int .i64 (hadF m.g l)) ∧ Below w.heap.size w w' := by
  have H := hid h; have HS := hid hs; have HCB := hid hcb; have HL := hid hl; have HLN := hid hl.lenI
  have B0 := hid (show Below w.heap.size w (w.alloc (.cells #[.int .i64 m.k, .int .i64 m.q, .slice A m.g.length c, p] 31)) from (Below.refl _ _).alloc (Nat.le_refl _) _)
  have X0 := hid (show (w.alloc (.cells #[.int .i64 m.k, .int .i64 m.q, .slice A m.g.length c, p] 31)).ownsRow w.heap.size 31 4 (.slice (some ⟨w.heap.size, 0, none⟩) 1 1) 1 [.int .i64 m.k, .int .i64 m.q, .slice A m.g.length c, p] from
    ⟨by simp, .inr ⟨w.heap.size, 1, _, rfl, Nat.le_refl _, heap_alloc_new w _, Nat.le_refl _, by decide, rfl, by simp⟩⟩)
  clear h hs hcb hl
  go_enter Tryd.func26, Tryd.ntmps26
  go_wp2
  go_loopw [12, 5] (fun i v wr => ∃ j : Nat, i = .int .i64 j ∧ j ≤ n' ∧ v = .int .i64 (hadF m.g (l.take j)) ∧ Below w.heap.size w wr ∧ wr.ownsRow w.heap.size 31 4 (.slice (some ⟨w.heap.size, 0, none⟩) 1 1) 1 [.int .i64 m.k, .int .i64 m.q, .slice A m.g.length c, p]) (fun i _ _ => n' - (intOf i).toNat)
  case atStart => exact ⟨0, rfl, Nat.zero_le _, rfl, B0.out, X0.out⟩
  case round =>
    obtain ⟨j, hi, hj, hv, hb, hx⟩ := hrel
    subst hi; subst hv
    have HB := hid hb; have HX := hid hx
    clear hb hx
    by_cases hlt : j < n'
    · obtain ⟨b1, o, z, rfl, hz, hc⟩ := (SlA.ext HL.out HB.out).elemI hlt
      have HZ := hid hz
      clear hz
      have HTK := hid (show hadF m.g (l.take (j + 1)) = hadF m.g (l.take j) + cntF m.g z by rw [take_snoc HZ.out, had_snoc])
      have hb1 := had_le HS.out HCB.out (l.take j)
      have hb2 := cnt_le HS.out HCB.out z
      have hb3 : ((l.take j).length : Int) ≤ 1000 := by rw [List.length_take]; omega
      have HB1 := hid hb1; have HB2 := hid hb2; have HB3 := hid hb3
      clear hb1 hb2 hb3
      obtain ⟨⟨k0, k1, k2, k3⟩, -⟩ := box4 HX.out
      go_wp2_with fail
      refine (find_any m A c p z _ (SlA.ext H.out HB.out) HS.out hn).mono ?_
      rintro e1 w1 ⟨rfl, b1'⟩
      have B1 := hid (HB.out.trans (b1'.mono HB.out.size))
      have X1 := hid (own_ext HX.out b1')
      clear b1' k0 k1 k2 k3 hc
      obtain ⟨⟨k0, k1, k2, k3⟩, -⟩ := box4 X1.out
      rcases hi : isF m.g z with _ | _
      · have HC := hid (cnt_no hi)
        clear hi
        generalize hadF m.g (l.take j) = acc at *
        go_wp2_with fail
        go_roundw
        case rel => exact ⟨j + 1, by go_num, by omega, by rw [HTK.out, HC.out, Int.add_zero], B1.out, X1.out⟩
        case measure => simp [intOf]; omega
      · obtain ⟨x, hx1, hx2, hx3, hx4⟩ := cnt_yes HS.out hi
        have hll := (List.getElem?_eq_some_iff.1 hx1).1
        obtain ⟨b2, o2, y, hA, hy, y0, y1⟩ := ctA_at (SlA.ext H.out B1.out) hll
        rw [hx1] at hy
        injection hy with hy
        subst hy
        have HC := hid hx3
        generalize lbF m.g z = lb at *
        generalize hadF m.g (l.take j) = acc at *
        have hq1 : 0 ≤ acc := HB1.out.1
        have hq2 : acc ≤ 1000000000 := by have := HB1.out.2; have := HB3.out; omega
        have hq3 : 0 ≤ x.2 := by have := HB2.out.1; rw [HC.out] at this; exact this
        have hq4 : x.2 ≤ 1000000 := by have := HB2.out.2; rw [HC.out] at this; exact this
        have hll' : (lb : Int) < (m.g.length : Int) := by omega
        subst hA
        clear hi hx1 hx2 hx3 hx4
        go_wp2_with fail
        go_roundw
        case rel => exact ⟨j + 1, by go_num, by omega, by rw [HTK.out, HC.out], B1.out, X1.out⟩
        case measure => simp [intOf]; omega
    · have HF := hid (show l.take j = l from List.take_of_length_le (by have := HLN.out; omega))
      go_wp2
      go_ret
      exact ⟨by rw [HF.out]; rfl, HB.out⟩
end Go.Proofs.YtanakgbhmmemoaaDoor
