import Derived.Test.YtfmkniakfgpgjaaDoorY09
import Derived.Test.YtfmkniakfgpgjaaDoorY08
import Derived.Test.YtfmkniakfgpgjaaDoorY05
import Derived.Test.YtfmkniakfgpgjaaDoorY04
import Derived.Test.YtfmkniakfgpgjaaDoorY02
import Derived.Deep.RegionLaw
import Derived.BigQuiet
import Derived.Deep.RegionHeldLaw
import Derived.Deep.DeepCutAuto
/- the document's token layer: which are terms, New, Had. -/
namespace Go.Proofs.YtfmkniakfgpgjaaDoor
open Go.RowKit Go.KK Go.Shelf Go.Maps
set_option linter.unusedVariables false
set_option linter.unusedSimpArgs false

theorem rlen_any (st : Nat) (xs : List ND) (w : World) (h : ArV w 78 st xs) :
    Calls Tryd.prog 46 #[.pointer (some ⟨st, 0, none⟩)] w fun e w' => e = .returned (.int .i64 xs.length) ∧ w' = w := by
  obtain ⟨A, c, m, h0, h1, hn⟩ := h.parts
  clear hn h
  go_enter Tryd.func46, Tryd.ntmps46
  go_wp2
  go_ret
  exact ⟨rfl, rfl⟩
section
variable {xs : List ND}
theorem rterm_any (st : Nat) (w : World) (A : Option Addr) (n c : Nat) (l : List Int) (h : ArV w 78 st xs) (hl : SlA w 1 A n c (l.map (.int .i64))) (hn : n ≤ 2147483648) :
    Calls Tryd.prog 29 #[.pointer (some ⟨st, 0, none⟩), .slice A n c] w fun e w' => e = .returned (.bool (kno xs l)) ∧ w' = w := by
  have H := hid h; have HS := hid hl; have HL := hid hl.lenI
  clear h hl
  unfold kno
  go_enter Tryd.func29, Tryd.ntmps29
  go_wp2
  go_loopw [9] (fun i wr => ∃ j : Nat, i = .int .i64 j ∧ j ≤ n ∧ Hid (l.all (hasB xs) = (l.drop j).all (hasB xs)) ∧ wr = w) (fun i _ => n - (intOf i).toNat)
  case atStart => exact ⟨0, rfl, by omega, hid rfl, rfl⟩
  case round =>
    obtain ⟨j, hi, hj, HJ, hw⟩ := hrel
    subst hi; subst hw
    by_cases hlt : j < n
    · obtain ⟨b1, o, z, rfl, hz, hc⟩ := HS.out.elemI hlt
      have HD := hid (drop_get hz); clear hz
      by_cases hz0 : z < 0
      · have HF := hid (show l.all (hasB xs) = false by
          rw [HJ.out, HD.out, List.all_cons, show hasB xs z = false by unfold hasB; rw [decide_eq_false (by omega : ¬ 0 ≤ z)]; rfl]; rfl)
        go_wp2
        go_ret
        exact ⟨by rw [HF.out]; rfl, rfl⟩
      · by_cases hz1 : (xs.length : Int) ≤ z
        · have HF := hid (show l.all (hasB xs) = false by
            rw [HJ.out, HD.out, List.all_cons, show hasB xs z = false by unfold hasB; rw [decide_eq_false (by omega : ¬ z < (xs.length : Int))]; simp]; rfl)
          go_wp2_with (go_at_call 46; refine (rlen_any st xs _ H.out).mono ?_; rintro e w' ⟨rfl, hw'⟩; subst hw')
          go_ret
          exact ⟨by rw [HF.out]; rfl, rfl⟩
        · have HF := hid (show l.all (hasB xs) = (l.drop (j + 1)).all (hasB xs) by
            rw [HJ.out, HD.out, List.all_cons, show hasB xs z = true by unfold hasB; rw [decide_eq_true (by omega : z < (xs.length : Int)), decide_eq_true (by omega : 0 ≤ z)]; rfl]; rfl)
          go_wp2_with (go_at_call 46; refine (rlen_any st xs _ H.out).mono ?_; rintro e w' ⟨rfl, hw'⟩; subst hw')
          go_roundw
          case rel => exact ⟨j + 1, by go_num, by omega, HF, by first | rfl | trivial⟩
          case measure => simp [intOf]; omega
    · have HF := hid (show l.all (hasB xs) = true by rw [HJ.out, List.drop_of_length_le (by have := HL.out; omega)]; rfl)
      go_wp2
      go_ret
      exact ⟨by rw [HF.out]; rfl, rfl⟩
theorem rtermb_any (st : Nat) (w : World) (A : Option Addr) (n c : Nat) (l : List Int) (h : ArV w 78 st xs) (hl : SlA w 1 A n c (l.map (.int .i64))) (hn : n ≤ 2147483648) :
    Calls Tryd.prog 29 #[.pointer (some ⟨st, 0, none⟩), .slice A n c] w fun e w' => e = .returned (.bool (kno xs l)) ∧ Below w.heap.size w w' :=
  (rterm_any st w A n c l h hl hn).mono fun e w' ⟨h1, h2⟩ => ⟨h1, by rw [h2]; exact Below.refl _ _⟩
end
section
variable (st : Nat) (xs : List ND) (w : World)
set_option maxHeartbeats 1000000 in
theorem rtnew_any (sk quota : Int) (h : ArV w 78 st xs) :
    Calls Tryd.prog 7 #[.pointer (some ⟨st, 0, none⟩), .int .i64 sk, .int .i64 quota] w fun e w' => e = .returned (.tuple #[mtV (newF xs sk quota).1 (.slice none 0 0) (.slice none 0 0), .int .i64 (newF xs sk quota).2]) ∧ Below w.heap.size w w' := by
  have H := hid h
  have B0 := hid (show Below w.heap.size w (w.alloc (.cells #[.int .i64 0, .int .i64 0, .slice none 0 0, .slice none 0 0] 31)) from (Below.refl _ _).alloc (Nat.le_refl _) _)
  have X0 := hid (show (w.alloc (.cells #[.int .i64 0, .int .i64 0, .slice none 0 0, .slice none 0 0] 31)).ownsRow w.heap.size 31 4 (.slice (some ⟨w.heap.size, 0, none⟩) 1 1) 1 [.int .i64 0, .int .i64 0, .slice none 0 0, .slice none 0 0] from
    ⟨by simp, .inr ⟨w.heap.size, 1, _, rfl, Nat.le_refl _, heap_alloc_new w _, Nat.le_refl _, by decide, rfl, by simp⟩⟩)
  have hf : newF xs sk quota = if hasB xs sk && decide (0 ≤ quota) then (⟨sk, quota, [], []⟩, 0) else (mt0, 1) := rfl
  have HF := hid hf
  clear h hf
  go_enter Tryd.func7, Tryd.ntmps7
  go_upto_region 1 with fail
  generalize w.alloc (.cells #[.int .i64 0, .int .i64 0, .slice none 0 0, .slice none 0 0] 31) = W0 at *
  have B1 := hid (B0.out.alloc B0.out.size (.cells #[.int .i64 sk] 3))
  have HKN := hid (rtermb_any st (W0.alloc (.cells #[.int .i64 sk] 3)) (some ⟨W0.heap.size, 0, none⟩) 1 1 [sk] (H.out.ext B1.out) (sla_row #[.int .i64 sk] (by unfold maxLen; simp)) (by decide))
  have X1 := hid (X0.out.alloc (.cells #[.int .i64 sk] 3))
  go_wp2_with fail
  refine HKN.out.mono ?_
  rintro e1 w1 ⟨rfl, b1⟩
  rw [kno_one]
  have B2 := hid (B1.out.trans (b1.mono B1.out.size))
  have X2 := hid (own_ext X1.out b1)
  obtain ⟨⟨k0, k1, k2, k3⟩, f0, f1, f2, f3⟩ := box4 X2.out
  clear b1 HKN
  have hend : ∀ v0 v1 v2 v3 : Value, Below w.heap.size w ((((w1.setCell ⟨w.heap.size, 0, none⟩ v0).setCell ⟨w.heap.size, 1, none⟩ v1).setCell ⟨w.heap.size, 2, none⟩ v2).setCell ⟨w.heap.size, 3, none⟩ v3) := fun v0 v1 v2 v3 =>
    (((B2.out.setCell (p := ⟨w.heap.size, 0, none⟩) (Nat.le_refl _) _).setCell (p := ⟨w.heap.size, 1, none⟩) (Nat.le_refl _) _).setCell (p := ⟨w.heap.size, 2, none⟩) (Nat.le_refl _) _).setCell (p := ⟨w.heap.size, 3, none⟩) (Nat.le_refl _) _
  have HEND := hid hend
  clear hend
  by_cases hq : hasB xs sk = true ∧ 0 ≤ quota
  · have HR := hid (show newF xs sk quota = (⟨sk, quota, [], []⟩, 0) by rw [HF.out, hq.1, decide_eq_true hq.2]; rfl)
    obtain ⟨q1, q2⟩ := hq
    rw [q1]
    clear q1
    go_wp2_with fail
    refine bodyPost_ret (v := .tuple #[.agg #[.int .i64 sk, .int .i64 quota, .slice none 0 0, .slice none 0 0], .int .i64 0]) ?_ rfl ⟨?_, HEND.out _ _ _ _⟩
    · rw [results_cell_tmp rfl]
      go_simp
    · rw [HR.out]; rfl
  · have HR := hid (show newF xs sk quota = (mt0, 1) by
      rw [HF.out, if_neg]
      simpa using hq)
    have hq2 : hasB xs sk = false ∨ (hasB xs sk = true ∧ quota < 0) := by
      rcases hb : hasB xs sk with _ | _
      · exact .inl rfl
      · exact .inr ⟨rfl, by have : ¬ 0 ≤ quota := fun h => hq ⟨hb, h⟩; omega⟩
    clear hq
    rcases hq2 with q1 | ⟨q1, q2⟩
    all_goals
      rw [q1]
      clear q1
      go_wp2_with fail
      refine bodyPost_ret (v := .tuple #[.agg #[.int .i64 0, .int .i64 0, .slice none 0 0, .slice none 0 0], .int .i64 1]) ?_ rfl ⟨?_, HEND.out _ _ _ _⟩
      · rw [results_cell_tmp rfl]
        go_simp
      · rw [HR.out]; rfl
end
/-- What a name had, told name by name. -/
def hitF : List (Int × Int) → Int → Int
  | [], _ => 0
  | c :: g, w => (if c.1 = w then c.2 else 0) + hitF g w
theorem hit_snoc (g : List (Int × Int)) (c : Int × Int) (w : Int) : hitF (g ++ [c]) w = hitF g w + (if c.1 = w then c.2 else 0) := by
  induction g with
  | nil => simp [hitF]
  | cons d g ih => rw [List.cons_append, hitF, hitF, ih]; omega
theorem hit_zero {g : List (Int × Int)} {w : Int} (h : ∀ c ∈ g, c.1 ≠ w) : hitF g w = 0 := by
  induction g with
  | nil => rfl
  | cons c g ih => rw [hitF, if_neg (h c (by simp)), ih fun d hd => h d (by simp [hd])]; rfl
theorem hit_cnt : ∀ {g : List (Int × Int)} (w : Int), CtS g → hitF g w = cntF g w
  | [], w, _ => rfl
  | c :: g, w, h => by
    obtain ⟨h1, h2⟩ := List.pairwise_cons.1 h
    unfold cntF
    rw [hitF, List.find?_cons]
    by_cases hc : c.1 = w
    · rw [if_pos hc, beq_iff_eq.2 hc, hit_zero fun d hd => by have := h1 d hd; omega]
      simp
    · rw [if_neg hc, beq_eq_false_iff_ne.2 hc, hit_cnt w h2]
      simp only [Int.zero_add]
      rfl
theorem hit_le {g : List (Int × Int)} (hb : CtB g) (w : Int) : 0 ≤ hitF g w ∧ hitF g w ≤ 1000000 * g.length := by
  induction g with
  | nil => simp [hitF]
  | cons c g ih =>
    have h1 := ih fun d hd => hb d (by simp [hd])
    have h2 := hb c (by simp)
    rw [hitF, List.length_cons]
    split <;> omega
theorem hit_take {g : List (Int × Int)} {i : Nat} {c : Int × Int} (h : g[i]? = some c) (w : Int) : hitF (g.take (i + 1)) w = hitF (g.take i) w + (if c.1 = w then c.2 else 0) := by
  rw [List.take_add_one, h]
  exact hit_snoc _ _ _
set_option maxHeartbeats 2000000 in
set_option maxRecDepth 20000 in
theorem rhad_any (m : MT) (A : Option Addr) (c : Nat) (p : Value) (A' : Option Addr) (n' c' : Nat) (l : List Int) (w : World) (h : CtA w A c m.g) (hs : CtS m.g) (hcb : CtB m.g) (hn : m.g.length ≤ 1000) (hl : SlA w 1 A' n' c' (l.map (.int .i64))) (hln : n' ≤ 1000) :
    Calls Tryd.prog 23 #[.agg #[.int .i64 m.k, .int .i64 m.q, .slice A m.g.length c, p], .slice A' n' c'] w fun e w' => e = .returned (.int .i64 (hadF m.g l)) ∧ Below w.heap.size w w' := by
  have H := hid h; have HS := hid hs; have HCB := hid hcb; have HL := hid hl; have HLN := hid hl.lenI
  have B0 := hid (show Below w.heap.size w (w.alloc (.cells #[.int .i64 m.k, .int .i64 m.q, .slice A m.g.length c, p] 31)) from (Below.refl _ _).alloc (Nat.le_refl _) _)
  have X0 := hid (show (w.alloc (.cells #[.int .i64 m.k, .int .i64 m.q, .slice A m.g.length c, p] 31)).ownsRow w.heap.size 31 4 (.slice (some ⟨w.heap.size, 0, none⟩) 1 1) 1 [.int .i64 m.k, .int .i64 m.q, .slice A m.g.length c, p] from
    ⟨by simp, .inr ⟨w.heap.size, 1, _, rfl, Nat.le_refl _, heap_alloc_new w _, Nat.le_refl _, by decide, rfl, by simp⟩⟩)
  clear h hs hcb hl
  go_enter Tryd.func23, Tryd.ntmps23
  go_wp2
  go_loopw [12, 5] (fun i v wr => ∃ j : Nat, i = .int .i64 j ∧ j ≤ n' ∧ v = .int .i64 (hadF m.g (l.take j)) ∧ Below w.heap.size w wr ∧ wr.ownsRow w.heap.size 31 4 (.slice (some ⟨w.heap.size, 0, none⟩) 1 1) 1 [.int .i64 m.k, .int .i64 m.q, .slice A m.g.length c, p]) (fun i _ _ => n' - (intOf i).toNat)
  case atStart => exact ⟨0, rfl, Nat.zero_le _, rfl, B0.out, X0.out⟩
  case round =>
    obtain ⟨j, hi, hj, hv, hb, hx⟩ := hrel
    subst hi; subst hv
    have HB := hid hb; have HX := hid hx
    clear hb hx
    by_cases hlt : j < n'
    · obtain ⟨b1, o, z, rfl, hz, hc⟩ := (SlA.ext HL.out HB.out).elemI hlt
      have HZ := hid hz
      clear hz
      have HTK := hid (show hadF m.g (l.take (j + 1)) = hadF m.g (l.take j) + cntF m.g z by rw [take_snoc HZ.out, had_snoc])
      have HB1 := hid (had_le HS.out HCB.out (l.take j))
      have HB3 := hid (show ((l.take j).length : Int) ≤ 1000 by rw [List.length_take]; omega)
      have HQ := hid (show 0 ≤ hadF m.g (l.take j) ∧ hadF m.g (l.take j) ≤ 1000000000 by have := HB1.out; have := HB3.out; omega)
      have HHC := hid (hit_cnt z HS.out)
      have HLT := hid hlt
      obtain ⟨⟨k0, k1, k2, k3⟩, -⟩ := box4 HX.out
      generalize hadF m.g (l.take j) = acc at *
      go_wp2
      go_loopw [19, 5] (fun i v wq => ∃ q : Nat, i = .int .i64 q ∧ q ≤ m.g.length ∧ v = .int .i64 (acc + hitF (m.g.take q) z) ∧ Below w.heap.size w wq ∧ wq.ownsRow w.heap.size 31 4 (.slice (some ⟨w.heap.size, 0, none⟩) 1 1) 1 [.int .i64 m.k, .int .i64 m.q, .slice A m.g.length c, p]) (fun i _ _ => m.g.length - (intOf i).toNat)
      case atStart => exact ⟨0, rfl, Nat.zero_le _, by rw [List.take_zero]; simp [hitF], HB.out, HX.out⟩
      case round =>
        clear k0 k1 k2 k3 hc
        obtain ⟨q, hi, hq, hv, hb, hx⟩ := hrel
        subst hi; subst hv
        have HBq := hid hb; have HXq := hid hx
        clear hb hx
        by_cases hlt2 : q < m.g.length
        · obtain ⟨b2, o2, y, hA, hy, y0, y1⟩ := ctA_at (SlA.ext H.out HBq.out) hlt2
          have HTQ := hid (hit_take hy z)
          have HQ2 := hid (hit_le (g := m.g.take q) (fun d hd => HCB.out d (List.mem_of_mem_take hd)) z)
          have hyb := HCB.out y (List.mem_of_getElem? hy)
          have HL3 := hid (show ((m.g.take q).length : Int) ≤ 1000 by rw [List.length_take]; omega)
          have hq1 : (0 : Int) ≤ acc + hitF (m.g.take q) z := by have := HQ2.out.1; have := HQ.out.1; omega
          have hq2 : acc + hitF (m.g.take q) z ≤ 3000000000 := by have h1 := HQ2.out.2; have := HQ.out.2; have h3 := HL3.out; omega
          have HACC := hid (show ∀ d : Int, acc + hitF (m.g.take q) z + d = acc + (hitF (m.g.take q) z + d) from fun d => by omega)
          generalize hitF (m.g.take q) z = hq0 at *
          subst hA
          have hlt2' : (q : Int) < (m.g.length : Int) := by omega
          clear hy
          by_cases hyz : y.1 = z
          · rw [if_pos hyz] at HTQ
            go_wp2
            go_roundw
            case rel => exact ⟨q + 1, by go_num, by omega, by rw [HTQ.out, HACC.out], HBq.out.alloc HBq.out.size _, own_ext HXq.out ((Below.refl _ _).alloc (Nat.le_refl _) _)⟩
            case measure => simp [intOf]; omega
          · rw [if_neg hyz] at HTQ
            have hyz' : (y.1 == z) = false := beq_eq_false_iff_ne.2 hyz
            clear hyz
            go_wp2
            go_roundw
            case rel => exact ⟨q + 1, by go_num, by omega, by rw [HTQ.out, Int.add_zero], HBq.out.alloc HBq.out.size _, own_ext HXq.out ((Below.refl _ _).alloc (Nat.le_refl _) _)⟩
            case measure => simp [intOf]; omega
        · obtain rfl : q = m.g.length := by omega
          have HTA := hid (show hitF (m.g.take m.g.length) z = cntF m.g z by rw [List.take_length, HHC.out])
          have hlt2' : ¬ (m.g.length : Int) < (m.g.length : Int) := by omega
          go_wp2
          go_roundw
          case rel => exact ⟨j + 1, by go_num, by have := HLT.out; omega, by rw [HTK.out, HTA.out], HBq.out, HXq.out⟩
          case measure => have := HLT.out; simp [intOf]; omega
    · obtain rfl : j = n' := by omega
      have HTA := hid (show hadF m.g (l.take j) = hadF m.g l by rw [List.take_of_length_le (by have := HLN.out; omega)])
      go_wp2
      go_ret
      exact ⟨by rw [HTA.out]; rfl, HB.out⟩
end Go.Proofs.YtfmkniakfgpgjaaDoor

/- the document's token layer: Ask. -/
namespace Go.Proofs.YtfmkniakfgpgjaaDoor
open Go.RowKit Go.KK Go.Shelf Go.Maps
set_option linter.unusedVariables false
set_option linter.unusedSimpArgs false

section
variable {w0 W W' : World} {Z Z' : Nat → Prop} {sb : Nat} {ys ys' : List ND}
theorem q_atom (h : LQ w0 W Z sb ys) {n : Int} (hn : I64 n) :
    Calls Tryd.prog 27 #[.pointer (some ⟨sb, 0, none⟩), .int .i64 n] W (LrQ w0 W Z sb (mk ys (atN n))) := by
  refine (ratom_any Z sb ys W n h.ar hn).mono ?_
  rintro e w' ⟨rfl, Z', h1, h2, h3⟩
  exact ⟨Z', rfl, h.mv ⟨h2, h3⟩ h1, ⟨h2, h3⟩⟩
theorem q_of2 (h : LQ w0 W Z sb ys) {o a b : Int} (ho : I64 o) (ha : I64 a) (hb : I64 b) :
    Calls Tryd.prog 33 #[.pointer (some ⟨sb, 0, none⟩), .int .i64 o, .slice (some ⟨W.heap.size, 0, none⟩) 2 2] (W.alloc (.cells #[.int .i64 a, .int .i64 b] 3)) (LrQ w0 W Z sb (mk ys (ndN o [a, b]))) := by
  refine (q_of (h.alloc (.cells #[.int .i64 a, .int .i64 b] 3)) (o := o) (l := [a, b]) (sla_row #[.int .i64 a, .int .i64 b] (by unfold maxLen; simp)) ho (fun i hi => by
    simp only [List.mem_cons, List.mem_nil_iff, or_false] at hi
    rcases hi with rfl | rfl
    · exact ha
    · exact hb)).mono ?_
  rintro e w' ⟨Z', rfl, h1, h2⟩
  exact ⟨Z', rfl, h1, (Mv.alloc Z W (.cells #[.int .i64 a, .int .i64 b] 3)).trans h2⟩
set_option maxHeartbeats 2000000 in
set_option maxRecDepth 100000 in
theorem rask_any (h : LQ w0 W Z sb ys) {nonce draw : Int} (hd : I64 draw) :
    Calls Tryd.prog 12 #[.pointer (some ⟨sb, 0, none⟩), .int .i64 nonce, .int .i64 draw] W (LrQ w0 W Z sb (askF ys nonce draw)) := by
  have HA := hid (h.alloc (.cells #[.int .i64 nonce] 3))
  have HM := hid (Mv.alloc Z W (.cells #[.int .i64 nonce] 3))
  have HK := hid (rterm_any sb (W.alloc (.cells #[.int .i64 nonce] 3)) (some ⟨W.heap.size, 0, none⟩) 1 1 [nonce] HA.out.ar.vw (sla_row #[.int .i64 nonce] (by unfold maxLen; simp)) (by omega))
  rw [kno_one] at HK
  have ok := h.ar.ok
  have hti := idx_i64 ok (atN draw)
  clear h
  rcases hk : hasB ys nonce with _ | _
  · have HF := hid (show askF ys nonce draw = (ys, 0, 1) by unfold askF; rw [hk]; rfl)
    rw [HF.out]
    rw [hk] at HK
    clear hk hti ok
    go_enter Tryd.func12, Tryd.ntmps12
    go_wp2_with fail
    refine HK.out.mono ?_
    rintro e w' ⟨rfl, hw⟩
    subst hw
    go_wp2_with fail
    go_ret2
    exact ⟨Z, rfl, HA.out, HM.out⟩
  · have hni := has_i64 ok hk
    rw [hk] at HK
    by_cases hd0 : 0 ≤ draw
    · have HX := hid (q_atom HA.out (n := draw) hd)
      have hd1 : ¬ draw < 0 := by omega
      by_cases he : makE ys (atN draw) = 0
      · have HF := hid (show askF ys nonce draw = mk (makT ys (atN draw)) (ndN 12 [nonce, makI ys (atN draw)]) by unfold askF; rw [hk, decide_eq_true hd0, he]; rfl)
        rw [HF.out]
        unfold LrQ mk at HX
        rw [he] at HX
        clear hk he ok
        generalize makI ys (atN draw) = ti at *
        generalize makT ys (atN draw) = Y at *
        obtain ⟨r, hr⟩ : ∃ r : Rs, r = mk Y (ndN 12 [nonce, ti]) := ⟨_, rfl⟩
        rw [← hr]
        have HR := hid hr
        clear hr HF
        go_enter Tryd.func12, Tryd.ntmps12
        go_wp2_with fail
        refine HK.out.mono ?_
        rintro e w' ⟨rfl, hw⟩
        subst hw
        go_wp2_with fail
        refine HX.out.mono ?_
        rintro e w2 ⟨Z2, rfl, l2, m2⟩
        have HO := hid (q_of2 l2 (o := 12) (a := nonce) (b := ti) (i64_lit (by decide) (by decide)) hni hti)
        rw [← HR.out] at HO
        have M2 := hid (HM.out.trans m2)
        clear l2 m2 HX HK
        go_wp2_with fail
        refine HO.out.mono ?_
        rintro e w3 ⟨Z3, rfl, l3, m3⟩
        have L3 := hid l3; have M3 := hid (M2.out.trans m3)
        clear l3 m3 HO
        go_wp2_with fail
        go_ret2
        exact ⟨Z3, rfl, L3.out, M3.out⟩
      · have HF := hid (show askF ys nonce draw = (makT ys (atN draw), 0, makE ys (atN draw)) by unfold askF; rw [hk, decide_eq_true hd0, beq_eq_false_iff_ne.2 he]; rfl)
        rw [HF.out]
        unfold LrQ mk at HX
        have hne : (makE ys (atN draw) != 0) = true := bne_iff_ne.2 he
        clear hk he ok
        generalize makE ys (atN draw) = te at *
        generalize makI ys (atN draw) = ti at *
        generalize makT ys (atN draw) = Y at *
        go_enter Tryd.func12, Tryd.ntmps12
        go_wp2_with fail
        refine HK.out.mono ?_
        rintro e w' ⟨rfl, hw⟩
        subst hw
        go_wp2_with fail
        refine HX.out.mono ?_
        rintro e w2 ⟨Z2, rfl, l2, m2⟩
        have L2 := hid l2; have M2 := hid (HM.out.trans m2)
        clear l2 m2 HX HK HF
        go_wp2_with fail
        go_ret2
        exact ⟨Z2, rfl, L2.out, M2.out⟩
    · have hd1 : draw < 0 := by omega
      have HF := hid (show askF ys nonce draw = (ys, 0, 1) by unfold askF; rw [hk, decide_eq_false hd0]; rfl)
      rw [HF.out]
      clear hk hti ok
      go_enter Tryd.func12, Tryd.ntmps12
      go_wp2_with fail
      refine HK.out.mono ?_
      rintro e w' ⟨rfl, hw⟩
      subst hw
      go_wp2_with fail
      go_ret2
      exact ⟨Z, rfl, HA.out, HM.out⟩
end
end Go.Proofs.YtfmkniakfgpgjaaDoor

/- the document's layer 3: In, SameInts, Rising. -/
namespace Go.Proofs.YtfmkniakfgpgjaaDoor
open Go.RowKit Go.KK Go.Shelf Go.Maps
set_option linter.unusedVariables false
set_option linter.unusedSimpArgs false

theorem take_get {α : Type} {l : List α} {k : Nat} {x : α} (h : l[k]? = some x) : l.take (k + 1) = l.take k ++ [x] := by
  obtain ⟨hk, rfl⟩ := List.getElem?_eq_some_iff.1 h
  exact List.take_succ_eq_append_getElem hk
theorem run_cut_to6 {P : Program} {A : Option Addr} {n c sz : Nat} {t e : TypeId} (ht : P.underlying t = some (.slice e)) (hs : ∀ W : World, (sizeOf e).run P W = .ok sz W) {p : Nat} (hp : p ≤ c) :
    ∀ W : World, (Instr.slice t (.slice A n c) none (some (.int .i64 (p : Int))) none).run P W = .ok (.slice A p c) W := by
  intro W
  have he : P.elem t = e := by simp [Program.elem, ht]
  rw [run_slice_h W t A n c (by rw [he]; exact ht) .i64 p (by omega) (by omega), he, hs W]
  have hz : ∀ a : Addr, a.add 0 = a := fun a => by simp [Addr.add]
  simp [Result.andThen, sliced, hz]
/-- Whether a number is in a list. -/
def inB (l : List Int) (x : Int) : Bool := l.contains x
theorem in_any (A : Option Addr) (n c : Nat) (l : List Int) (x : Int) (w : World) (h : SlA w 1 A n c (l.map (.int .i64))) (hn : n ≤ 2147483648) :
    Calls Tryd.prog 44 #[.slice A n c, .int .i64 x] w fun e w' => e = .returned (.bool (inB l x)) ∧ w' = w := by
  have HL := hid h.lenI; have HS := hid h
  clear h
  go_enter Tryd.func44, Tryd.ntmps44
  go_wp2
  go_loop [9, 4] (fun i _ => ∃ j : Nat, i = .int .i64 j ∧ j ≤ n ∧ Hid (inB l x = inB (l.drop j) x)) (fun i _ => n - (intOf i).toNat)
  case atStart => exact ⟨0, rfl, by omega, hid rfl⟩
  case round =>
    obtain ⟨j, hi, hj, HJ⟩ := hrel
    subst hi
    by_cases hlt : j < n
    · obtain ⟨b, o, z, rfl, hz, hc⟩ := HS.out.elemI hlt
      have HD := hid (drop_get hz); clear hz
      by_cases hzx : z = x
      · have HF := hid (show inB l x = true by rw [HJ.out, HD.out, hzx]; unfold inB; simp)
        have hzx' : (z == x) = true := beq_iff_eq.2 hzx
        clear hzx
        go_wp2
        go_ret
        exact ⟨by rw [HF.out]; rfl, rfl⟩
      · have HF := hid (show inB l x = inB (l.drop (j + 1)) x by
          rw [HJ.out, HD.out]; unfold inB; rw [List.contains_cons, beq_eq_false_iff_ne.2 (fun e => hzx e.symm), Bool.false_or])
        have hzx' : (z == x) = false := beq_eq_false_iff_ne.2 hzx
        clear hzx
        go_wp2
        go_round
        case rel => exact ⟨j + 1, by go_num, by omega, HF⟩
        case measure => simp [intOf]; omega
    · have HF := hid (show inB l x = false by rw [HJ.out, List.drop_of_length_le (by have := HL.out; omega)]; rfl)
      go_wp2
      go_ret
      exact ⟨by rw [HF.out]; rfl, rfl⟩
theorem take_eq_step {l m : List Int} {j : Nat} {x : Int} (h : l.take j = m.take j) (h1 : l[j]? = some x) (h2 : m[j]? = some x) : l.take (j + 1) = m.take (j + 1) := by
  rw [take_get h1, take_get h2, h]
theorem ne_of_at {l m : List Int} {j : Nat} {x y : Int} (h1 : l[j]? = some x) (h2 : m[j]? = some y) (h : x ≠ y) : (l == m) = false := by
  refine beq_eq_false_iff_ne.2 fun e => h ?_
  rw [e, h2] at h1
  injection h1 with h1
  exact h1.symm
theorem same_ints (A : Option Addr) (n c : Nat) (l : List Int) (B : Option Addr) (m d : Nat) (l' : List Int) (w : World) (h : SlA w 1 A n c (l.map (.int .i64))) (h' : SlA w 1 B m d (l'.map (.int .i64))) (hn : n ≤ 2147483648) (hm : m ≤ 2147483648) :
    Calls Tryd.prog 30 #[.slice A n c, .slice B m d] w fun e w' => e = .returned (.bool (l == l')) ∧ ∃ q, w' = w.drewN q := by
  have HL := hid h.lenI; have HS := hid h; have HL' := hid h'.lenI; have HS' := hid h'
  clear h h'
  by_cases hnm : n = m
  · subst hnm
    go_enter Tryd.func30, Tryd.ntmps30
    go_wp2
    go_loopw [13, 4] (fun i _ wr => ∃ j q : Nat, i = .int .i64 j ∧ j ≤ n ∧ Hid (l.take j = l'.take j) ∧ wr = w.drewN q) (fun i _ _ => n - (intOf i).toNat)
    case atStart => exact ⟨0, 0, rfl, by omega, hid rfl, rfl⟩
    case round =>
      obtain ⟨j, q, hi, hj, HJ, hw⟩ := hrel
      subst hi; subst hw
      by_cases hlt : j < n
      · obtain ⟨b, o, z, rfl, hz, hc⟩ := HS.out.elemI hlt
        obtain ⟨b', o', z', rfl, hz', hc'⟩ := HS'.out.elemI hlt
        have hj0 : (0 : Int) ≤ (j : Int) := by omega
        have hj1 : (j : Int) < (n : Int) := by omega
        have HZ := hid hz; have HZ' := hid hz'
        clear hz hz'
        by_cases hzx : z = z'
        · have HF := hid (take_eq_step HJ.out HZ.out (hzx ▸ HZ'.out))
          have hzx' : (z != z') = false := by rw [hzx]; simp
          clear hzx
          go_wp2
          go_quiet (fail)
          go_wp2
          go_roundw
          case rel => exact ⟨j + 1, _, by go_num, by omega, HF, rfl⟩
          case measure => simp [intOf]; omega
        · have HF := hid (ne_of_at HZ.out HZ'.out hzx)
          have hzx' : (z != z') = true := bne_iff_ne.2 hzx
          clear hzx
          go_wp2
          go_quiet (fail)
          go_wp2
          go_ret
          exact ⟨by rw [HF.out]; rfl, _, World.drewN_drewN _ _ _⟩
      · have HF := hid (show (l == l') = true from beq_iff_eq.2 (by
          have := HJ.out
          rwa [List.take_of_length_le (by have := HL.out; omega), List.take_of_length_le (by have := HL'.out; omega)] at this))
        go_wp2
        go_ret
        exact ⟨by rw [HF.out]; rfl, q, rfl⟩
  · have HF := hid (show (l == l') = false from beq_eq_false_iff_ne.2 fun e => hnm (by rw [← HL.out, ← HL'.out, e]))
    have hnm' : ((n : Int) != (m : Int)) = true := bne_iff_ne.2 (by omega)
    clear hnm
    go_enter Tryd.func30, Tryd.ntmps30
    go_wp2
    go_ret
    exact ⟨by rw [HF.out]; rfl, 0, rfl⟩
/-- Where a number goes in a list: behind all that are not greater, from the end. -/
def posF (acc : List Int) (n : Int) : Nat → Nat
  | 0 => 0
  | k + 1 => if n < acc.getD k 0 then posF acc n k else k + 1
def insR (acc : List Int) (n : Int) : List Int :=
  if 0 < posF acc n acc.length ∧ acc.getD (posF acc n acc.length - 1) 0 = n then acc else acc.take (posF acc n acc.length) ++ n :: acc.drop (posF acc n acc.length)
/-- Numbers in order, each once. -/
def risL (l : List Int) : List Int := l.foldl insR []
theorem insR_le (acc : List Int) (n : Int) : (insR acc n).length ≤ acc.length + 1 := by
  unfold insR
  split
  · omega
  · simp; omega
theorem risL_le : ∀ (l acc : List Int), (l.foldl insR acc).length ≤ acc.length + l.length
  | [], acc => by simp
  | x :: l, acc => by
    have := risL_le l (insR acc x)
    have := insR_le acc x
    simp; omega
theorem risL_take {l : List Int} {j : Nat} {x : Int} (h : l[j]? = some x) : risL (l.take (j + 1)) = insR (risL (l.take j)) x := by
  unfold risL
  rw [take_get h, List.foldl_append]; rfl
theorem risL_take_le (l : List Int) (j : Nat) : (risL (l.take j)).length ≤ j := by
  have := risL_le (l.take j) []
  unfold risL
  have h2 : (l.take j).length ≤ j := List.length_take_le _ _
  simp at this
  omega

theorem sla_take {w : World} {A : Option Addr} {n c : Nat} {l : List Int} (h : SlA w 1 A n c (l.map (.int .i64))) {p : Nat} (hp : p ≤ n) : SlA w 1 A p c ((l.take p).map (.int .i64)) := by
  have h1 := h.nc
  have h3 := h.lenI
  refine ⟨by omega, h.cm, by simp; omega, fun j u hj => ?_⟩
  rw [List.map_take, List.getElem?_take] at hj
  split at hj
  · exact h.cells j u hj
  · cases hj
theorem run_cut_from1 {P : Program} {A A' : Option Addr} {n c : Nat} {t e : TypeId} (ht : P.underlying t = some (.slice e)) (hs : ∀ W : World, (sizeOf e).run P W = .ok 1 W) {p : Nat} (hp : p ≤ n) (hA : sliced A p n c 1 = .slice A' (n - p) (c - p)) :
    ∀ W : World, (Instr.slice t (.slice A n c) (some (.int .i64 (p : Int))) none none).run P W = .ok (.slice A' (n - p) (c - p)) W := by
  intro W
  have he : P.elem t = e := by simp [Program.elem, ht]
  rw [run_slice_l W t A n c (by rw [he]; exact ht) .i64 p (by omega) (by omega), he, hs W]
  simp [Result.andThen, hA]
theorem own_fin {W : World} {base b2 K : Nat} {v : Value} {acc : List Int} {x : Int} (h : W.ownsRow b2 3 1 v (0 + K + 1 + (acc.length - K)) ((([] ++ (acc.take K).map (Value.int .i64)) ++ [Value.int .i64 x]) ++ (acc.map (Value.int .i64)).drop K)) (hb : base ≤ b2) (hK : K ≤ acc.length) :
    W.ownsRow base 3 1 v (acc.take K ++ x :: acc.drop K).length ((acc.take K ++ x :: acc.drop K).map (.int .i64)) := by
  have e1 : (acc.take K ++ x :: acc.drop K).length = 0 + K + 1 + (acc.length - K) := by simp; omega
  have e2 : (acc.take K ++ x :: acc.drop K).map (Value.int .i64) = (([] ++ (acc.take K).map (Value.int .i64)) ++ [Value.int .i64 x]) ++ (acc.map (Value.int .i64)).drop K := by simp
  rw [e1, e2]
  exact own_mono h hb
set_option maxHeartbeats 4000000 in
theorem rising_any (A : Option Addr) (n c : Nat) (l : List Int) (w : World) (h : SlA w 1 A n c (l.map (.int .i64))) (hn : n ≤ 100000) :
    Calls Tryd.prog 45 #[.slice A n c] w fun e w' => ∃ v, e = .returned v ∧ w'.ownsRow w.heap.size 3 1 v (risL l).length ((risL l).map (.int .i64)) ∧ Below w.heap.size w w' := by
  have HL := hid h.lenI; have HS := hid h
  clear h
  obtain ⟨i0, hi, hz0, hz1, hz2⟩ := info_parts Tryd.infoInt
  go_enter Tryd.func45, Tryd.ntmps45
  go_wp2
  go_loopw [9, 3] (fun i v wr => ∃ j : Nat, i = .int .i64 j ∧ j ≤ n ∧ wr.ownsRow w.heap.size 3 1 v (risL (l.take j)).length ((risL (l.take j)).map (.int .i64)) ∧ Below w.heap.size w wr) (fun i _ _ => n - (intOf i).toNat)
  case atStart => exact ⟨0, rfl, by omega, World.ownsRow_nil _ _ _ _, Below.refl _ _⟩
  case round =>
    obtain ⟨j, hi1, hj, hown, hbr⟩ := hrel
    subst hi1
    have HB := hid hbr; clear hbr
    by_cases hlt : j < n
    · obtain ⟨b, o, x, rfl, hx, hc⟩ := (HS.out.ext HB.out).elemI hlt
      have HR := hid (risL_take hx)
      have hle := risL_take_le l j
      clear hx
      have HO := hid hown
      obtain ⟨A2, c2, rfl, hs2⟩ := SlA.owned hown
      have HS2 := hid hs2
      clear hown hs2
      generalize hacc : risL (l.take j) = acc at *
      have HA := hid hacc; clear hacc
      have hzr := HB.out.size
      go_wp2
      go_loop [6] (fun i => ∃ k : Nat, i = .int .i64 k ∧ k ≤ acc.length ∧ Hid (posF acc x acc.length = posF acc x k)) (fun i => (intOf i).toNat)
      case atStart => exact ⟨acc.length, rfl, Nat.le_refl _, hid rfl⟩
      case round =>
        obtain ⟨k, hi2, hk, HK⟩ := hrel
        subst hi2
        by_cases hk0 : 0 < k
        · obtain ⟨k', rfl⟩ : ∃ k', k = k' + 1 := ⟨k - 1, by omega⟩
          obtain ⟨b2, o2, y, rfl, hy, hcy⟩ := HS2.out.elemI (show k' < acc.length by omega)
          have hidx : ((k' + 1 : Nat) : Int) - 1 = (k' : Int) := by omega
          have HY := hid (show acc.getD k' 0 = y by rw [List.getD, hy]; rfl)
          clear hy
          by_cases hyx : x < y
          · have HK2 := hid (show posF acc x acc.length = posF acc x k' by rw [HK.out, posF, HY.out, if_pos hyx])
            go_wp2
            go_round
            case rel => exact ⟨k', by go_num, by omega, HK2⟩
            case measure => simp [intOf]
          · have HP := hid (show posF acc x acc.length = k' + 1 by rw [HK.out, posF, HY.out, if_neg hyx])
            by_cases hye : y = x
            · have HI := hid (show risL (l.take (j + 1)) = acc by rw [HR.out]; unfold insR; rw [HP.out, Nat.add_sub_cancel, HY.out, if_pos ⟨by omega, hye⟩])
              have hye' : (y == x) = true := beq_iff_eq.2 hye
              clear hye
              go_wp2
              go_roundw
              case rel => exact ⟨j + 1, by go_num, by omega, by rw [HI.out]; exact HO.out, HB.out⟩
              case measure => simp [intOf]; omega
            · have HI := hid (show risL (l.take (j + 1)) = acc.take (k' + 1) ++ x :: acc.drop (k' + 1) by rw [HR.out]; unfold insR; rw [HP.out, Nat.add_sub_cancel, HY.out, if_neg (fun h => hye h.2)])
              have hye' : (y == x) = false := beq_eq_false_iff_ne.2 hye
              clear hye
              have HTk := hid (sla_take HS2.out (show k' + 1 ≤ acc.length by omega))
              obtain ⟨A4, hA4, hdr⟩ := HS2.out.cut_from (show k' + 1 ≤ acc.length by omega)
              have HDr := hid hdr; clear hdr
              have hsH := run_cut_to6 (P := Tryd.prog) (A := (some ⟨b2, o2, none⟩)) (n := acc.length) (c := c2) Tryd.underlying29 (fun W => Tryd.sizeOf3 W) (p := k' + 1) (by have := HS2.out.nc; omega)
              have hsL := run_cut_from1 (P := Tryd.prog) (A := (some ⟨b2, o2, none⟩)) (n := acc.length) (c := c2) Tryd.underlying29 (fun W => Tryd.sizeOf3 W) (p := k' + 1) (by omega) hA4
              clear hA4
              rw [show ((k' + 1 : Nat) : Int) = (k' : Int) + 1 by omega] at hsH hsL
              go_wp2
              go_region_law (first
                | (refine step_append_sl _ rfl (.const (.slice none 0 0)) (.tmp 41) 29 rfl wr.heap.size 3 i0 (.int .i64 0) 1 8 Tryd.underlying29 hi hz0 hz1 hz2 rfl (by decide) _ 0 [] (by rfl) (World.ownsRow_nil _ _ _ _) (some ⟨b2, o2, none⟩) (k' + 1) c2 ((acc.take (k' + 1)).map (.int .i64)) (by rfl) ?s1 (ints_one _ _) (by unfold maxLen; omega) (by omega) (by simp) ?_; (case s1 => first | exact HTk.out.drew | exact HTk.out.drew.alloc _); intro v1 w1 own1 gr1 _; have hb1 : Below wr.heap.size wr w1 := (by first | exact below_append (below_drew (Below.refl _ _)) gr1 (World.ownsRow_nil _ wr.heap.size 3 1) (Nat.le_refl _) (by simp) | exact below_append ((below_drew (Below.refl _ _)).alloc (Nat.le_refl _) _) gr1 (World.ownsRow_nil _ wr.heap.size 3 1) (Nat.le_refl _) (by simp)))
                | (refine step_append_sl _ rfl (.tmp 42) (.tmp 44) 29 rfl wr.heap.size 3 i0 (.int .i64 0) 1 8 Tryd.underlying29 hi hz0 hz1 hz2 rfl (by decide) v1 (0 + (k' + 1)) ([] ++ (acc.take (k' + 1)).map (.int .i64)) (by rfl) ?s2 _ 1 1 [.int .i64 x] (by rfl) ?s3 (one_int _ _) (by unfold maxLen; omega) (by omega) ?s4 ?_; (case s2 => first | exact own1 | exact own1.alloc _); (case s3 => first | exact SlA.lit1 _ | exact (SlA.lit1 (w := wr.drew) (T := 3) (.int .i64 x)).ext (below_grown gr1)); (case s4 => first | exact hb1.size | exact (hb1.alloc hb1.size _).size); intro v2 w2 own2 gr2 _; have hb2 : Below wr.heap.size wr w2 := (by first | exact below_append hb1 gr2 own1 (Nat.le_refl _) hb1.size | exact below_append (hb1.alloc hb1.size _) gr2 (own1.alloc _) (Nat.le_refl _) (hb1.alloc hb1.size _).size))
                | (refine step_append_sl _ rfl (.tmp 45) (.tmp 48) 29 rfl wr.heap.size 3 i0 (.int .i64 0) 1 8 Tryd.underlying29 hi hz0 hz1 hz2 rfl (by decide) v2 (0 + (k' + 1) + 1) (([] ++ (acc.take (k' + 1)).map (.int .i64)) ++ [.int .i64 x]) (by rfl) own2 A4 (acc.length - (k' + 1)) (c2 - (k' + 1)) ((acc.map (.int .i64)).drop (k' + 1)) (by rfl) ?s5 ?s6 (by unfold maxLen; omega) (by omega) hb2.size ?_; (case s5 => exact HDr.out.ext hb2); (case s6 => intro u hu; exact ints_one _ _ u (List.mem_of_mem_drop hu)); intro v3 w3 own3 gr3 _; have hb3 : Below wr.heap.size wr w3 := below_append hb2 gr3 own2 (Nat.le_refl _) hb2.size))
              all_goals
                have HO3 := hid own3; have HB3 := hid hb3
                clear own1 own2 own3 gr1 gr2 gr3 hb1 hb2 hb3
                go_wp2
                go_roundw
                case rel =>
                  refine ⟨j + 1, by go_num, by omega, ?_, HB.out.trans (HB3.out.mono hzr)⟩
                  rw [HI.out]
                  exact own_fin HO3.out hzr (by omega)
                case measure => simp [intOf]; omega
        · have hk00 : k = 0 := by omega
          subst hk00
          have HI := hid (show risL (l.take (j + 1)) = acc.take 0 ++ x :: acc.drop 0 by rw [HR.out]; unfold insR; rw [HK.out, posF, if_neg (fun h => absurd h.1 (by omega))])
          have HTk := hid (sla_take HS2.out (show 0 ≤ acc.length by omega))
          obtain ⟨A4, hA4, hdr⟩ := HS2.out.cut_from (show 0 ≤ acc.length by omega)
          have HDr := hid hdr; clear hdr
          have hsH := run_cut_to6 (P := Tryd.prog) (A := A2) (n := acc.length) (c := c2) Tryd.underlying29 (fun W => Tryd.sizeOf3 W) (p := 0) (by have := HS2.out.nc; omega)
          have hsL := run_cut_from1 (P := Tryd.prog) (A := A2) (n := acc.length) (c := c2) Tryd.underlying29 (fun W => Tryd.sizeOf3 W) (p := 0) (by omega) hA4
          clear hA4
          rw [show ((0 : Nat) : Int) = 0 from rfl] at hsH hsL
          go_wp2
          go_region_law (first
            | (refine step_append_sl _ rfl (.const (.slice none 0 0)) (.tmp 41) 29 rfl wr.heap.size 3 i0 (.int .i64 0) 1 8 Tryd.underlying29 hi hz0 hz1 hz2 rfl (by decide) _ 0 [] (by rfl) (World.ownsRow_nil _ _ _ _) A2 (0) c2 ((acc.take (0)).map (.int .i64)) (by rfl) ?s1 (ints_one _ _) (by unfold maxLen; omega) (by omega) (by simp) ?_; (case s1 => first | exact HTk.out.drew | exact HTk.out.drew.alloc _); intro v1 w1 own1 gr1 _; have hb1 : Below wr.heap.size wr w1 := (by first | exact below_append (below_drew (Below.refl _ _)) gr1 (World.ownsRow_nil _ wr.heap.size 3 1) (Nat.le_refl _) (by simp) | exact below_append ((below_drew (Below.refl _ _)).alloc (Nat.le_refl _) _) gr1 (World.ownsRow_nil _ wr.heap.size 3 1) (Nat.le_refl _) (by simp)))
            | (refine step_append_sl _ rfl (.tmp 42) (.tmp 44) 29 rfl wr.heap.size 3 i0 (.int .i64 0) 1 8 Tryd.underlying29 hi hz0 hz1 hz2 rfl (by decide) v1 (0 + (0)) ([] ++ (acc.take (0)).map (.int .i64)) (by rfl) ?s2 _ 1 1 [.int .i64 x] (by rfl) ?s3 (one_int _ _) (by unfold maxLen; omega) (by omega) ?s4 ?_; (case s2 => first | exact own1 | exact own1.alloc _); (case s3 => first | exact SlA.lit1 _ | exact (SlA.lit1 (w := wr.drew) (T := 3) (.int .i64 x)).ext (below_grown gr1)); (case s4 => first | exact hb1.size | exact (hb1.alloc hb1.size _).size); intro v2 w2 own2 gr2 _; have hb2 : Below wr.heap.size wr w2 := (by first | exact below_append hb1 gr2 own1 (Nat.le_refl _) hb1.size | exact below_append (hb1.alloc hb1.size _) gr2 (own1.alloc _) (Nat.le_refl _) (hb1.alloc hb1.size _).size))
            | (refine step_append_sl _ rfl (.tmp 45) (.tmp 48) 29 rfl wr.heap.size 3 i0 (.int .i64 0) 1 8 Tryd.underlying29 hi hz0 hz1 hz2 rfl (by decide) v2 (0 + (0) + 1) (([] ++ (acc.take (0)).map (.int .i64)) ++ [.int .i64 x]) (by rfl) own2 A4 (acc.length - (0)) (c2 - (0)) ((acc.map (.int .i64)).drop (0)) (by rfl) ?s5 ?s6 (by unfold maxLen; omega) (by omega) hb2.size ?_; (case s5 => exact HDr.out.ext hb2); (case s6 => intro u hu; exact ints_one _ _ u (List.mem_of_mem_drop hu)); intro v3 w3 own3 gr3 _; have hb3 : Below wr.heap.size wr w3 := below_append hb2 gr3 own2 (Nat.le_refl _) hb2.size))
          all_goals
            have HO3 := hid own3; have HB3 := hid hb3
            clear own1 own2 own3 gr1 gr2 gr3 hb1 hb2 hb3
            go_wp2
            go_roundw
            case rel =>
              refine ⟨j + 1, by go_num, by omega, ?_, HB.out.trans (HB3.out.mono hzr)⟩
              rw [HI.out]
              exact own_fin HO3.out hzr (by omega)
            case measure => simp [intOf]; omega
    · have HJ := hid (show l.take j = l from List.take_of_length_le (by have := HL.out; omega))
      go_wp2
      go_ret
      refine ⟨_, rfl, ?_, HB.out⟩
      have := hown
      rw [HJ.out] at this
      exact this
end Go.Proofs.YtfmkniakfgpgjaaDoor

/- the document's layers 4 and 11: Expand, Derive, Joiner, Psk. -/
namespace Go.Proofs.YtfmkniakfgpgjaaDoor
open Go.RowKit Go.KK Go.Shelf Go.Maps
set_option linter.unusedVariables false
set_option linter.unusedSimpArgs false

theorem rlen5_any (st : Nat) (xs : List ND) (w : World) (h : ArV w 78 st xs) :
    Calls Tryd.prog 46 #[.pointer (some ⟨st, 0, none⟩)] w fun e w' => e = .returned (.int .i64 xs.length) ∧ w' = w := by
  obtain ⟨A, c, m, h0, h1, hn⟩ := h.parts
  clear hn h
  go_enter Tryd.func46, Tryd.ntmps46
  go_wp2
  go_ret
  exact ⟨rfl, rfl⟩
section
variable {w0 W W' : World} {Z Z' : Nat → Prop} {sa : Nat} {xs xs' : List ND}
theorem bad_any (st : Nat) (w : World) (A : Option Addr) (n c : Nat) (l : List Int) (h : ArV w 78 st xs) (hl : SlA w 1 A n c (l.map (.int .i64))) (hn : n ≤ 2147483648) :
    Calls Tryd.prog 62 #[.pointer (some ⟨st, 0, none⟩), .slice A n c] w fun e w' => e = .returned (.bool (!(kno xs l))) ∧ w' = w := by
  have H := hid h; have HS := hid hl; have HL := hid hl.lenI
  clear h hl
  unfold kno
  go_enter Tryd.func62, Tryd.ntmps62
  go_wp2
  go_loopw [9] (fun i wr => ∃ j : Nat, i = .int .i64 j ∧ j ≤ n ∧ Hid (l.all (hasB xs) = (l.drop j).all (hasB xs)) ∧ wr = w) (fun i _ => n - (intOf i).toNat)
  case atStart => exact ⟨0, rfl, by omega, hid rfl, rfl⟩
  case round =>
    obtain ⟨j, hi, hj, HJ, hw⟩ := hrel
    subst hi; subst hw
    by_cases hlt : j < n
    · obtain ⟨b1, o, z, rfl, hz, hc⟩ := HS.out.elemI hlt
      have HD := hid (drop_get hz); clear hz
      by_cases hz0 : z < 0
      · have HF := hid (show l.all (hasB xs) = false by
          rw [HJ.out, HD.out, List.all_cons, show hasB xs z = false by unfold hasB; rw [decide_eq_false (by omega : ¬ 0 ≤ z)]; rfl]; rfl)
        go_wp2
        go_ret
        exact ⟨by rw [HF.out]; rfl, rfl⟩
      · by_cases hz1 : (xs.length : Int) ≤ z
        · have HF := hid (show l.all (hasB xs) = false by
            rw [HJ.out, HD.out, List.all_cons, show hasB xs z = false by unfold hasB; rw [decide_eq_false (by omega : ¬ z < (xs.length : Int))]; simp]; rfl)
          go_wp2_with (go_at_call 46; refine (rlen5_any st xs _ H.out).mono ?_; rintro e w' ⟨rfl, hw'⟩; subst hw')
          go_ret
          exact ⟨by rw [HF.out]; rfl, rfl⟩
        · have HF := hid (show l.all (hasB xs) = (l.drop (j + 1)).all (hasB xs) by
            rw [HJ.out, HD.out, List.all_cons, show hasB xs z = true by unfold hasB; rw [decide_eq_true (by omega : z < (xs.length : Int)), decide_eq_true (by omega : 0 ≤ z)]; rfl]; rfl)
          go_wp2_with (go_at_call 46; refine (rlen5_any st xs _ H.out).mono ?_; rintro e w' ⟨rfl, hw'⟩; subst hw')
          go_roundw
          case rel => exact ⟨j + 1, by go_num, by omega, HF, by first | rfl | trivial⟩
          case measure => simp [intOf]; omega
    · have HF := hid (show l.all (hasB xs) = true by rw [HJ.out, List.drop_of_length_le (by have := HL.out; omega)]; rfl)
      go_wp2
      go_ret
      exact ⟨by rw [HF.out]; rfl, rfl⟩
end
end Go.Proofs.YtfmkniakfgpgjaaDoor

/- appends in a region that draws its order, whichever order: words of memory, of no program. -/
namespace Go.KK
open Go.RowKit
set_option linter.unusedVariables false
set_option linter.unusedSimpArgs false

/-- What stands in a block. -/
def HasO (o : Obj) (b : Nat) (W : World) : Prop := W.heap[b]? = some o
section
variable {o o' : Obj} {b g B : Nat} {W V a : World}
theorem HasO.new (o : Obj) (W : World) : HasO o W.heap.size (W.alloc o) := heap_alloc_new W o
theorem HasO.new' (h : b = W.heap.size) : HasO o b (W.alloc o) := by subst h; exact heap_alloc_new W o
theorem HasO.lt (h : HasO o b W) : b < W.heap.size := (Array.getElem?_eq_some_iff.1 h).1
theorem HasO.bel (h : HasO o b W) (hb : Below W.heap.size W V) : HasO o b V := (hb.block b h.lt).trans h
theorem HasO.alloc (h : HasO o b W) : HasO o b (W.alloc o') := h.bel ((Below.refl _ _).alloc (Nat.le_refl _) o')
theorem HasO.drew (h : HasO o b W) : HasO o b W.drew := h
theorem HasO.grown (h : HasO o b W) (hg : W.grownBy V (some g)) (hn : b ≠ g) : HasO o b V := (hg.block b h.lt fun e => hn (Option.some.inj e)).trans h
/-- A literal row, read and owned. -/
theorem HasO.own1 {T : TypeId} {v : Value} (h : HasO (.cells #[v] T (0, 0)) b W) (hB : B ≤ b) : W.ownsRow B T 1 (.slice (some ⟨b, 0, none⟩) 1 1) 1 [v] :=
  ⟨by simp, .inr ⟨b, 1, _, rfl, hB, h, Nat.le_refl _, by decide, rfl, by simp⟩⟩
end
section
variable {P : Program} (w : World)
end
section
variable {P : Program} (w : World)
end
end Go.KK

/- the document's token layer: is, Unblind, Finish. -/
namespace Go.Proofs.YtfmkniakfgpgjaaDoor
open Go.RowKit Go.KK Go.Shelf Go.Maps
set_option linter.unusedVariables false
set_option linter.unusedSimpArgs false

/-- The arena's rows, as a walk reads them. -/
def TabA (w : World) (b o : Nat) (xs : List ND) : Prop := ∀ i : Nat, i < xs.length → ∃ A c', w.cell? ⟨b, o + i * 4, none⟩ = some (.int .i64 (nodeF xs i).o) ∧ w.cell? ⟨b, o + i * 4 + 1, none⟩ = some (.int .i64 (nodeF xs i).n) ∧ w.cell? ⟨b, o + i * 4 + 2, none⟩ = some (.string (nodeF xs i).s) ∧ w.cell? ⟨b, o + i * 4 + 3, none⟩ = some (.slice A (nodeF xs i).l.length c') ∧ SlA w 1 A (nodeF xs i).l.length c' ((nodeF xs i).l.map (.int .i64))
theorem TabA.ext {w w' : World} {b o : Nat} {xs : List ND} (h : TabA w b o xs) (hb : Below w.heap.size w w') : TabA w' b o xs := fun i hi => by
  obtain ⟨A, c', k0, k1, k2, k3, hl⟩ := h i hi
  have up : ∀ {b o : Nat} {u : Value}, w.cell? ⟨b, o, none⟩ = some u → w'.cell? ⟨b, o, none⟩ = some u := fun hc => (hb.cell (p := ⟨_, _, none⟩) (block_lt_of_cell hc)).trans hc
  exact ⟨A, c', up k0, up k1, up k2, up k3, hl.ext hb⟩
theorem ar_tab {w : World} {T : TypeId} {st : Nat} {xs : List ND} (h : ArV w T st xs) (h0 : 0 < xs.length) : ∃ b o c, w.cell? ⟨st, 0, none⟩ = some (.slice (some ⟨b, o, none⟩) xs.length c) ∧ TabA w b o xs := by
  obtain ⟨A, c, m, y0, -, hN⟩ := h.parts
  obtain ⟨b1, o1, a', A1, c1, rfl, -⟩ := hN.at h0
  refine ⟨b1, o1, c, y0, fun i hi => ?_⟩
  obtain ⟨b2, o2, a', A1, c1, e, ha', k0, k1, k2, k3, hl⟩ := hN.at hi
  injection e with e
  injection e with e1 e2
  subst e1; subst e2
  rw [nodeF_at ha']
  exact ⟨A1, c1, k0, k1, k2, k3, hl⟩
theorem has4 {V : World} {T : TypeId} {b : Nat} {v0 v1 v2 v3 : Value} (h : HasO (.cells #[v0, v1, v2, v3] T (0, 0)) b V) : V.cell? ⟨b, 0, none⟩ = some v0 ∧ V.cell? ⟨b, 1, none⟩ = some v1 ∧ V.cell? ⟨b, 2, none⟩ = some v2 ∧ V.cell? ⟨b, 3, none⟩ = some v3 := by
  refine ⟨?_, ?_, ?_, ?_⟩ <;> (rw [cell_of_row _ b _ _ _ (0, 0) h]; rfl)
section
variable {xs : List ND}
set_option maxHeartbeats 2000000 in
theorem ris_any (st : Nat) (w : World) (t o : Int) (h : ArV w 78 st xs) :
    Calls Tryd.prog 63 #[.pointer (some ⟨st, 0, none⟩), .int .i64 t, .int .i64 o] w fun e w' => e = .returned (.bool (hasB xs t && (nodeF xs t).o == o)) ∧ w' = w.alloc (.cells #[.int .i64 t] 3) := by
  have HK := hid (bad_any st (w.alloc (.cells #[.int .i64 t] 3)) (some ⟨w.heap.size, 0, none⟩) 1 1 [t] (h.ext ((Below.refl _ _).alloc (Nat.le_refl _) _)) (sla_row #[.int .i64 t] (by unfold maxLen; simp)) (by omega))
  rw [kno_one] at HK
  have HV := hid (h.ext ((Below.refl _ _).alloc (Nat.le_refl _) (.cells #[.int .i64 t] 3)))
  clear h
  rcases hk : hasB xs t with _ | _
  · rw [hk] at HK
    go_enter Tryd.func63, Tryd.ntmps63
    go_wp2_with fail
    refine HK.out.mono ?_
    rintro e w' ⟨rfl, hw⟩
    subst hw
    go_wp2_with fail
    go_ret
    exact ⟨rfl, rfl⟩
  · rw [hk] at HK
    obtain ⟨h0, h1⟩ := has_iff.1 hk
    obtain ⟨i, rfl⟩ := Int.eq_ofNat_of_zero_le h0
    have hi : i < xs.length := by omega
    obtain ⟨b, off, c, y0, hT⟩ := ar_tab HV.out (by omega)
    obtain ⟨A, c', k0, -⟩ := hT i hi
    clear hT
    go_enter Tryd.func63, Tryd.ntmps63
    go_wp2_with fail
    refine HK.out.mono ?_
    rintro e w' ⟨rfl, hw⟩
    subst hw
    go_wp2_with fail
    go_ret
    exact ⟨rfl, rfl⟩
end
end Go.Proofs.YtfmkniakfgpgjaaDoor

/- the document's token layer: Copy, Same. -/
namespace Go.Proofs.YtfmkniakfgpgjaaDoor
open Go.RowKit Go.KK Go.Shelf Go.Maps
set_option linter.unusedVariables false
set_option linter.unusedSimpArgs false

theorem results_c {fn : Func} {p : Tmp} {ty : TypeId} (h : fn.results = #[.cell p ty]) (tmps : Array Value) (P : Program) (w : World) :
    (results fn tmps).run P w = ((asAddr (tmps.getD p undef)).run P w).andThen fun q w₁ => (loadVar ty q).run P w₁ := by
  simp only [results, h]
  simp [Sem.run_bind, Result.andThen]
theorem HasO.put {cs : Array Value} {T : TypeId} {b : Nat} {W : World} (h : HasO (.cells cs T (0, 0)) b W) (o : Nat) (v : Value) : HasO (.cells (cs.setIfInBounds o v) T (0, 0)) b (W.setCell ⟨b, o, none⟩ v) := heap_setCell_same W b o cs T v h
theorem HasO.far {o : Obj} {b : Nat} {W : World} (h : HasO o b W) {a : Addr} (hne : b ≠ a.block) (v : Value) : HasO o b (W.setCell a v) := by
  unfold HasO
  rw [heap_setCell_other W a b v hne]; exact h
theorem mint4 {V : World} {b : Nat} {v0 v1 v2 v3 : Value} (h : HasO (.cells #[v0, v1, v2, v3] 31 (0, 0)) b V) : (V.cell? ⟨b, 0, none⟩ = some v0 ∧ V.cell? ⟨b, 1, none⟩ = some v1 ∧ V.cell? ⟨b, 2, none⟩ = some v2 ∧ V.cell? ⟨b, 3, none⟩ = some v3) ∧ V.frozen? ⟨b, 0, none⟩ = false ∧ V.frozen? ⟨b, 1, none⟩ = false ∧ V.frozen? ⟨b, 2, none⟩ = false ∧ V.frozen? ⟨b, 3, none⟩ = false := by
  refine ⟨⟨?_, ?_, ?_, ?_⟩, frozen_of_row V b 0 _ _ h, frozen_of_row V b 1 _ _ h, frozen_of_row V b 2 _ _ h, frozen_of_row V b 3 _ _ h⟩ <;> (rw [cell_of_row _ b _ _ _ (0, 0) h]; rfl)
theorem own_away {W : World} {base : Nat} {e : TypeId} {size n : Nat} {v : Value} {cs : List Value} (h : W.ownsRow base e size v n cs) {a : Addr} (ha : a.block < base) (u : Value) : (W.setCell a u).ownsRow base e size v n cs :=
  own_block h fun b hb => heap_setCell_other W a b u (by have := (h.lt b hb).1; omega)
/-- What Copy leaves. -/
def CpQ (w : World) (m : MT) (e : Ending) (w' : World) : Prop := ∃ g p, e = .returned (mtV m g p) ∧ Below w.heap.size w w' ∧ NewV w g p ∧ w'.ownsRow w.heap.size 66 2 g m.g.length (cts m.g) ∧ w'.ownsRow w.heap.size 3 1 p m.p.length (m.p.map (.int .i64))
set_option maxHeartbeats 2000000 in
set_option maxRecDepth 20000 in
theorem rcopy17_any (m : MT) (Ag Ap : Option Addr) (cg cp : Nat) (w : World) (hg : SlA w 2 Ag m.g.length cg (cts m.g)) (hp : SlA w 1 Ap m.p.length cp (m.p.map (.int .i64))) (hgn : m.g.length ≤ 1000) (hpn : m.p.length ≤ 1000) :
    Calls Tryd.prog 10 #[.agg #[.int .i64 m.k, .int .i64 m.q, .slice Ag m.g.length cg, .slice Ap m.p.length cp]] w (CpQ w m) := by
  have HG := hid hg; have HP := hid hp
  obtain ⟨i0, hi, hz0, hz1, hz2⟩ := info_parts infoC
  obtain ⟨j0, hj, hy0, hy1, hy2⟩ := info_parts Tryd.infoInt
  have hb : Below w.heap.size w ((w.alloc (.cells #[.int .i64 m.k, .int .i64 m.q, .slice Ag m.g.length cg, .slice Ap m.p.length cp] 31)).alloc (.cells #[.int .i64 0, .int .i64 0, .slice none 0 0, .slice none 0 0] 31)) := ((Below.refl _ _).alloc (Nat.le_refl _) _).alloc (by simp) _
  have hx0 : HasO (.cells #[.int .i64 m.k, .int .i64 m.q, .slice Ag m.g.length cg, .slice Ap m.p.length cp] 31 (0, 0)) w.heap.size ((w.alloc (.cells #[.int .i64 m.k, .int .i64 m.q, .slice Ag m.g.length cg, .slice Ap m.p.length cp] 31)).alloc (.cells #[.int .i64 0, .int .i64 0, .slice none 0 0, .slice none 0 0] 31)) := (HasO.new _ _).alloc
  have hx1 : HasO (.cells #[.int .i64 0, .int .i64 0, .slice none 0 0, .slice none 0 0] 31 (0, 0)) (w.heap.size + 1) ((w.alloc (.cells #[.int .i64 m.k, .int .i64 m.q, .slice Ag m.g.length cg, .slice Ap m.p.length cp] 31)).alloc (.cells #[.int .i64 0, .int .i64 0, .slice none 0 0, .slice none 0 0] 31)) := HasO.new' (by simp)
  have HS := hid (And.intro hb (And.intro hx0 hx1))
  clear hg hp hb hx0 hx1
  unfold mtV at *
  go_enter Tryd.func10, Tryd.ntmps10
  go_upto_region 1 with fail
  refine forget (R := fun V => Below w.heap.size w V ∧ HasO (.cells #[.int .i64 m.k, .int .i64 m.q, .slice Ag m.g.length cg, .slice Ap m.p.length cp] 31 (0, 0)) w.heap.size V ∧ HasO (.cells #[.int .i64 0, .int .i64 0, .slice none 0 0, .slice none 0 0] 31 (0, 0)) (w.heap.size + 1) V) ?_ HS.out
  clear HS
  rintro V ⟨hb, h0, h1⟩
  have HB := hid hb; have H0 := hid h0; have H1 := hid h1
  have HLT := hid (show w.heap.size + 1 < V.heap.size from h1.lt)
  clear hb h0 h1
  obtain ⟨⟨k0, k1, k2, k3⟩, -, -, f2, -⟩ := mint4 H0.out
  go_upto_region 2 with (first
    | (at_builtin; refine wpList_append_new _ rfl _ _ 28 rfl 66 i0 (.agg #[.int .i64 0, .int .i64 0]) 2 16 Tryd.underlying28 hi hz0 hz1 hz2 rfl (by decide) rfl Ag m.g.length cg (cts m.g) rfl (HG.out.ext HB.out) (cts_one _) (by unfold maxLen; omega) (by omega) ?_; intro v2 w2 own2 hb2; obtain ⟨A2, c2, rfl, s2⟩ := SlA.owned own2; have O2 := hid own2; have S2 := hid s2; have HB2 := hid hb2; have H02 := hid (H0.out.bel hb2); have H12 := hid (H1.out.bel hb2); obtain ⟨-, -, -, f2', -⟩ := mint4 H02.out; have k2' := (mint4 H02.out).1.2.2.1; clear own2 hb2 s2)
    | fail)
  refine forget (R := fun V => Below w.heap.size w V ∧ HasO (.cells #[.int .i64 m.k, .int .i64 m.q, .slice A2 m.g.length c2, .slice Ap m.p.length cp] 31 (0, 0)) w.heap.size V ∧ HasO (.cells #[.int .i64 0, .int .i64 0, .slice none 0 0, .slice none 0 0] 31 (0, 0)) (w.heap.size + 1) V ∧ V.ownsRow (w.heap.size + 2) 66 2 (.slice A2 m.g.length c2) m.g.length (cts m.g)) ?_ ?_
  rotate_left
  · have hV : w.heap.size + 2 ≤ V.heap.size := by have := HLT.out; omega
    exact ⟨((HB.out.trans (HB2.out.mono HB.out.size)).setCell (p := ⟨w.heap.size, 2, none⟩) (Nat.le_refl _) _), HasO.put H02.out 2 _, HasO.far H12.out (by simp) _, own_away (own_mono O2.out hV) (by simp) _⟩
  clear O2 S2 HB2 H02 H12 f2' k2' HB H0 H1 k0 k1 k2 k3 f2 HLT
  rintro W3 ⟨hb, h0, h1, ho⟩
  have HB := hid hb; have H0 := hid h0; have H1 := hid h1; have OG := hid ho
  have HLT := hid (show w.heap.size + 1 < W3.heap.size from h1.lt)
  clear hb h0 h1 ho
  obtain ⟨⟨k0, k1, k2, k3⟩, -, -, -, f3⟩ := mint4 H0.out
  go_upto_region 3 with (first
    | (at_builtin; refine wpList_append_new _ rfl _ _ 29 rfl 3 j0 (.int .i64 0) 1 8 Tryd.underlying29 hj hy0 hy1 hy2 rfl (by decide) rfl Ap m.p.length cp (m.p.map (.int .i64)) rfl (HP.out.ext HB.out) (ints_one _ _) (by unfold maxLen; omega) (by omega) ?_; intro v2 w4 own2 hb2; obtain ⟨A4, c4, rfl, s2⟩ := SlA.owned own2; have O4 := hid own2; have HB4 := hid hb2; have H04 := hid (H0.out.bel hb2); have H14 := hid (H1.out.bel hb2); have OG4 := hid (own_ext OG.out hb2); obtain ⟨-, -, -, -, f3'⟩ := mint4 H04.out; have k3' := (mint4 H04.out).1.2.2.2; clear own2 hb2 s2)
    | fail)
  refine forget (R := fun V => Below w.heap.size w V ∧ HasO (.cells #[.int .i64 m.k, .int .i64 m.q, .slice A2 m.g.length c2, .slice A4 m.p.length c4] 31 (0, 0)) w.heap.size V ∧ HasO (.cells #[.int .i64 0, .int .i64 0, .slice none 0 0, .slice none 0 0] 31 (0, 0)) (w.heap.size + 1) V ∧ V.ownsRow (w.heap.size + 2) 66 2 (.slice A2 m.g.length c2) m.g.length (cts m.g) ∧ V.ownsRow (w.heap.size + 2) 3 1 (.slice A4 m.p.length c4) m.p.length (m.p.map (.int .i64))) ?_ ?_
  rotate_left
  · have hV : w.heap.size + 2 ≤ W3.heap.size := by have := HLT.out; omega
    exact ⟨((HB.out.trans (HB4.out.mono HB.out.size)).setCell (p := ⟨w.heap.size, 3, none⟩) (Nat.le_refl _) _), HasO.put H04.out 3 _, HasO.far H14.out (by simp) _, own_away OG4.out (by simp) _, own_away (own_mono O4.out hV) (by simp) _⟩
  clear O4 HB4 H04 H14 OG4 f3' k3' HB H0 H1 OG k0 k1 k2 k3 f3 HLT
  rintro W5 ⟨hb, h0, h1, ho, hp⟩
  have HB := hid hb; have H0 := hid h0; have H1 := hid h1; have OG := hid ho; have OP := hid hp
  clear hb h0 h1 ho hp
  obtain ⟨⟨k0, k1, k2, k3⟩, -, -, -, -⟩ := mint4 H0.out
  obtain ⟨⟨y0, y1, y2, y3⟩, f0, f1, f2, f3⟩ := mint4 H1.out
  have HN0 := hid (show ∀ b, (Value.slice A2 m.g.length c2).ownBlock = some b → w.heap.size ≤ b from fun b e => by have := (OG.out.lt b e).1; omega)
  have HN1 := hid (show ∀ b, (Value.slice A4 m.p.length c4).ownBlock = some b → w.heap.size ≤ b from fun b e => by have := (OP.out.lt b e).1; omega)
  go_wp2_with fail
  refine bodyPost_ret (v := .agg #[.int .i64 m.k, .int .i64 m.q, .slice A2 m.g.length c2, .slice A4 m.p.length c4]) ?_ rfl ?_
  · rw [results_c rfl]
    go_simp
  refine ⟨_, _, rfl, ?_, fun b h => h.elim (HN0.out b) (HN1.out b), ?_, ?_⟩
  · exact (((HB.out.setCell (p := ⟨w.heap.size + 1, 0, none⟩) (by simp) _).setCell (p := ⟨w.heap.size + 1, 1, none⟩) (by simp) _).setCell (p := ⟨w.heap.size + 1, 2, none⟩) (by simp) _).setCell (p := ⟨w.heap.size + 1, 3, none⟩) (by simp) _
  · exact own_mono (own_away (own_away (own_away (own_away OG.out (by simp) _) (by simp) _) (by simp) _) (by simp) _) (by omega)
  · exact own_mono (own_away (own_away (own_away (own_away OP.out (by simp) _) (by simp) _) (by simp) _) (by simp) _) (by omega)
end Go.Proofs.YtfmkniakfgpgjaaDoor

