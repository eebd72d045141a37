import Derived.Test.YtkgobglmkhkbbaaGreatDoorZ06
import Derived.Test.YtkgobglmkhkbbaaGreatDoorZ03
import Derived.Test.YtkgobglmkhkbbaaGreatDoorZ04
import Derived.Test.YtkgobglmkhkbbaaGreatDoorZ02
import Derived.Deep.RegionLaw
import Derived.BigQuiet
/- schedule: Psk, Joiner. -/
namespace Go.KK
open Go.RowKit
set_option linter.unusedVariables false
set_option linter.unusedSimpArgs false
theorem psk_err {r : Rs} (h : r.2.2 ≠ 0) : ∀ m : List Int, m ≠ [] → pskG r m = (r.1, 0, r.2.2) := by
  intro m
  induction m generalizing r with
  | nil => intro h; exact absurd rfl h
  | cons s m ih =>
    intro _
    have e : bdF r (fun ys p => exF ys p s) = (r.1, 0, r.2.2) := by unfold bdF; rw [if_neg h]
    show pskG (bdF r fun ys p => exF ys p s) m = _
    rw [e]
    rcases m with _ | ⟨t, m⟩
    · rfl
    · exact ih (r := (r.1, 0, r.2.2)) h (by simp)
theorem psk_split (r : Rs) : ∀ (l m : List Int), pskG r (l ++ m) = pskG (pskG r l) m := by
  intro l
  induction l generalizing r with
  | nil => intro m; rfl
  | cons s l ih => intro m; exact ih _ m
theorem psk_stuck {xs : List ND} {l : List Int} {j : Nat} (hj : j < l.length) (h : (pskF xs (l.take j)).2.2 ≠ 0) : pskF xs l = ((pskF xs (l.take j)).1, 0, (pskF xs (l.take j)).2.2) := by
  have e : l = l.take j ++ l.drop j := (List.take_append_drop j l).symm
  have e2 : pskF xs l = pskG (pskF xs (l.take j)) (l.drop j) := by
    conv => lhs; rw [e]
    exact psk_split _ _ _
  rw [e2]
  exact psk_err h _ (by
    intro h
    have := congrArg List.length h
    simp at this
    omega)
theorem psk_one {xs : List ND} {l : List Int} {j : Nat} {s : Int} (hs : l[j]? = some s) (h : (pskF xs (l.take j)).2.2 = 0) : pskF xs (l.take (j + 1)) = exF (pskF xs (l.take j)).1 (pskF xs (l.take j)).2.1 s := by
  have e : pskF xs (l.take (j + 1)) = bdF (pskF xs (l.take j)) fun ys p => exF ys p s := by
    unfold pskF
    rw [take_one hs, psk_snoc]
  rw [e]
  unfold bdF
  rw [if_pos h]
end Go.KK
namespace Go.Proofs.YtkgobglmkhkbbaaGreatDoor
open Go.RowKit Go.KK Go.Shelf Go.Maps

/-- A row of numbers that the arena's steps leave alone. -/
def SlM (W : World) (Z : Nat → Prop) (A : Option Addr) (n c : Nat) (l : List Int) : Prop := SlA W 1 A n c (l.map (.int .i64)) ∧ ∀ b o, A = some ⟨b, o, none⟩ → 0 < n → b < W.heap.size ∧ ¬ Z b
theorem SlM.mv {W W' : World} {Z Z' : Nat → Prop} {A : Option Addr} {n c : Nat} {l : List Int} (h : SlM W Z A n c l) (m : Mv Z W Z' W') : SlM W' Z' A n c l := by
  refine ⟨⟨h.1.nc, h.1.cm, h.1.len, fun j u hj => ?_⟩, fun b o e hn => ?_⟩
  · have hjl := (List.getElem?_eq_some_iff.1 hj).1
    have hlen := h.1.len
    obtain ⟨b, off, e, hc⟩ := h.1.cells j u hj
    have hn : 0 < n := by omega
    obtain ⟨h1, h2⟩ := h.2 b off e hn
    refine ⟨b, off, e, ?_⟩
    rw [World.cell?_of_block (a := ⟨b, off + j, none⟩) (show W'.heap[b]? = W.heap[b]? from m.t.block b h1 h2)]
    exact hc
  · obtain ⟨h1, h2⟩ := h.2 b o e hn
    refine ⟨Nat.lt_of_lt_of_le h1 m.t.size, fun hz => ?_⟩
    rcases m.n b hz with h | h
    · exact h2 h
    · omega
theorem SlM.of_in {w0 W : World} {Z : Nat → Prop} {sa : Nat} {xs : List ND} {A : Option Addr} {n c : Nat} {l : List Int} (h : SlA w0 1 A n c (l.map (.int .i64))) (la : LA w0 W Z sa xs) : SlM W Z A n c l := by
  refine ⟨h.ext la.bl, fun b o e hn => ?_⟩
  obtain ⟨b', o', x, e', -, hc⟩ := h.elemI hn
  rw [e] at e'
  injection e' with e'
  injection e' with e1 e2
  subst e1
  have := block_lt_of_cell hc
  exact ⟨Nat.lt_of_lt_of_le this la.sz, fun hz => by have := la.z b hz; simp only at *; omega⟩
theorem SlM.nil (W : World) (Z : Nat → Prop) : SlM W Z none 0 0 [] := ⟨SlA.nil _ _, fun b o e => by cases e⟩
section
variable {w0 W W' : World} {Z Z' : Nat → Prop} {sa : Nat} {xs xs' : List ND}
set_option maxHeartbeats 2000000 in
set_option maxRecDepth 100000 in
theorem l_psk (h : LA w0 W Z sa xs) (hT : Tb w0.heap.size w0) {A : Option Addr} {n c : Nat} {l : List Int} (hl : SlM W Z A n c l) (hn : n ≤ 100000) (hi : ∀ i ∈ l, I64 i) :
    Calls Tryz.prog 18 #[.pointer (some ⟨sa, 0, none⟩), .slice A n c] W (LrS w0 W Z sa (pskF xs l)) := by
  have HT := hid hT; have HL := hid hl; have HI := hid hi
  have HLN := hid hl.1.lenI
  have HX := hid (l_text h hT ⟨#[]⟩)
  have HI0 := hid (show I64 (mk xs (txN ⟨#[]⟩)).2.1 from idx_i64 h.ar.ok (txN ⟨#[]⟩))
  clear h hT hl hi
  go_enter Tryz.func18, Tryz.ntmps18
  go_wp2_with fail
  refine HX.out.mono ?_
  rintro e w2 ⟨Z2, rfl, l2, m2⟩
  have L2 := hid l2; have M2 := hid m2
  clear l2 m2 HX
  have HOK := hid L2.out.ar.ok
  go_wp2_with fail
  go_loopw [17, 6, 7] (fun v p e wr => ∃ (j : Nat) (Zr : Nat → Prop) (R : Rs), v = .int .i64 j ∧ j ≤ n ∧ Hid (R = pskF xs (l.take j)) ∧ p = .int .i64 R.2.1 ∧ e = .int .i64 R.2.2 ∧ I64 R.2.1 ∧ LA w0 wr Zr sa R.1 ∧ Mv Z W Zr wr) (fun v _ _ _ => n - (intOf v).toNat)
  case atStart => exact ⟨0, Z2, _, rfl, Nat.zero_le _, hid rfl, rfl, rfl, HI0.out, L2.out, M2.out⟩
  case round =>
    clear L2 M2 HOK
    obtain ⟨j, Zr, R, hv, hj, hR, hp, he, hpi, hla, hmv⟩ := hrel
    subst hv; subst hp; subst he
    have HLA := hid hla; have HMV := hid hmv
    clear hla hmv
    by_cases hlt : j < n
    · obtain ⟨b, off, y, rfl, hy, hcy⟩ := (HL.out.mv HMV.out).1.elemI hlt
      have hlt' : (j : Int) < (n : Int) := by omega
      have hyi : I64 y := HI.out y (List.mem_of_getElem? hy)
      by_cases he : R.2.2 = 0
      · have HST := hid (show pskF xs (l.take (j + 1)) = exF R.1 R.2.1 y by
          have := psk_one (xs := xs) hy (by rw [← hR.out]; exact he)
          rwa [← hR.out] at this)
        have HEX := hid (l_ex HLA.out HT.out hpi hyi)
        have hii : I64 (exF R.1 R.2.1 y).2.1 := idx_i64 HLA.out.ar.ok (ndN 5 [R.2.1, y])
        have HLT := hid hlt
        rw [he]
        clear hy
        generalize exF R.1 R.2.1 y = r at *
        go_wp2_with fail
        refine HEX.out.mono ?_
        rintro e w3 ⟨Z3, rfl, l3, m3⟩
        have L3 := hid l3; have M3 := hid (HMV.out.trans m3)
        clear l3 m3 HEX HLA HMV hcy
        go_wp2_with fail
        go_roundw
        case rel => exact ⟨j + 1, Z3, r, by go_num, by have := HLT.out; omega, hid HST.out.symm, rfl, rfl, hii, L3.out, M3.out⟩
        case measure => have := HLT.out; simp [intOf]; omega
      · have HST := hid (show pskF xs l = (R.1, 0, R.2.2) by
          have := psk_stuck (xs := xs) (l := l) (j := j) (by have := HLN.out; omega) (by rw [← hR.out]; exact he)
          rwa [← hR.out] at this)
        have hne : (R.2.2 != 0) = true := bne_iff_ne.2 he
        clear hy he
        go_wp2_with fail
        go_ret2
        exact (show LrS _ _ _ _ _ _ _ from ⟨Zr, by rw [HST.out]; rfl, by rw [HST.out]; exact HLA.out, HMV.out⟩)
    · obtain rfl : j = n := by omega
      have hlt' : ¬ (j : Int) < (j : Int) := by omega
      have HST := hid (show pskF xs l = R by rw [hR.out, List.take_of_length_le (by have := HLN.out; omega)])
      go_wp2_with fail
      go_ret2
      exact (show LrS _ _ _ _ _ _ _ from ⟨Zr, by rw [HST.out]; rfl, by rw [HST.out]; exact HLA.out, HMV.out⟩)
theorem l_jn (h : LA w0 W Z sa xs) (hT : Tb w0.heap.size w0) {i c x : Int} (hi : I64 i) (hc : I64 c) (hx : I64 x) :
    Calls Tryz.prog 28 #[.pointer (some ⟨sa, 0, none⟩), .int .i64 i, .int .i64 c, .int .i64 x] W (LrS w0 W Z sa (jnF xs i c x)) := by
  have HT := hid hT
  have HX := hid (l_ex h hT hi hc)
  have hmi : I64 (exF xs i c).2.1 := idx_i64 h.ar.ok (ndN 5 [i, c])
  clear h hT
  by_cases he : (exF xs i c).2.2 = 0
  · have HF := hid (show jnF xs i c x = exdF (exF xs i c).1 (exF xs i c).2.1 lbJoiner x by unfold jnF bdF; rw [if_pos he])
    rw [HF.out]
    unfold LrS at HX
    rw [he] at HX
    clear he
    generalize exF xs i c = r at *
    obtain ⟨Y, m, er⟩ := r
    obtain ⟨r, hr⟩ : ∃ r : Rs, r = exdF Y m lbJoiner x := ⟨_, rfl⟩
    rw [← hr]
    have HR := hid hr
    clear hr HF
    go_enter Tryz.func28, Tryz.ntmps28
    go_wp2_with fail
    refine HX.out.mono ?_
    rintro e w2 ⟨Z2, rfl, l2, m2⟩
    have HO := hid (l_exd l2 HT.out hmi hx lbJoiner)
    rw [← HR.out] at HO
    unfold lbJoiner at HO
    have M2 := hid m2
    clear l2 m2 HX
    go_wp2_with fail
    refine HO.out.mono ?_
    rintro e w3 ⟨Z3, rfl, l3, m3⟩
    have L3 := hid l3; have M3 := hid (M2.out.trans m3)
    clear l3 m3 HO
    go_wp2_with fail
    go_ret2
    exact ⟨Z3, rfl, L3.out, M3.out⟩
  · have HF := hid (show jnF xs i c x = ((exF xs i c).1, 0, (exF xs i c).2.2) by unfold jnF bdF; rw [if_neg he])
    rw [HF.out]
    unfold LrS at HX
    have hne : ((exF xs i c).2.2 != 0) = true := bne_iff_ne.2 he
    clear he
    generalize exF xs i c = r at *
    obtain ⟨Y, m, er⟩ := r
    go_enter Tryz.func28, Tryz.ntmps28
    go_wp2_with fail
    refine HX.out.mono ?_
    rintro e w2 ⟨Z2, rfl, l2, m2⟩
    have L2 := hid l2; have M2 := hid m2
    clear l2 m2 HX HF
    go_wp2_with fail
    go_ret2
    exact ⟨Z2, rfl, L2.out, M2.out⟩
end
end Go.Proofs.YtkgobglmkhkbbaaGreatDoor

/- the document's arena beside the law's: calls that take a step. -/
namespace Go.Proofs.YtkgobglmkhkbbaaGreatDoor
open Go.RowKit Go.KK Go.Shelf Go.Maps
set_option linter.unusedVariables false
set_option linter.unusedSimpArgs false

/-- The document's arena, and what the call has left alone. -/
structure LQ (w0 W : World) (Z : Nat → Prop) (sb : Nat) (ys : List ND) : Prop where
  ar : AQ W Z sb ys
  z : ∀ b, Z b → w0.heap.size ≤ b
  bl : Below w0.heap.size w0 W
section
variable {w0 W W' : World} {Z Z' Z2 : Nat → Prop} {sa sb : Nat} {xs xs' ys ys' : List ND}
theorem LQ.mv (h : LQ w0 W Z sb ys) (m : Mv Z W Z' W') (ha : AQ W' Z' sb ys') : LQ w0 W' Z' sb ys' :=
  ⟨ha, fun b hb => (m.n b hb).elim (h.z b) fun h' => Nat.le_trans h.bl.size h', h.bl.trans (m.t.below h.z h.bl.size)⟩
theorem LQ.ext (h : LQ w0 W Z sb ys) (hb : Below W.heap.size W W') : LQ w0 W' Z sb ys := h.mv (.below hb) (h.ar.ext hb)
theorem LQ.alloc (h : LQ w0 W Z sb ys) (o : Obj) : LQ w0 (W.alloc o) Z sb ys := h.ext ((Below.refl _ _).alloc (Nat.le_refl _) o)
theorem LQ.sz (h : LQ w0 W Z sb ys) : w0.heap.size ≤ W.heap.size := h.bl.size
/-- Both arenas, side by side: the law's holds these nodes, the document's those. -/
structure Tx (w0 W : World) (sa sb : Nat) (Z Z' : Nat → Prop) (xs ys : List ND) : Prop where
  a : LA w0 W Z sa xs
  b : LQ w0 W Z' sb ys
  d : ∀ b, Z b → ¬ Z' b
theorem Tx.of {xs : List ND} (h : Tw w0 W sa sb Z Z' xs) : Tx w0 W sa sb Z Z' xs xs := ⟨⟨h.a, h.za, h.bl⟩, ⟨h.b, h.zb, h.bl⟩, h.d⟩
/-- The law's arena took a step. -/
theorem Tx.onA (h : Tx w0 W sa sb Z Z' xs ys) (la : LA w0 W' Z2 sa xs') (m : Mv Z W Z2 W') : Tx w0 W' sa sb Z2 Z' xs' ys :=
  ⟨la, ⟨h.b.ar.turn m.t fun b hb k => h.d b k hb, h.b.z, la.bl⟩, fun b hb hb' => by
    rcases m.n b hb with k | k
    · exact h.d b k hb'
    · have := h.b.ar.zlt b hb'; omega⟩
/-- The document's arena took a step. -/
theorem Tx.onB (h : Tx w0 W sa sb Z Z' xs ys) (lq : LQ w0 W' Z2 sb ys') (m : Mv Z' W Z2 W') : Tx w0 W' sa sb Z Z2 xs ys' :=
  ⟨⟨AR.turn h.a.ar m.t fun b hb k => h.d b hb k, h.a.z, lq.bl⟩, lq, fun b hb hb' => by
    rcases m.n b hb' with k | k
    · exact h.d b hb k
    · have := h.a.ar.zlt b hb; omega⟩
theorem Tx.ext (h : Tx w0 W sa sb Z Z' xs ys) (hb : Below W.heap.size W W') : Tx w0 W' sa sb Z Z' xs ys := ⟨h.a.ext hb, h.b.ext hb, h.d⟩
theorem Tx.alloc (h : Tx w0 W sa sb Z Z' xs ys) (o : Obj) : Tx w0 (W.alloc o) sa sb Z Z' xs ys := h.ext ((Below.refl _ _).alloc (Nat.le_refl _) o)
/-- A call of the document's that takes a step. -/
def LrQ (w0 W : World) (Z : Nat → Prop) (sb : Nat) (r : Rs) (e : Ending) (w' : World) : Prop := ∃ Z', e = .returned (.tuple #[.int .i64 r.2.1, .int .i64 r.2.2]) ∧ LQ w0 w' Z' sb r.1 ∧ Mv Z W Z' w'
theorem q_mke (h : LQ w0 W Z sb ys) {x : ND} {A : Option Addr} {c : Nat} (hl : SlA W 1 A x.l.length c (x.l.map (.int .i64))) (hx : NdI x) :
    Calls Tryz.prog 80 #[.pointer (some ⟨sb, 0, none⟩), .agg #[.int .i64 x.o, .int .i64 x.n, .string x.s, .slice A x.l.length c]] W (LrQ w0 W Z sb (mk ys x)) := by
  refine (rmke_any Z sb ys W x A c h.ar hl hx).mono ?_
  rintro e w' ⟨rfl, Z', h1, h2, h3⟩
  exact ⟨Z', rfl, h.mv ⟨h2, h3⟩ h1, ⟨h2, h3⟩⟩
theorem q_of (h : LQ w0 W Z sb ys) {o : Int} {A : Option Addr} {n c : Nat} {l : List Int} (hl : SlA W 1 A n c (l.map (.int .i64))) (ho : I64 o) (hi : ∀ i ∈ l, I64 i) :
    Calls Tryz.prog 74 #[.pointer (some ⟨sb, 0, none⟩), .int .i64 o, .slice A n c] W (LrQ w0 W Z sb (mk ys (ndN o l))) := by
  have e := hl.lenI
  subst e
  have HM := hid (q_mke h (x := ndN o l) hl (ndI_nd ho hi))
  clear h hl
  go_enter Tryz.func74, Tryz.ntmps74
  go_wp2_with fail
  refine HM.out.mono ?_
  rintro e w' ⟨Z', rfl, h1, h2⟩
  have H1 := hid h1; have H2 := hid h2
  clear h1 h2
  go_wp2_with fail
  go_ret2
  exact ⟨Z', rfl, H1.out, H2.out⟩
theorem q_list (h : LQ w0 W Z sb ys) {A : Option Addr} {n c : Nat} {l : List Int} (hl : SlA W 1 A n c (l.map (.int .i64))) (hi : ∀ i ∈ l, I64 i) :
    Calls Tryz.prog 39 #[.pointer (some ⟨sb, 0, none⟩), .slice A n c] W (LrQ w0 W Z sb (mk ys (ndN 3 l))) := by
  have HM := hid (q_of h (o := 3) hl (i64_lit (by decide) (by decide)) hi)
  clear h hl hi
  generalize mk ys (ndN 3 l) = r at *
  unfold LrQ at HM ⊢
  go_enter Tryz.func39, Tryz.ntmps39
  go_wp2_with fail
  refine HM.out.mono ?_
  rintro e w' ⟨Z', rfl, h1, h2⟩
  have H1 := hid h1; have H2 := hid h2
  clear h1 h2
  go_wp2_with fail
  go_ret2
  exact ⟨Z', rfl, H1.out, H2.out⟩
theorem q_text (h : LQ w0 W Z sb ys) (s : ByteArray) :
    Calls Tryz.prog 37 #[.pointer (some ⟨sb, 0, none⟩), .string s] W (LrQ w0 W Z sb (mk ys (txN s))) := by
  have HM := hid (q_mke h (x := txN s) (SlA.nil _ _) (ndI_tx s))
  clear h
  go_enter Tryz.func37, Tryz.ntmps37
  go_wp2_with fail
  refine HM.out.mono ?_
  rintro e w' ⟨Z', rfl, h1, h2⟩
  have H1 := hid h1; have H2 := hid h2
  clear h1 h2
  go_wp2_with fail
  go_ret2
  exact ⟨Z', rfl, H1.out, H2.out⟩
end
end Go.Proofs.YtkgobglmkhkbbaaGreatDoor

/- the document's layer 3: SameInts (without Rising). -/
namespace Go.Proofs.YtkgobglmkhkbbaaGreatDoor
open Go.RowKit Go.KK Go.Shelf Go.Maps
set_option linter.unusedVariables false
set_option linter.unusedSimpArgs false

theorem take_get {α : Type} {l : List α} {k : Nat} {x : α} (h : l[k]? = some x) : l.take (k + 1) = l.take k ++ [x] := by
  obtain ⟨hk, rfl⟩ := List.getElem?_eq_some_iff.1 h
  exact List.take_succ_eq_append_getElem hk
theorem run_cut_to6 {P : Program} {A : Option Addr} {n c sz : Nat} {t e : TypeId} (ht : P.underlying t = some (.slice e)) (hs : ∀ W : World, (sizeOf e).run P W = .ok sz W) {p : Nat} (hp : p ≤ c) :
    ∀ W : World, (Instr.slice t (.slice A n c) none (some (.int .i64 (p : Int))) none).run P W = .ok (.slice A p c) W := by
  intro W
  have he : P.elem t = e := by simp [Program.elem, ht]
  rw [run_slice_h W t A n c (by rw [he]; exact ht) .i64 p (by omega) (by omega), he, hs W]
  have hz : ∀ a : Addr, a.add 0 = a := fun a => by simp [Addr.add]
  simp [Result.andThen, sliced, hz]
theorem take_eq_step {l m : List Int} {j : Nat} {x : Int} (h : l.take j = m.take j) (h1 : l[j]? = some x) (h2 : m[j]? = some x) : l.take (j + 1) = m.take (j + 1) := by
  rw [take_get h1, take_get h2, h]
theorem ne_of_at {l m : List Int} {j : Nat} {x y : Int} (h1 : l[j]? = some x) (h2 : m[j]? = some y) (h : x ≠ y) : (l == m) = false := by
  refine beq_eq_false_iff_ne.2 fun e => h ?_
  rw [e, h2] at h1
  injection h1 with h1
  exact h1.symm
theorem same_ints (A : Option Addr) (n c : Nat) (l : List Int) (B : Option Addr) (m d : Nat) (l' : List Int) (w : World) (h : SlA w 1 A n c (l.map (.int .i64))) (h' : SlA w 1 B m d (l'.map (.int .i64))) (hn : n ≤ 2147483648) (hm : m ≤ 2147483648) :
    Calls Tryz.prog 20 #[.slice A n c, .slice B m d] w fun e w' => e = .returned (.bool (l == l')) ∧ ∃ q, w' = w.drewN q := by
  have HL := hid h.lenI; have HS := hid h; have HL' := hid h'.lenI; have HS' := hid h'
  clear h h'
  by_cases hnm : n = m
  · subst hnm
    go_enter Tryz.func20, Tryz.ntmps20
    go_wp2
    go_loopw [13, 4] (fun i _ wr => ∃ j q : Nat, i = .int .i64 j ∧ j ≤ n ∧ Hid (l.take j = l'.take j) ∧ wr = w.drewN q) (fun i _ _ => n - (intOf i).toNat)
    case atStart => exact ⟨0, 0, rfl, by omega, hid rfl, rfl⟩
    case round =>
      obtain ⟨j, q, hi, hj, HJ, hw⟩ := hrel
      subst hi; subst hw
      by_cases hlt : j < n
      · obtain ⟨b, o, z, rfl, hz, hc⟩ := HS.out.elemI hlt
        obtain ⟨b', o', z', rfl, hz', hc'⟩ := HS'.out.elemI hlt
        have hj0 : (0 : Int) ≤ (j : Int) := by omega
        have hj1 : (j : Int) < (n : Int) := by omega
        have HZ := hid hz; have HZ' := hid hz'
        clear hz hz'
        by_cases hzx : z = z'
        · have HF := hid (take_eq_step HJ.out HZ.out (hzx ▸ HZ'.out))
          have hzx' : (z != z') = false := by rw [hzx]; simp
          clear hzx
          go_wp2
          go_quiet (fail)
          go_wp2
          go_roundw
          case rel => exact ⟨j + 1, _, by go_num, by omega, HF, rfl⟩
          case measure => simp [intOf]; omega
        · have HF := hid (ne_of_at HZ.out HZ'.out hzx)
          have hzx' : (z != z') = true := bne_iff_ne.2 hzx
          clear hzx
          go_wp2
          go_quiet (fail)
          go_wp2
          go_ret
          exact ⟨by rw [HF.out]; rfl, _, World.drewN_drewN _ _ _⟩
      · have HF := hid (show (l == l') = true from beq_iff_eq.2 (by
          have := HJ.out
          rwa [List.take_of_length_le (by have := HL.out; omega), List.take_of_length_le (by have := HL'.out; omega)] at this))
        go_wp2
        go_ret
        exact ⟨by rw [HF.out]; rfl, q, rfl⟩
  · have HF := hid (show (l == l') = false from beq_eq_false_iff_ne.2 fun e => hnm (by rw [← HL.out, ← HL'.out, e]))
    have hnm' : ((n : Int) != (m : Int)) = true := bne_iff_ne.2 (by omega)
    clear hnm
    go_enter Tryz.func20, Tryz.ntmps20
    go_wp2
    go_ret
    exact ⟨by rw [HF.out]; rfl, 0, rfl⟩
/-- Where a number goes in a list: behind all that are not greater, from the end. -/
def posF (acc : List Int) (n : Int) : Nat → Nat
  | 0 => 0
  | k + 1 => if n < acc.getD k 0 then posF acc n k else k + 1
end Go.Proofs.YtkgobglmkhkbbaaGreatDoor

/- the document's layers 4 and 11: Expand, Derive, Joiner, Psk. -/
namespace Go.Proofs.YtkgobglmkhkbbaaGreatDoor
open Go.RowKit Go.KK Go.Shelf Go.Maps
set_option linter.unusedVariables false
set_option linter.unusedSimpArgs false

theorem rlen5_any (st : Nat) (xs : List ND) (w : World) (h : ArV w 104 st xs) :
    Calls Tryz.prog 40 #[.pointer (some ⟨st, 0, none⟩)] w fun e w' => e = .returned (.int .i64 xs.length) ∧ w' = w := by
  obtain ⟨A, c, m, h0, h1, hn⟩ := h.parts
  clear hn h
  go_enter Tryz.func40, Tryz.ntmps40
  go_wp2
  go_ret
  exact ⟨rfl, rfl⟩
section
variable {w0 W W' : World} {Z Z' : Nat → Prop} {sa : Nat} {xs xs' : List ND}
theorem bad_any (st : Nat) (w : World) (A : Option Addr) (n c : Nat) (l : List Int) (h : ArV w 104 st xs) (hl : SlA w 1 A n c (l.map (.int .i64))) (hn : n ≤ 2147483648) :
    Calls Tryz.prog 96 #[.pointer (some ⟨st, 0, none⟩), .slice A n c] w fun e w' => e = .returned (.bool (!(kno xs l))) ∧ w' = w := by
  have H := hid h; have HS := hid hl; have HL := hid hl.lenI
  clear h hl
  unfold kno
  go_enter Tryz.func96, Tryz.ntmps96
  go_wp2
  go_loopw [9] (fun i wr => ∃ j : Nat, i = .int .i64 j ∧ j ≤ n ∧ Hid (l.all (hasB xs) = (l.drop j).all (hasB xs)) ∧ wr = w) (fun i _ => n - (intOf i).toNat)
  case atStart => exact ⟨0, rfl, by omega, hid rfl, rfl⟩
  case round =>
    obtain ⟨j, hi, hj, HJ, hw⟩ := hrel
    subst hi; subst hw
    by_cases hlt : j < n
    · obtain ⟨b1, o, z, rfl, hz, hc⟩ := HS.out.elemI hlt
      have HD := hid (drop_get hz); clear hz
      by_cases hz0 : z < 0
      · have HF := hid (show l.all (hasB xs) = false by
          rw [HJ.out, HD.out, List.all_cons, show hasB xs z = false by unfold hasB; rw [decide_eq_false (by omega : ¬ 0 ≤ z)]; rfl]; rfl)
        go_wp2
        go_ret
        exact ⟨by rw [HF.out]; rfl, rfl⟩
      · by_cases hz1 : (xs.length : Int) ≤ z
        · have HF := hid (show l.all (hasB xs) = false by
            rw [HJ.out, HD.out, List.all_cons, show hasB xs z = false by unfold hasB; rw [decide_eq_false (by omega : ¬ z < (xs.length : Int))]; simp]; rfl)
          go_wp2_with (go_at_call 40; refine (rlen5_any st xs _ H.out).mono ?_; rintro e w' ⟨rfl, hw'⟩; subst hw')
          go_ret
          exact ⟨by rw [HF.out]; rfl, rfl⟩
        · have HF := hid (show l.all (hasB xs) = (l.drop (j + 1)).all (hasB xs) by
            rw [HJ.out, HD.out, List.all_cons, show hasB xs z = true by unfold hasB; rw [decide_eq_true (by omega : z < (xs.length : Int)), decide_eq_true (by omega : 0 ≤ z)]; rfl]; rfl)
          go_wp2_with (go_at_call 40; refine (rlen5_any st xs _ H.out).mono ?_; rintro e w' ⟨rfl, hw'⟩; subst hw')
          go_roundw
          case rel => exact ⟨j + 1, by go_num, by omega, HF, by first | rfl | trivial⟩
          case measure => simp [intOf]; omega
    · have HF := hid (show l.all (hasB xs) = true by rw [HJ.out, List.drop_of_length_le (by have := HL.out; omega)]; rfl)
      go_wp2
      go_ret
      exact ⟨by rw [HF.out]; rfl, rfl⟩
/-- The document's mix, at its caller's. -/
theorem q_mix (h : LQ w0 W Z sa xs) {s t : Int} (hs : I64 s) (ht : I64 t) :
    Calls Tryz.prog 74 #[.pointer (some ⟨sa, 0, none⟩), .int .i64 5, .slice (some ⟨W.heap.size, 0, none⟩) 2 2] (W.alloc (.cells #[.int .i64 s, .int .i64 t] 3)) (LrQ w0 W Z sa (exF xs s t)) := by
  refine (q_of (h.alloc (.cells #[.int .i64 s, .int .i64 t] 3)) (o := 5) (l := [s, t]) (sla_row #[.int .i64 s, .int .i64 t] (by unfold maxLen; simp)) (i64_lit (by decide) (by decide)) (fun i hi => by
    simp only [List.mem_cons, List.mem_nil_iff, or_false] at hi
    rcases hi with rfl | rfl
    · exact hs
    · exact ht)).mono ?_
  rintro e w' ⟨Z', rfl, h1, h2⟩
  exact ⟨Z', rfl, h1, (Mv.alloc Z W (.cells #[.int .i64 s, .int .i64 t] 3)).trans h2⟩
theorem q_pub (h : LQ w0 W Z sa xs) {s : Int} (hs : I64 s) :
    Calls Tryz.prog 74 #[.pointer (some ⟨sa, 0, none⟩), .int .i64 7, .slice (some ⟨W.heap.size, 0, none⟩) 1 1] (W.alloc (.cells #[.int .i64 s] 3)) (LrQ w0 W Z sa (pbF xs s)) := by
  refine (q_of (h.alloc (.cells #[.int .i64 s] 3)) (o := 7) (l := [s]) (sla_row #[.int .i64 s] (by unfold maxLen; simp)) (i64_lit (by decide) (by decide)) (fun i hi => by
    rw [List.mem_singleton] at hi
    subst hi
    exact hs)).mono ?_
  rintro e w' ⟨Z', rfl, h1, h2⟩
  exact ⟨Z', rfl, h1, (Mv.alloc Z W (.cells #[.int .i64 s] 3)).trans h2⟩
set_option maxHeartbeats 2000000 in
set_option maxRecDepth 100000 in
theorem q_exd (h : LQ w0 W Z sa xs) {s c : Int} (hs : I64 s) (hc : I64 c) (lab : ByteArray) :
    Calls Tryz.prog 72 #[.pointer (some ⟨sa, 0, none⟩), .int .i64 s, .string lab, .int .i64 c] W (LrQ w0 W Z sa (exdF xs s lab c)) := by
  have HA := hid (h.alloc (.cells #[.int .i64 s, .int .i64 c] 3))
  have HM := hid (Mv.alloc Z W (.cells #[.int .i64 s, .int .i64 c] 3))
  have HK := hid (bad_any sa (W.alloc (.cells #[.int .i64 s, .int .i64 c] 3)) (some ⟨W.heap.size, 0, none⟩) 2 2 [s, c] HA.out.ar.vw (sla_row #[.int .i64 s, .int .i64 c] (by unfold maxLen; simp)) (by omega))
  have hti := idx_i64 h.ar.ok (txN lab)
  clear h
  rcases hk : kno xs [s, c] with _ | _
  · have HF := hid (show exdF xs s lab c = (xs, 0, 1) by unfold exdF; rw [if_neg (by rw [hk]; decide)])
    rw [HF.out]
    rw [hk] at HK
    clear hk hti
    go_enter Tryz.func72, Tryz.ntmps72
    go_wp2_with fail
    refine HK.out.mono ?_
    rintro e w' ⟨rfl, hw⟩
    subst hw
    go_wp2_with fail
    go_ret2
    exact ⟨Z, rfl, HA.out, HM.out⟩
  · rw [hk] at HK
    have HX := hid (q_text HA.out lab)
    by_cases he : makE xs (txN lab) = 0
    · have HF := hid (show exdF xs s lab c = mk (makT xs (txN lab)) (ndN 6 [s, makI xs (txN lab), c]) by unfold exdF; rw [if_pos hk]; unfold bdF; rw [if_pos (show (mk xs (txN lab)).2.2 = 0 from he)]; rfl)
      rw [HF.out]
      unfold LrQ mk at HX
      rw [he] at HX
      clear hk he
      generalize makI xs (txN lab) = ti at *
      generalize makT xs (txN lab) = Y at *
      obtain ⟨r, hr⟩ : ∃ r : Rs, r = mk Y (ndN 6 [s, ti, c]) := ⟨_, rfl⟩
      rw [← hr]
      have HR := hid hr
      clear hr HF
      go_enter Tryz.func72, Tryz.ntmps72
      go_wp2_with fail
      refine HK.out.mono ?_
      rintro e w' ⟨rfl, hw⟩
      subst hw
      go_wp2_with fail
      refine HX.out.mono ?_
      rintro e w2 ⟨Z2, rfl, l2, m2⟩
      have HO := hid (q_of (l2.alloc (.cells #[.int .i64 s, .int .i64 ti, .int .i64 c] 3)) (o := 6) (l := [s, ti, c]) (sla_row #[.int .i64 s, .int .i64 ti, .int .i64 c] (by unfold maxLen; simp)) (i64_lit (by decide) (by decide)) (fun i hi => by
        simp only [List.mem_cons, List.mem_nil_iff, or_false] at hi
        rcases hi with rfl | rfl | rfl
        · exact hs
        · exact hti
        · exact hc))
      rw [← HR.out] at HO
      have M2 := hid ((HM.out.trans m2).trans (Mv.alloc Z2 w2 (.cells #[.int .i64 s, .int .i64 ti, .int .i64 c] 3)))
      clear l2 m2 HX HK
      go_wp2_with fail
      refine HO.out.mono ?_
      rintro e w3 ⟨Z3, rfl, l3, m3⟩
      have L3 := hid l3; have M3 := hid (M2.out.trans m3)
      clear l3 m3 HO
      go_wp2_with fail
      go_ret2
      exact ⟨Z3, rfl, L3.out, M3.out⟩
    · have HF := hid (show exdF xs s lab c = (makT xs (txN lab), 0, makE xs (txN lab)) by unfold exdF; rw [if_pos hk]; unfold bdF; rw [if_neg (show ¬ (mk xs (txN lab)).2.2 = 0 from he)]; rfl)
      rw [HF.out]
      unfold LrQ mk at HX
      have hne : (makE xs (txN lab) != 0) = true := bne_iff_ne.2 he
      clear hk he
      generalize makE xs (txN lab) = te at *
      generalize makI xs (txN lab) = ti at *
      generalize makT xs (txN lab) = Y at *
      go_enter Tryz.func72, Tryz.ntmps72
      go_wp2_with fail
      refine HK.out.mono ?_
      rintro e w' ⟨rfl, hw⟩
      subst hw
      go_wp2_with fail
      refine HX.out.mono ?_
      rintro e w2 ⟨Z2, rfl, l2, m2⟩
      have L2 := hid l2; have M2 := hid (HM.out.trans m2)
      clear l2 m2 HX HK HF
      go_wp2_with fail
      go_ret2
      exact ⟨Z2, rfl, L2.out, M2.out⟩
set_option maxHeartbeats 2000000 in
set_option maxRecDepth 100000 in
theorem q_dv (h : LQ w0 W Z sa xs) {s : Int} (hs : I64 s) (lab : ByteArray) :
    Calls Tryz.prog 71 #[.pointer (some ⟨sa, 0, none⟩), .int .i64 s, .string lab] W (LrQ w0 W Z sa (dvF xs s lab)) := by
  have HA := hid (h.alloc (.cells #[.int .i64 s] 3))
  have HM := hid (Mv.alloc Z W (.cells #[.int .i64 s] 3))
  have HK := hid (bad_any sa (W.alloc (.cells #[.int .i64 s] 3)) (some ⟨W.heap.size, 0, none⟩) 1 1 [s] HA.out.ar.vw (sla_row #[.int .i64 s] (by unfold maxLen; simp)) (by omega))
  have hti := idx_i64 h.ar.ok (ndN 3 [])
  clear h
  rcases hk : kno xs [s] with _ | _
  · have HF := hid (show dvF xs s lab = (xs, 0, 1) by unfold dvF; rw [if_neg (by rw [hk]; decide)])
    rw [HF.out]
    rw [hk] at HK
    clear hk hti
    go_enter Tryz.func71, Tryz.ntmps71
    go_wp2_with fail
    refine HK.out.mono ?_
    rintro e w' ⟨rfl, hw⟩
    subst hw
    go_wp2_with fail
    go_ret2
    exact ⟨Z, rfl, HA.out, HM.out⟩
  · rw [hk] at HK
    have HX := hid (q_list HA.out (l := []) (SlA.nil _ _) (fun i hi => by simp at hi))
    by_cases he : makE xs (ndN 3 []) = 0
    · have HF := hid (show dvF xs s lab = exdF (makT xs (ndN 3 [])) s lab (makI xs (ndN 3 [])) by unfold dvF; rw [if_pos hk]; unfold bdF; rw [if_pos (show (mk xs (ndN 3 [])).2.2 = 0 from he)]; rfl)
      rw [HF.out]
      unfold LrQ mk at HX
      rw [he] at HX
      clear hk he
      generalize makI xs (ndN 3 []) = ti at *
      generalize makT xs (ndN 3 []) = Y at *
      obtain ⟨r, hr⟩ : ∃ r : Rs, r = exdF Y s lab ti := ⟨_, rfl⟩
      rw [← hr]
      have HR := hid hr
      clear hr HF
      go_enter Tryz.func71, Tryz.ntmps71
      go_wp2_with fail
      refine HK.out.mono ?_
      rintro e w' ⟨rfl, hw⟩
      subst hw
      go_wp2_with fail
      refine HX.out.mono ?_
      rintro e w2 ⟨Z2, rfl, l2, m2⟩
      have HO := hid (q_exd l2 hs hti lab)
      rw [← HR.out] at HO
      have M2 := hid (HM.out.trans m2)
      clear l2 m2 HX HK
      go_wp2_with fail
      refine HO.out.mono ?_
      rintro e w3 ⟨Z3, rfl, l3, m3⟩
      have L3 := hid l3; have M3 := hid (M2.out.trans m3)
      clear l3 m3 HO
      go_wp2_with fail
      go_ret2
      exact ⟨Z3, rfl, L3.out, M3.out⟩
    · have HF := hid (show dvF xs s lab = (makT xs (ndN 3 []), 0, makE xs (ndN 3 [])) by unfold dvF; rw [if_pos hk]; unfold bdF; rw [if_neg (show ¬ (mk xs (ndN 3 [])).2.2 = 0 from he)]; rfl)
      rw [HF.out]
      unfold LrQ mk at HX
      have hne : (makE xs (ndN 3 []) != 0) = true := bne_iff_ne.2 he
      clear hk he
      generalize makE xs (ndN 3 []) = te at *
      generalize makI xs (ndN 3 []) = ti at *
      generalize makT xs (ndN 3 []) = Y at *
      go_enter Tryz.func71, Tryz.ntmps71
      go_wp2_with fail
      refine HK.out.mono ?_
      rintro e w' ⟨rfl, hw⟩
      subst hw
      go_wp2_with fail
      refine HX.out.mono ?_
      rintro e w2 ⟨Z2, rfl, l2, m2⟩
      have L2 := hid l2; have M2 := hid (HM.out.trans m2)
      clear l2 m2 HX HK HF
      go_wp2_with fail
      go_ret2
      exact ⟨Z2, rfl, L2.out, M2.out⟩
theorem q_jn (h : LQ w0 W Z sa xs) {i c x : Int} (hi : I64 i) (hc : I64 c) (hx : I64 x) :
    Calls Tryz.prog 29 #[.pointer (some ⟨sa, 0, none⟩), .int .i64 i, .int .i64 c, .int .i64 x] W (LrQ w0 W Z sa (jnF xs i c x)) := by
  have HX := hid (q_mix h hi hc)
  have hmi : I64 (exF xs i c).2.1 := idx_i64 h.ar.ok (ndN 5 [i, c])
  clear h
  by_cases he : (exF xs i c).2.2 = 0
  · have HF := hid (show jnF xs i c x = exdF (exF xs i c).1 (exF xs i c).2.1 lbJoiner x by unfold jnF bdF; rw [if_pos he])
    rw [HF.out]
    unfold LrQ at HX
    rw [he] at HX
    clear he
    generalize exF xs i c = r at *
    obtain ⟨Y, m, er⟩ := r
    obtain ⟨r, hr⟩ : ∃ r : Rs, r = exdF Y m lbJoiner x := ⟨_, rfl⟩
    rw [← hr]
    have HR := hid hr
    clear hr HF
    go_enter Tryz.func29, Tryz.ntmps29
    go_wp2_with fail
    refine HX.out.mono ?_
    rintro e w2 ⟨Z2, rfl, l2, m2⟩
    have HO := hid (q_exd l2 hmi hx lbJoiner)
    rw [← HR.out] at HO
    unfold lbJoiner at HO
    have M2 := hid m2
    clear l2 m2 HX
    go_wp2_with fail
    refine HO.out.mono ?_
    rintro e w3 ⟨Z3, rfl, l3, m3⟩
    have L3 := hid l3; have M3 := hid (M2.out.trans m3)
    clear l3 m3 HO
    go_wp2_with fail
    go_ret2
    exact ⟨Z3, rfl, L3.out, M3.out⟩
  · have HF := hid (show jnF xs i c x = ((exF xs i c).1, 0, (exF xs i c).2.2) by unfold jnF bdF; rw [if_neg he])
    rw [HF.out]
    unfold LrQ at HX
    have hne : ((exF xs i c).2.2 != 0) = true := bne_iff_ne.2 he
    clear he
    generalize exF xs i c = r at *
    obtain ⟨Y, m, er⟩ := r
    go_enter Tryz.func29, Tryz.ntmps29
    go_wp2_with fail
    refine HX.out.mono ?_
    rintro e w2 ⟨Z2, rfl, l2, m2⟩
    have L2 := hid l2; have M2 := hid m2
    clear l2 m2 HX HF
    go_wp2_with fail
    go_ret2
    exact ⟨Z2, rfl, L2.out, M2.out⟩
end
end Go.Proofs.YtkgobglmkhkbbaaGreatDoor

/- schedule: Begin's variables, and what lays a term as long as there is no error. -/
namespace Go.KK
open Go.RowKit
set_option linter.unusedVariables false
set_option linter.unusedSimpArgs false
/-- One step more. -/
def rnS (R : List ND × List Int × Int) (f : List Int → List ND → Rs) : List ND × List Int × Int :=
  if R.2.2 = 0 then (if (f R.2.1 R.1).2.2 = 0 then ((f R.2.1 R.1).1, R.2.1 ++ [(f R.2.1 R.1).2.1], 0) else ((f R.2.1 R.1).1, R.2.1, (f R.2.1 R.1).2.2)) else R
theorem run_snoc : ∀ (fs : List (List Int → List ND → Rs)) (f : List Int → List ND → Rs) (xs : List ND) (acc : List Int), runF xs acc (fs ++ [f]) = rnS (runF xs acc fs) f
  | [], f, xs, acc => by
    show (if _ then _ else _) = rnS (xs, acc, 0) f
    unfold rnS
    rw [if_pos rfl]
    rfl
  | g :: fs, f, xs, acc => by
    by_cases h : (g acc xs).2.2 = 0
    · rw [List.cons_append, run_cons_ok h, run_cons_ok h]
      exact run_snoc fs f _ _
    · rw [List.cons_append, run_cons_no h, run_cons_no h]
      unfold rnS
      rw [if_neg (show ¬ ((g acc xs).1, acc, (g acc xs).2.2).2.2 = 0 from h)]
end Go.KK
namespace Go.Proofs.YtkgobglmkhkbbaaGreatDoor
open Go.RowKit Go.KK Go.Shelf Go.Maps

/-- The variables of Begin, block by block. -/
def BgB (sa : Nat) (j p x : Int) (ep : List Int) (first mem ext : Int) : Nat → Array Value
  | 0 => #[.pointer (some ⟨sa, 0, none⟩)] | 1 => #[.int .i64 j] | 2 => #[.int .i64 p] | 3 => #[.int .i64 x] | 4 => ((List.replicate 11 (0 : Int)).map (.int .i64)).toArray
  | 5 => (ep.map (.int .i64)).toArray | 6 => #[.int .i64 first] | 7 => #[.int .i64 mem] | 8 => #[.int .i64 ext] | _ => #[]
def BgT : Nat → TypeId
  | 0 => 25 | 4 => 30 | 5 => 30 | 6 => 31 | _ => 3
structure BgM (W : World) (Z : Nat → Prop) (H : Nat) (B : Nat → Array Value) : Prop where
  at' : ∀ k, k < 9 → W.heap[H + k]? = some (.cells (B k) (BgT k) (0, 0))
  nz : ∀ k, k < 9 → ¬ Z (H + k)
section
variable {w0 W W' : World} {Z Z' : Nat → Prop} {sa H : Nat} {xs xs' : List ND} {B B' : Nat → Array Value}
theorem BgM.lt (h : BgM W Z H B) {k : Nat} (hk : k < 9) : H + k < W.heap.size := (Array.getElem?_eq_some_iff.1 (h.at' k hk)).1
theorem BgM.mv (h : BgM W Z H B) (m : Mv Z W Z' W') : BgM W' Z' H B :=
  ⟨fun k hk => (m.t.block _ (h.lt hk) (h.nz k hk)).trans (h.at' k hk), fun k hk hz => (m.n _ hz).elim (h.nz k hk) fun h' => by have := h.lt hk; omega⟩
theorem BgM.cell (h : BgM W Z H B) {k o : Nat} {v : Value} (hk : k < 9) (hv : (B k)[o]? = some v) : W.cell? ⟨H + k, o, none⟩ = some v := by
  rw [cell_of_row W (H + k) o _ _ (0, 0) (h.at' k hk)]
  exact hv
theorem BgM.frozen (h : BgM W Z H B) {k o : Nat} (hk : k < 9) : W.frozen? ⟨H + k, o, none⟩ = false := frozen_of_row W (H + k) o _ _ (h.at' k hk)
/-- One of the variables is turned. -/
theorem BgM.put (h : BgM W Z H B) {i o : Nat} (hi : i < 9) (v : Value) (he : ∀ k, k < 9 → k ≠ i → B' k = B k) (hn : B' i = (B i).setIfInBounds o v) : BgM (W.setCell ⟨H + i, o, none⟩ v) Z H B' := by
  refine ⟨fun k hk => ?_, h.nz⟩
  by_cases e : k = i
  · subst e
    rw [heap_setCell_same W (H + k) o _ _ _ (h.at' k hk), hn]
  · rw [Below.heap_setCell W ⟨H + i, o, none⟩ v (H + k) (by simp; omega), he k hk e]
    exact h.at' k hk
theorem LA.put1 (h : LA w0 W Z sa xs) {b o : Nat} (v : Value) (hz : ¬ Z b) (hb : w0.heap.size ≤ b) : LA w0 (W.setCell ⟨b, o, none⟩ v) Z sa xs := by
  have ht : Turn (fun k => k = b) W (W.setCell ⟨b, o, none⟩ v) := Turn.setCell v (.inl rfl)
  exact ⟨h.ar.turn ht fun k hk e => hz (e ▸ hk), h.z, h.bl.trans (ht.below (fun k e => e ▸ hb) h.bl.size)⟩
end
/-- What 'do' leaves: the step was taken, or an error had come ahead. -/
def DoS (w0 W : World) (Z : Nat → Prop) (sa H : Nat) (j p x : Int) (R : List ND × List Int × Int) (f : List Int → List ND → Rs) (ep ep' : Int → List Int) (mem mem' ext ext' : Int → Int) (e : Ending) (w' : World) : Prop :=
  e = .returned (.tuple #[]) ∧ ∃ Z' : Nat → Prop, LA w0 w' Z' sa (rnS R f).1 ∧ Turn (fun b => Z b ∨ H ≤ b) W w' ∧ (∀ b, Z' b → Z b ∨ W.heap.size ≤ b) ∧ ((R.2.2 = 0 → BgM w' Z' H (BgB sa j p x (ep' (f R.2.1 R.1).2.1) (f R.2.1 R.1).2.2 (mem' (f R.2.1 R.1).2.1) (ext' (f R.2.1 R.1).2.1))) ∧ (R.2.2 ≠ 0 → BgM w' Z' H (BgB sa j p x (ep 0) R.2.2 (mem 0) (ext 0))))
section
variable {w0 W : World} {Z : Nat → Prop} {sa H : Nat} {j p x : Int} {R : List ND × List Int × Int} {f : List Int → List ND → Rs} {ep : List Int} {mem ext : Int}
set_option maxHeartbeats 2000000 in
set_option maxRecDepth 100000 in
theorem do_2 (h : LA w0 W Z sa R.1) (hb : BgM W Z H (BgB sa j p x ep R.2.2 mem ext)) (hB : w0.heap.size ≤ H) {i q : Nat} {v0 : Value} (hi : i < 9) (hi6 : i ≠ 6) (hq : (BgB sa j p x ep R.2.2 mem ext i)[q]? = some v0)
    (ep' : Int → List Int) (mem' ext' : Int → Int)
    (hput : ∀ (a e : Int) k, k < 9 → k ≠ i → k ≠ 6 → BgB sa j p x (ep' a) e (mem' a) (ext' a) k = BgB sa j p x ep R.2.2 mem ext k) (hput2 : ∀ a e : Int, BgB sa j p x (ep' a) e (mem' a) (ext' a) i = (BgB sa j p x ep R.2.2 mem ext i).setIfInBounds q (.int .i64 a))
    (hmk : R.2.2 = 0 → Calls Tryz.prog 61 #[.pointer (some ⟨H, 0, none⟩), .pointer (some ⟨H + 1, 0, none⟩), .pointer (some ⟨H + 2, 0, none⟩)] W (LrS w0 W Z sa (f R.2.1 R.1))) :
    Calls Tryz.prog 60 #[.pointer (some ⟨H + i, q, none⟩), .func (.func 61) #[] #[.pointer (some ⟨H, 0, none⟩), .pointer (some ⟨H + 1, 0, none⟩), .pointer (some ⟨H + 2, 0, none⟩)], .pointer (some ⟨H + 6, 0, none⟩)] W (DoS w0 W Z sa H j p x R f (fun _ => ep) ep' (fun _ => mem) mem' (fun _ => ext) ext') := by
  have hf := hb.cell (k := 6) (o := 0) (by omega) (show (BgB sa j p x ep R.2.2 mem ext 6)[0]? = some (.int .i64 R.2.2) from rfl)
  by_cases he : R.2.2 = 0
  · have HM := hid (hmk he)
    have HR := hid (show (rnS R f).1 = (f R.2.1 R.1).1 by unfold rnS; rw [if_pos he]; split <;> rfl)
    have HBB := hid hb
    have HE := hid he
    rw [he] at hf
    clear h hmk he hb
    unfold DoS
    generalize f R.2.1 R.1 = r at *
    go_enter Tryz.func60, Tryz.ntmps60
    go_wp2_with fail
    refine HM.out.mono ?_
    rintro e w2 ⟨Z2, rfl, l2, m2⟩
    have B2 := hid (HBB.out.mv m2)
    have L2 := hid l2
    have c1 := B2.out.cell hi hq
    have z1 := B2.out.frozen (o := q) hi
    have c2 := B2.out.cell (k := 6) (o := 0) (by omega) (show (BgB sa j p x ep R.2.2 mem ext 6)[0]? = some (.int .i64 R.2.2) from rfl)
    have z2 := B2.out.frozen (k := 6) (o := 0) (by omega)
    have hi69 : (6 : Nat) < 9 := by decide
    have HP := hid (show BgM ((w2.setCell ⟨H + i, q, none⟩ (.int .i64 r.2.1)).setCell ⟨H + 6, 0, none⟩ (.int .i64 r.2.2)) Z2 H (BgB sa j p x (ep' r.2.1) r.2.2 (mem' r.2.1) (ext' r.2.1)) from by
      have s1 := B2.out.put (B' := fun k => if k = i then (BgB sa j p x ep R.2.2 mem ext i).setIfInBounds q (.int .i64 r.2.1) else BgB sa j p x ep R.2.2 mem ext k) hi (.int .i64 r.2.1) (fun k _ hne => if_neg hne) (if_pos rfl)
      refine s1.put hi69 (.int .i64 r.2.2) (fun k hk hne => ?_) ?_
      · by_cases e : k = i
        · subst e
          rw [if_pos rfl]; exact hput2 _ _
        · rw [if_neg e]; exact hput _ _ k hk e hne
      · rw [if_neg (Ne.symm hi6)]; rfl)
    have hne6 : ¬ (H + i = H + 6) := by omega
    have HL := hid ((L2.out.put1 (b := H + i) (o := q) (.int .i64 r.2.1) (B2.out.nz i hi) (by omega)).put1 (b := H + 6) (o := 0) (.int .i64 r.2.2) (B2.out.nz 6 hi69) (by omega))
    have HTU := hid (show Turn (fun b => Z b ∨ H ≤ b) W ((w2.setCell ⟨H + i, q, none⟩ (.int .i64 r.2.1)).setCell ⟨H + 6, 0, none⟩ (.int .i64 r.2.2)) from
      ((m2.t.mono (fun k hk => .inl hk)).trans (Turn.setCell (F := fun b => Z b ∨ H ≤ b) (a := ⟨H + i, q, none⟩) (.int .i64 r.2.1) (.inl (.inr (by simp)))) (fun k hk => .inl hk)).trans (Turn.setCell (F := fun b => Z b ∨ H ≤ b) (a := ⟨H + 6, 0, none⟩) (.int .i64 r.2.2) (.inl (.inr (by simp)))) (fun k hk => .inl hk))
    have HNN := hid m2.n
    clear l2 m2 B2 L2 HM HBB hput hput2
    go_wp2_with fail
    go_end0
    exact ⟨rfl, Z2, by rw [HR.out]; exact HL.out, HTU.out, HNN.out, fun _ => HP.out, fun hn => absurd HE.out hn⟩
  · have HR := hid (show rnS R f = R by unfold rnS; rw [if_neg he])
    have HBB := hid hb
    have HL := hid h
    have HE := hid he
    have hne : (R.2.2 == 0) = false := beq_eq_false_iff_ne.2 he
    clear h hmk he hb hput hput2
    unfold DoS
    rw [HR.out]
    generalize f R.2.1 R.1 = r at *
    go_enter Tryz.func60, Tryz.ntmps60
    go_wp2_with fail
    go_end0
    exact ⟨rfl, Z, HL.out, Turn.refl _ _, fun _ h => .inl h, fun hn => absurd hn HE.out, fun _ => HBB.out⟩
set_option maxHeartbeats 2000000 in
set_option maxRecDepth 100000 in
theorem do_3 (h : LA w0 W Z sa R.1) (hb : BgM W Z H (BgB sa j p x ep R.2.2 mem ext)) (hB : w0.heap.size ≤ H) {i q : Nat} {v0 : Value} (hi : i < 9) (hi6 : i ≠ 6) (hq : (BgB sa j p x ep R.2.2 mem ext i)[q]? = some v0)
    (ep' : Int → List Int) (mem' ext' : Int → Int)
    (hput : ∀ (a e : Int) k, k < 9 → k ≠ i → k ≠ 6 → BgB sa j p x (ep' a) e (mem' a) (ext' a) k = BgB sa j p x ep R.2.2 mem ext k) (hput2 : ∀ a e : Int, BgB sa j p x (ep' a) e (mem' a) (ext' a) i = (BgB sa j p x ep R.2.2 mem ext i).setIfInBounds q (.int .i64 a))
    (hmk : R.2.2 = 0 → Calls Tryz.prog 62 #[.pointer (some ⟨H, 0, none⟩), .pointer (some ⟨H + 7, 0, none⟩)] W (LrS w0 W Z sa (f R.2.1 R.1))) :
    Calls Tryz.prog 60 #[.pointer (some ⟨H + i, q, none⟩), .func (.func 62) #[] #[.pointer (some ⟨H, 0, none⟩), .pointer (some ⟨H + 7, 0, none⟩)], .pointer (some ⟨H + 6, 0, none⟩)] W (DoS w0 W Z sa H j p x R f (fun _ => ep) ep' (fun _ => mem) mem' (fun _ => ext) ext') := by
  have hf := hb.cell (k := 6) (o := 0) (by omega) (show (BgB sa j p x ep R.2.2 mem ext 6)[0]? = some (.int .i64 R.2.2) from rfl)
  by_cases he : R.2.2 = 0
  · have HM := hid (hmk he)
    have HR := hid (show (rnS R f).1 = (f R.2.1 R.1).1 by unfold rnS; rw [if_pos he]; split <;> rfl)
    have HBB := hid hb
    have HE := hid he
    rw [he] at hf
    clear h hmk he hb
    unfold DoS
    generalize f R.2.1 R.1 = r at *
    go_enter Tryz.func60, Tryz.ntmps60
    go_wp2_with fail
    refine HM.out.mono ?_
    rintro e w2 ⟨Z2, rfl, l2, m2⟩
    have B2 := hid (HBB.out.mv m2)
    have L2 := hid l2
    have c1 := B2.out.cell hi hq
    have z1 := B2.out.frozen (o := q) hi
    have c2 := B2.out.cell (k := 6) (o := 0) (by omega) (show (BgB sa j p x ep R.2.2 mem ext 6)[0]? = some (.int .i64 R.2.2) from rfl)
    have z2 := B2.out.frozen (k := 6) (o := 0) (by omega)
    have hi69 : (6 : Nat) < 9 := by decide
    have HP := hid (show BgM ((w2.setCell ⟨H + i, q, none⟩ (.int .i64 r.2.1)).setCell ⟨H + 6, 0, none⟩ (.int .i64 r.2.2)) Z2 H (BgB sa j p x (ep' r.2.1) r.2.2 (mem' r.2.1) (ext' r.2.1)) from by
      have s1 := B2.out.put (B' := fun k => if k = i then (BgB sa j p x ep R.2.2 mem ext i).setIfInBounds q (.int .i64 r.2.1) else BgB sa j p x ep R.2.2 mem ext k) hi (.int .i64 r.2.1) (fun k _ hne => if_neg hne) (if_pos rfl)
      refine s1.put hi69 (.int .i64 r.2.2) (fun k hk hne => ?_) ?_
      · by_cases e : k = i
        · subst e
          rw [if_pos rfl]; exact hput2 _ _
        · rw [if_neg e]; exact hput _ _ k hk e hne
      · rw [if_neg (Ne.symm hi6)]; rfl)
    have hne6 : ¬ (H + i = H + 6) := by omega
    have HL := hid ((L2.out.put1 (b := H + i) (o := q) (.int .i64 r.2.1) (B2.out.nz i hi) (by omega)).put1 (b := H + 6) (o := 0) (.int .i64 r.2.2) (B2.out.nz 6 hi69) (by omega))
    have HTU := hid (show Turn (fun b => Z b ∨ H ≤ b) W ((w2.setCell ⟨H + i, q, none⟩ (.int .i64 r.2.1)).setCell ⟨H + 6, 0, none⟩ (.int .i64 r.2.2)) from
      ((m2.t.mono (fun k hk => .inl hk)).trans (Turn.setCell (F := fun b => Z b ∨ H ≤ b) (a := ⟨H + i, q, none⟩) (.int .i64 r.2.1) (.inl (.inr (by simp)))) (fun k hk => .inl hk)).trans (Turn.setCell (F := fun b => Z b ∨ H ≤ b) (a := ⟨H + 6, 0, none⟩) (.int .i64 r.2.2) (.inl (.inr (by simp)))) (fun k hk => .inl hk))
    have HNN := hid m2.n
    clear l2 m2 B2 L2 HM HBB hput hput2
    go_wp2_with fail
    go_end0
    exact ⟨rfl, Z2, by rw [HR.out]; exact HL.out, HTU.out, HNN.out, fun _ => HP.out, fun hn => absurd HE.out hn⟩
  · have HR := hid (show rnS R f = R by unfold rnS; rw [if_neg he])
    have HBB := hid hb
    have HL := hid h
    have HE := hid he
    have hne : (R.2.2 == 0) = false := beq_eq_false_iff_ne.2 he
    clear h hmk he hb hput hput2
    unfold DoS
    rw [HR.out]
    generalize f R.2.1 R.1 = r at *
    go_enter Tryz.func60, Tryz.ntmps60
    go_wp2_with fail
    go_end0
    exact ⟨rfl, Z, HL.out, Turn.refl _ _, fun _ h => .inl h, fun hn => absurd hn HE.out, fun _ => HBB.out⟩
set_option maxHeartbeats 2000000 in
set_option maxRecDepth 100000 in
theorem do_4 (h : LA w0 W Z sa R.1) (hb : BgM W Z H (BgB sa j p x ep R.2.2 mem ext)) (hB : w0.heap.size ≤ H) {i q : Nat} {v0 : Value} (hi : i < 9) (hi6 : i ≠ 6) (hq : (BgB sa j p x ep R.2.2 mem ext i)[q]? = some v0)
    (ep' : Int → List Int) (mem' ext' : Int → Int)
    (hput : ∀ (a e : Int) k, k < 9 → k ≠ i → k ≠ 6 → BgB sa j p x (ep' a) e (mem' a) (ext' a) k = BgB sa j p x ep R.2.2 mem ext k) (hput2 : ∀ a e : Int, BgB sa j p x (ep' a) e (mem' a) (ext' a) i = (BgB sa j p x ep R.2.2 mem ext i).setIfInBounds q (.int .i64 a))
    (hmk : R.2.2 = 0 → Calls Tryz.prog 64 #[.pointer (some ⟨H, 0, none⟩), .pointer (some ⟨H + 7, 0, none⟩), .pointer (some ⟨H + 3, 0, none⟩)] W (LrS w0 W Z sa (f R.2.1 R.1))) :
    Calls Tryz.prog 60 #[.pointer (some ⟨H + i, q, none⟩), .func (.func 64) #[] #[.pointer (some ⟨H, 0, none⟩), .pointer (some ⟨H + 7, 0, none⟩), .pointer (some ⟨H + 3, 0, none⟩)], .pointer (some ⟨H + 6, 0, none⟩)] W (DoS w0 W Z sa H j p x R f (fun _ => ep) ep' (fun _ => mem) mem' (fun _ => ext) ext') := by
  have hf := hb.cell (k := 6) (o := 0) (by omega) (show (BgB sa j p x ep R.2.2 mem ext 6)[0]? = some (.int .i64 R.2.2) from rfl)
  by_cases he : R.2.2 = 0
  · have HM := hid (hmk he)
    have HR := hid (show (rnS R f).1 = (f R.2.1 R.1).1 by unfold rnS; rw [if_pos he]; split <;> rfl)
    have HBB := hid hb
    have HE := hid he
    rw [he] at hf
    clear h hmk he hb
    unfold DoS
    generalize f R.2.1 R.1 = r at *
    go_enter Tryz.func60, Tryz.ntmps60
    go_wp2_with fail
    refine HM.out.mono ?_
    rintro e w2 ⟨Z2, rfl, l2, m2⟩
    have B2 := hid (HBB.out.mv m2)
    have L2 := hid l2
    have c1 := B2.out.cell hi hq
    have z1 := B2.out.frozen (o := q) hi
    have c2 := B2.out.cell (k := 6) (o := 0) (by omega) (show (BgB sa j p x ep R.2.2 mem ext 6)[0]? = some (.int .i64 R.2.2) from rfl)
    have z2 := B2.out.frozen (k := 6) (o := 0) (by omega)
    have hi69 : (6 : Nat) < 9 := by decide
    have HP := hid (show BgM ((w2.setCell ⟨H + i, q, none⟩ (.int .i64 r.2.1)).setCell ⟨H + 6, 0, none⟩ (.int .i64 r.2.2)) Z2 H (BgB sa j p x (ep' r.2.1) r.2.2 (mem' r.2.1) (ext' r.2.1)) from by
      have s1 := B2.out.put (B' := fun k => if k = i then (BgB sa j p x ep R.2.2 mem ext i).setIfInBounds q (.int .i64 r.2.1) else BgB sa j p x ep R.2.2 mem ext k) hi (.int .i64 r.2.1) (fun k _ hne => if_neg hne) (if_pos rfl)
      refine s1.put hi69 (.int .i64 r.2.2) (fun k hk hne => ?_) ?_
      · by_cases e : k = i
        · subst e
          rw [if_pos rfl]; exact hput2 _ _
        · rw [if_neg e]; exact hput _ _ k hk e hne
      · rw [if_neg (Ne.symm hi6)]; rfl)
    have hne6 : ¬ (H + i = H + 6) := by omega
    have HL := hid ((L2.out.put1 (b := H + i) (o := q) (.int .i64 r.2.1) (B2.out.nz i hi) (by omega)).put1 (b := H + 6) (o := 0) (.int .i64 r.2.2) (B2.out.nz 6 hi69) (by omega))
    have HTU := hid (show Turn (fun b => Z b ∨ H ≤ b) W ((w2.setCell ⟨H + i, q, none⟩ (.int .i64 r.2.1)).setCell ⟨H + 6, 0, none⟩ (.int .i64 r.2.2)) from
      ((m2.t.mono (fun k hk => .inl hk)).trans (Turn.setCell (F := fun b => Z b ∨ H ≤ b) (a := ⟨H + i, q, none⟩) (.int .i64 r.2.1) (.inl (.inr (by simp)))) (fun k hk => .inl hk)).trans (Turn.setCell (F := fun b => Z b ∨ H ≤ b) (a := ⟨H + 6, 0, none⟩) (.int .i64 r.2.2) (.inl (.inr (by simp)))) (fun k hk => .inl hk))
    have HNN := hid m2.n
    clear l2 m2 B2 L2 HM HBB hput hput2
    go_wp2_with fail
    go_end0
    exact ⟨rfl, Z2, by rw [HR.out]; exact HL.out, HTU.out, HNN.out, fun _ => HP.out, fun hn => absurd HE.out hn⟩
  · have HR := hid (show rnS R f = R by unfold rnS; rw [if_neg he])
    have HBB := hid hb
    have HL := hid h
    have HE := hid he
    have hne : (R.2.2 == 0) = false := beq_eq_false_iff_ne.2 he
    clear h hmk he hb hput hput2
    unfold DoS
    rw [HR.out]
    generalize f R.2.1 R.1 = r at *
    go_enter Tryz.func60, Tryz.ntmps60
    go_wp2_with fail
    go_end0
    exact ⟨rfl, Z, HL.out, Turn.refl _ _, fun _ h => .inl h, fun hn => absurd hn HE.out, fun _ => HBB.out⟩
set_option maxHeartbeats 2000000 in
set_option maxRecDepth 100000 in
theorem do_5 (h : LA w0 W Z sa R.1) (hb : BgM W Z H (BgB sa j p x ep R.2.2 mem ext)) (hB : w0.heap.size ≤ H) {i q : Nat} {tb : Nat} {v0 : Value} (hi : i < 9) (hi6 : i ≠ 6) (hq : (BgB sa j p x ep R.2.2 mem ext i)[q]? = some v0)
    (ep' : Int → List Int) (mem' ext' : Int → Int)
    (hput : ∀ (a e : Int) k, k < 9 → k ≠ i → k ≠ 6 → BgB sa j p x (ep' a) e (mem' a) (ext' a) k = BgB sa j p x ep R.2.2 mem ext k) (hput2 : ∀ a e : Int, BgB sa j p x (ep' a) e (mem' a) (ext' a) i = (BgB sa j p x ep R.2.2 mem ext i).setIfInBounds q (.int .i64 a))
    (hmk : R.2.2 = 0 → Calls Tryz.prog 66 #[.pointer (some ⟨H, 0, none⟩), .pointer (some ⟨H + 5, 0, none⟩), .pointer (some ⟨tb, 0, none⟩)] W (LrS w0 W Z sa (f R.2.1 R.1))) :
    Calls Tryz.prog 60 #[.pointer (some ⟨H + i, q, none⟩), .func (.func 66) #[] #[.pointer (some ⟨H, 0, none⟩), .pointer (some ⟨H + 5, 0, none⟩), .pointer (some ⟨tb, 0, none⟩)], .pointer (some ⟨H + 6, 0, none⟩)] W (DoS w0 W Z sa H j p x R f (fun _ => ep) ep' (fun _ => mem) mem' (fun _ => ext) ext') := by
  have hf := hb.cell (k := 6) (o := 0) (by omega) (show (BgB sa j p x ep R.2.2 mem ext 6)[0]? = some (.int .i64 R.2.2) from rfl)
  by_cases he : R.2.2 = 0
  · have HM := hid (hmk he)
    have HR := hid (show (rnS R f).1 = (f R.2.1 R.1).1 by unfold rnS; rw [if_pos he]; split <;> rfl)
    have HBB := hid hb
    have HE := hid he
    rw [he] at hf
    clear h hmk he hb
    unfold DoS
    generalize f R.2.1 R.1 = r at *
    go_enter Tryz.func60, Tryz.ntmps60
    go_wp2_with fail
    refine HM.out.mono ?_
    rintro e w2 ⟨Z2, rfl, l2, m2⟩
    have B2 := hid (HBB.out.mv m2)
    have L2 := hid l2
    have c1 := B2.out.cell hi hq
    have z1 := B2.out.frozen (o := q) hi
    have c2 := B2.out.cell (k := 6) (o := 0) (by omega) (show (BgB sa j p x ep R.2.2 mem ext 6)[0]? = some (.int .i64 R.2.2) from rfl)
    have z2 := B2.out.frozen (k := 6) (o := 0) (by omega)
    have hi69 : (6 : Nat) < 9 := by decide
    have HP := hid (show BgM ((w2.setCell ⟨H + i, q, none⟩ (.int .i64 r.2.1)).setCell ⟨H + 6, 0, none⟩ (.int .i64 r.2.2)) Z2 H (BgB sa j p x (ep' r.2.1) r.2.2 (mem' r.2.1) (ext' r.2.1)) from by
      have s1 := B2.out.put (B' := fun k => if k = i then (BgB sa j p x ep R.2.2 mem ext i).setIfInBounds q (.int .i64 r.2.1) else BgB sa j p x ep R.2.2 mem ext k) hi (.int .i64 r.2.1) (fun k _ hne => if_neg hne) (if_pos rfl)
      refine s1.put hi69 (.int .i64 r.2.2) (fun k hk hne => ?_) ?_
      · by_cases e : k = i
        · subst e
          rw [if_pos rfl]; exact hput2 _ _
        · rw [if_neg e]; exact hput _ _ k hk e hne
      · rw [if_neg (Ne.symm hi6)]; rfl)
    have hne6 : ¬ (H + i = H + 6) := by omega
    have HL := hid ((L2.out.put1 (b := H + i) (o := q) (.int .i64 r.2.1) (B2.out.nz i hi) (by omega)).put1 (b := H + 6) (o := 0) (.int .i64 r.2.2) (B2.out.nz 6 hi69) (by omega))
    have HTU := hid (show Turn (fun b => Z b ∨ H ≤ b) W ((w2.setCell ⟨H + i, q, none⟩ (.int .i64 r.2.1)).setCell ⟨H + 6, 0, none⟩ (.int .i64 r.2.2)) from
      ((m2.t.mono (fun k hk => .inl hk)).trans (Turn.setCell (F := fun b => Z b ∨ H ≤ b) (a := ⟨H + i, q, none⟩) (.int .i64 r.2.1) (.inl (.inr (by simp)))) (fun k hk => .inl hk)).trans (Turn.setCell (F := fun b => Z b ∨ H ≤ b) (a := ⟨H + 6, 0, none⟩) (.int .i64 r.2.2) (.inl (.inr (by simp)))) (fun k hk => .inl hk))
    have HNN := hid m2.n
    clear l2 m2 B2 L2 HM HBB hput hput2
    go_wp2_with fail
    go_end0
    exact ⟨rfl, Z2, by rw [HR.out]; exact HL.out, HTU.out, HNN.out, fun _ => HP.out, fun hn => absurd HE.out hn⟩
  · have HR := hid (show rnS R f = R by unfold rnS; rw [if_neg he])
    have HBB := hid hb
    have HL := hid h
    have HE := hid he
    have hne : (R.2.2 == 0) = false := beq_eq_false_iff_ne.2 he
    clear h hmk he hb hput hput2
    unfold DoS
    rw [HR.out]
    generalize f R.2.1 R.1 = r at *
    go_enter Tryz.func60, Tryz.ntmps60
    go_wp2_with fail
    go_end0
    exact ⟨rfl, Z, HL.out, Turn.refl _ _, fun _ h => .inl h, fun hn => absurd hn HE.out, fun _ => HBB.out⟩
set_option maxHeartbeats 2000000 in
set_option maxRecDepth 100000 in
theorem do_6 (h : LA w0 W Z sa R.1) (hb : BgM W Z H (BgB sa j p x ep R.2.2 mem ext)) (hB : w0.heap.size ≤ H) {i q : Nat} {v0 : Value} (hi : i < 9) (hi6 : i ≠ 6) (hq : (BgB sa j p x ep R.2.2 mem ext i)[q]? = some v0)
    (ep' : Int → List Int) (mem' ext' : Int → Int)
    (hput : ∀ (a e : Int) k, k < 9 → k ≠ i → k ≠ 6 → BgB sa j p x (ep' a) e (mem' a) (ext' a) k = BgB sa j p x ep R.2.2 mem ext k) (hput2 : ∀ a e : Int, BgB sa j p x (ep' a) e (mem' a) (ext' a) i = (BgB sa j p x ep R.2.2 mem ext i).setIfInBounds q (.int .i64 a))
    (hmk : R.2.2 = 0 → Calls Tryz.prog 67 #[.pointer (some ⟨H, 0, none⟩), .pointer (some ⟨H + 8, 0, none⟩)] W (LrS w0 W Z sa (f R.2.1 R.1))) :
    Calls Tryz.prog 60 #[.pointer (some ⟨H + i, q, none⟩), .func (.func 67) #[] #[.pointer (some ⟨H, 0, none⟩), .pointer (some ⟨H + 8, 0, none⟩)], .pointer (some ⟨H + 6, 0, none⟩)] W (DoS w0 W Z sa H j p x R f (fun _ => ep) ep' (fun _ => mem) mem' (fun _ => ext) ext') := by
  have hf := hb.cell (k := 6) (o := 0) (by omega) (show (BgB sa j p x ep R.2.2 mem ext 6)[0]? = some (.int .i64 R.2.2) from rfl)
  by_cases he : R.2.2 = 0
  · have HM := hid (hmk he)
    have HR := hid (show (rnS R f).1 = (f R.2.1 R.1).1 by unfold rnS; rw [if_pos he]; split <;> rfl)
    have HBB := hid hb
    have HE := hid he
    rw [he] at hf
    clear h hmk he hb
    unfold DoS
    generalize f R.2.1 R.1 = r at *
    go_enter Tryz.func60, Tryz.ntmps60
    go_wp2_with fail
    refine HM.out.mono ?_
    rintro e w2 ⟨Z2, rfl, l2, m2⟩
    have B2 := hid (HBB.out.mv m2)
    have L2 := hid l2
    have c1 := B2.out.cell hi hq
    have z1 := B2.out.frozen (o := q) hi
    have c2 := B2.out.cell (k := 6) (o := 0) (by omega) (show (BgB sa j p x ep R.2.2 mem ext 6)[0]? = some (.int .i64 R.2.2) from rfl)
    have z2 := B2.out.frozen (k := 6) (o := 0) (by omega)
    have hi69 : (6 : Nat) < 9 := by decide
    have HP := hid (show BgM ((w2.setCell ⟨H + i, q, none⟩ (.int .i64 r.2.1)).setCell ⟨H + 6, 0, none⟩ (.int .i64 r.2.2)) Z2 H (BgB sa j p x (ep' r.2.1) r.2.2 (mem' r.2.1) (ext' r.2.1)) from by
      have s1 := B2.out.put (B' := fun k => if k = i then (BgB sa j p x ep R.2.2 mem ext i).setIfInBounds q (.int .i64 r.2.1) else BgB sa j p x ep R.2.2 mem ext k) hi (.int .i64 r.2.1) (fun k _ hne => if_neg hne) (if_pos rfl)
      refine s1.put hi69 (.int .i64 r.2.2) (fun k hk hne => ?_) ?_
      · by_cases e : k = i
        · subst e
          rw [if_pos rfl]; exact hput2 _ _
        · rw [if_neg e]; exact hput _ _ k hk e hne
      · rw [if_neg (Ne.symm hi6)]; rfl)
    have hne6 : ¬ (H + i = H + 6) := by omega
    have HL := hid ((L2.out.put1 (b := H + i) (o := q) (.int .i64 r.2.1) (B2.out.nz i hi) (by omega)).put1 (b := H + 6) (o := 0) (.int .i64 r.2.2) (B2.out.nz 6 hi69) (by omega))
    have HTU := hid (show Turn (fun b => Z b ∨ H ≤ b) W ((w2.setCell ⟨H + i, q, none⟩ (.int .i64 r.2.1)).setCell ⟨H + 6, 0, none⟩ (.int .i64 r.2.2)) from
      ((m2.t.mono (fun k hk => .inl hk)).trans (Turn.setCell (F := fun b => Z b ∨ H ≤ b) (a := ⟨H + i, q, none⟩) (.int .i64 r.2.1) (.inl (.inr (by simp)))) (fun k hk => .inl hk)).trans (Turn.setCell (F := fun b => Z b ∨ H ≤ b) (a := ⟨H + 6, 0, none⟩) (.int .i64 r.2.2) (.inl (.inr (by simp)))) (fun k hk => .inl hk))
    have HNN := hid m2.n
    clear l2 m2 B2 L2 HM HBB hput hput2
    go_wp2_with fail
    go_end0
    exact ⟨rfl, Z2, by rw [HR.out]; exact HL.out, HTU.out, HNN.out, fun _ => HP.out, fun hn => absurd HE.out hn⟩
  · have HR := hid (show rnS R f = R by unfold rnS; rw [if_neg he])
    have HBB := hid hb
    have HL := hid h
    have HE := hid he
    have hne : (R.2.2 == 0) = false := beq_eq_false_iff_ne.2 he
    clear h hmk he hb hput hput2
    unfold DoS
    rw [HR.out]
    generalize f R.2.1 R.1 = r at *
    go_enter Tryz.func60, Tryz.ntmps60
    go_wp2_with fail
    go_end0
    exact ⟨rfl, Z, HL.out, Turn.refl _ _, fun _ h => .inl h, fun hn => absurd hn HE.out, fun _ => HBB.out⟩
end
end Go.Proofs.YtkgobglmkhkbbaaGreatDoor

