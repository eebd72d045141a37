import Derived.Test.YtfmkniakfgpgjaaDoorY02
import Derived.Deep.RegionHeld3
import Derived.Laws.ResultCell
import Derived.Test.YtfmkniakfgpgjaaDoorY01
import Derived.Deep.QuietTactic
import Derived.BigQuiet
import Derived.Deep.RegionWith
import Derived.Deep.RegionLaw
import Derived.Lib.ItoaLen
import Derived.Test.YtfmkniakfgpgjaaDoorRows
import Derived.Test.YtfmkniakfgpgjaaDoorShelf
import Derived.Shelf.Spec.SlicesInsert
import Derived.Shelf.Spec.SlicesInsertGrow
/- crypto: of, known, node, Fresh, Blind, Sign. -/
namespace Go.Proofs.YtfmkniakfgpgjaaDoor
open Go.RowKit Go.KK Go.Shelf Go.Maps
set_option linter.unusedVariables false
set_option linter.unusedSimpArgs false

/-- A call that makes the node x. -/
def MkS (w : World) (Z : Nat → Prop) (st : Nat) (xs : List ND) (x : ND) (e : Ending) (w' : World) : Prop := e = .returned (.tuple #[.int .i64 (makI xs x), .int .i64 (makE xs x)]) ∧ ArS w Z st (makT xs x) w'
theorem sla_row {w : World} {T : TypeId} (vs : Array Value) (hm : vs.size ≤ maxLen) : SlA (w.alloc (.cells vs T)) 1 (some ⟨w.heap.size, 0, none⟩) vs.size vs.size vs.toList :=
  ⟨Nat.le_refl _, hm, by simp, fun j u hj => ⟨w.heap.size, 0, rfl, by rw [World.cell?_alloc_at _ _ _ _ rfl, Nat.zero_add]; simpa using hj⟩⟩
theorem i64_lit {n : Int} (h0 : 0 ≤ n) (h1 : n ≤ 200000) : I64 n := ⟨by omega, by omega⟩
theorem ndI_nd {o : Int} {l : List Int} (ho : I64 o) (hl : ∀ i ∈ l, I64 i) : NdI (ndN o l) := ⟨ho, by unfold I64 ndN; simp, hl⟩
theorem ndI_at {n : Int} (h : I64 n) : NdI (atN n) := ⟨by unfold I64 atN; simp, h, fun i hi => by simp [atN] at hi⟩
section
variable (Z : Nat → Prop) (st : Nat) (xs : List ND) (B : Nat) (w : World)
theorem mke_any (x : ND) (A : Option Addr) (c : Nat) (h : AR w Z st xs) (hl : SlA w 1 A x.l.length c (x.l.map (.int .i64))) (hT : Tb B w) (hB : B ≤ w.heap.size) (hx : NdI x) :
    Calls Tryd.prog 26 #[.pointer (some ⟨st, 0, none⟩), .agg #[.int .i64 x.o, .int .i64 x.n, .string x.s, .slice A x.l.length c]] w (MkS w Z st xs x) := by
  obtain ⟨mp, v, qs, h⟩ := h
  exact (make_any Z st mp v xs qs x A c B w h hl hT hB hx).mono fun e w' ⟨h1, h2⟩ => ⟨h1, .of h2⟩
theorem of_any (o : Int) (l : List Int) (A : Option Addr) (c : Nat) (h : AR w Z st xs) (hl : SlA w 1 A l.length c (l.map (.int .i64))) (hT : Tb B w) (hB : B ≤ w.heap.size) (ho : I64 o) (hli : ∀ i ∈ l, I64 i) :
    Calls Tryd.prog 53 #[.pointer (some ⟨st, 0, none⟩), .int .i64 o, .slice A l.length c] w (MkS w Z st xs (ndN o l)) := by
  have HM := hid (mke_any Z st xs B w (ndN o l) A c h hl hT hB (ndI_nd ho hli))
  clear h hl hT
  go_enter Tryd.func53, Tryd.ntmps53
  go_wp2_with fail
  refine HM.out.mono ?_
  rintro e w' ⟨rfl, hs⟩
  have HS := hid hs
  clear hs
  go_wp2_with fail
  go_ret2
  exact ⟨rfl, HS.out⟩
theorem fresh_any (n : Int) (h : AR w Z st xs) (hT : Tb B w) (hB : B ≤ w.heap.size) (hn : I64 n) :
    Calls Tryd.prog 31 #[.pointer (some ⟨st, 0, none⟩), .int .i64 n] w (MkS w Z st xs (atN n)) := by
  have HM := hid (mke_any Z st xs B w (atN n) none 0 h (SlA.nil _ _) hT hB (ndI_at hn))
  clear h hT
  go_enter Tryd.func31, Tryd.ntmps31
  go_wp2_with fail
  refine HM.out.mono ?_
  rintro e w' ⟨rfl, hs⟩
  have HS := hid hs
  clear hs
  go_wp2_with fail
  go_ret2
  exact ⟨rfl, HS.out⟩
theorem two_of {o m d : Int} (h : AR w Z st xs) (hT : Tb B w) (hB : B ≤ w.heap.size) (ho : I64 o) (hm : I64 m) (hd : I64 d) :
    let W := w.alloc (.cells #[.int .i64 m, .int .i64 d] 3)
    Calls Tryd.prog 53 #[.pointer (some ⟨st, 0, none⟩), .int .i64 o, .slice (some ⟨w.heap.size, 0, none⟩) 2 2] W (MkS w Z st xs (ndN o [m, d])) := by
  have hb : Below w.heap.size w (w.alloc (.cells #[.int .i64 m, .int .i64 d] 3)) := (Below.refl _ _).alloc (Nat.le_refl _) _
  refine (of_any Z st xs B _ o [m, d] (some ⟨w.heap.size, 0, none⟩) 2 (h.ext hb) (sla_row #[.int .i64 m, .int .i64 d] (by unfold maxLen; simp)) (hT.on (hb.mono hB)) (by simp; omega) ho (fun i hi => ?_)).mono ?_
  · simp only [List.mem_cons, List.mem_nil_iff, or_false] at hi
    rcases hi with rfl | rfl
    · exact hm
    · exact hd
  · rintro e w' ⟨rfl, hs⟩
    exact ⟨rfl, hs.first hb⟩
theorem blind_any (m d : Int) (h : AR w Z st xs) (hT : Tb B w) (hB : B ≤ w.heap.size) (hm : I64 m) (hd : I64 d) :
    Calls Tryd.prog 32 #[.pointer (some ⟨st, 0, none⟩), .int .i64 m, .int .i64 d] w (MkS w Z st xs (ndN 12 [m, d])) := by
  have HM := hid (two_of Z st xs B w (o := 12) h hT hB (i64_lit (by decide) (by decide)) hm hd)
  clear h hT
  go_enter Tryd.func32, Tryd.ntmps32
  go_wp2_with fail
  refine HM.out.mono ?_
  rintro e w' ⟨rfl, hs⟩
  have HS := hid hs
  clear hs
  go_wp2_with fail
  go_ret2
  exact ⟨rfl, HS.out⟩
theorem sign_any (m d : Int) (h : AR w Z st xs) (hT : Tb B w) (hB : B ≤ w.heap.size) (hm : I64 m) (hd : I64 d) :
    Calls Tryd.prog 35 #[.pointer (some ⟨st, 0, none⟩), .int .i64 m, .int .i64 d] w (MkS w Z st xs (ndN 10 [m, d])) := by
  have HM := hid (two_of Z st xs B w (o := 10) h hT hB (i64_lit (by decide) (by decide)) hm hd)
  clear h hT
  go_enter Tryd.func35, Tryd.ntmps35
  go_wp2_with fail
  refine HM.out.mono ?_
  rintro e w' ⟨rfl, hs⟩
  have HS := hid hs
  clear hs
  go_wp2_with fail
  go_ret2
  exact ⟨rfl, HS.out⟩
/-- Whether a term is of a kind. -/
def ndIs (xs : List ND) (t op : Int) : Bool := nodeE xs t == 0 && (nodeF xs t).o == op
set_option maxHeartbeats 2000000 in
theorem cnode_any (t op : Int) (h : ArV w 85 st xs) :
    Calls Tryd.prog 61 #[.pointer (some ⟨st, 0, none⟩), .int .i64 t, .int .i64 op] w fun e w' => ∃ A c, e = .returned (.tuple #[.agg #[.int .i64 (nodeF xs t).o, .int .i64 (nodeF xs t).n, .string (nodeF xs t).s, .slice A (nodeF xs t).l.length c], .bool (ndIs xs t op)]) ∧ w'.ownsRow w.heap.size 3 1 (.slice A (nodeF xs t).l.length c) (nodeF xs t).l.length ((nodeF xs t).l.map (.int .i64)) ∧ Below w.heap.size w w' := by
  have H := hid h
  have B0 := hid (show Below w.heap.size w (w.alloc (.cells #[.int .i64 0, .int .i64 0, .string ⟨#[]⟩, .slice none 0 0] 60)) from (Below.refl _ _).alloc (Nat.le_refl _) _)
  have X0 := hid (show (w.alloc (.cells #[.int .i64 0, .int .i64 0, .string ⟨#[]⟩, .slice none 0 0] 60)).ownsRow w.heap.size 60 4 (.slice (some ⟨w.heap.size, 0, none⟩) 1 1) 1 [.int .i64 0, .int .i64 0, .string ⟨#[]⟩, .slice none 0 0] from
    ⟨by simp, .inr ⟨w.heap.size, 1, _, rfl, Nat.le_refl _, heap_alloc_new w _, Nat.le_refl _, by decide, rfl, by simp⟩⟩)
  have HN := hid (node_any st xs t _ (H.out.ext B0.out))
  clear h
  unfold ndIs
  generalize nodeF xs t = x at *
  generalize nodeE xs t = ee at *
  go_enter Tryd.func61, Tryd.ntmps61
  go_wp2_with fail
  refine HN.out.mono ?_
  rintro e1 w1 ⟨A, c, rfl, hs, b1⟩
  have HS := hid hs
  have B1 := hid (B0.out.trans (b1.mono B0.out.size))
  have X1 := hid (own_ext X0.out b1)
  have hlt : w.heap.size < w1.heap.size := (X1.out.lt w.heap.size rfl).2
  clear hs b1
  clear HN
  go_upto_region 2 with fail
  have X2 := hid (show (w1.alloc (.cells #[.int .i64 x.o, .int .i64 x.n, .string x.s, .slice A x.l.length c] 60)).ownsRow w1.heap.size 60 4 (.slice (some ⟨w1.heap.size, 0, none⟩) 1 1) 1 [.int .i64 x.o, .int .i64 x.n, .string x.s, .slice A x.l.length c] from
    ⟨by simp, .inr ⟨w1.heap.size, 1, _, rfl, Nat.le_refl _, heap_alloc_new w1 _, Nat.le_refl _, by decide, rfl, by simp⟩⟩)
  have X3 := hid (X1.out.alloc (.cells #[.int .i64 x.o, .int .i64 x.n, .string x.s, .slice A x.l.length c] 60))
  have B2 := hid (B1.out.alloc (by omega) (.cells #[.int .i64 x.o, .int .i64 x.n, .string x.s, .slice A x.l.length c] 60))
  have HS2 := hid (HS.out.alloc (.cells #[.int .i64 x.o, .int .i64 x.n, .string x.s, .slice A x.l.length c] 60))
  refine forget (R := fun W => W = w1.alloc (.cells #[.int .i64 x.o, .int .i64 x.n, .string x.s, .slice A x.l.length c] 60)) ?_ rfl
  intro W hW
  rw [← hW] at X2 X3 B2 HS2
  clear hW
  obtain ⟨⟨k0, k1, k2, k3⟩, f0, f1, f2, f3⟩ := box4 X3.out
  obtain ⟨⟨l0, l1, l2, l3⟩, g0, g1, g2, g3⟩ := box4 X2.out
  have hne1 : ¬ w1.heap.size = w.heap.size := by omega
  have hne2 : ¬ w.heap.size = w1.heap.size := by omega
  have hend : ∀ q : Nat, let W' := ((((W.setCell ⟨w.heap.size, 0, none⟩ (.int .i64 x.o)).setCell ⟨w.heap.size, 1, none⟩ (.int .i64 x.n)).setCell ⟨w.heap.size, 2, none⟩ (.string x.s)).setCell ⟨w.heap.size, 3, none⟩ (.slice A x.l.length c)).drewN q
      (W'.cell? ⟨w.heap.size, 0, none⟩ = some (.int .i64 x.o) ∧ W'.cell? ⟨w.heap.size, 1, none⟩ = some (.int .i64 x.n) ∧ W'.cell? ⟨w.heap.size, 2, none⟩ = some (.string x.s) ∧ W'.cell? ⟨w.heap.size, 3, none⟩ = some (.slice A x.l.length c)) ∧ W'.ownsRow w.heap.size 3 1 (.slice A x.l.length c) x.l.length (x.l.map (.int .i64)) ∧ Below w.heap.size w W' := fun q => by
    have r1 := ((((X3.out.stored 0 (.int .i64 x.o)).1.stored 1 (.int .i64 x.n)).1.stored 2 (.string x.s)).1.stored 3 (.slice A x.l.length c)).1
    refine ⟨(box4 r1).1, ?_, below_drewN ((((B2.out.setCell (p := ⟨w.heap.size, 0, none⟩) (Nat.le_refl _) _).setCell (p := ⟨w.heap.size, 1, none⟩) (Nat.le_refl _) _).setCell (p := ⟨w.heap.size, 2, none⟩) (Nat.le_refl _) _).setCell (p := ⟨w.heap.size, 3, none⟩) (Nat.le_refl _) _) q⟩
    refine own_mono (own_block (w' := ((((W.setCell ⟨w.heap.size, 0, none⟩ (.int .i64 x.o)).setCell ⟨w.heap.size, 1, none⟩ (.int .i64 x.n)).setCell ⟨w.heap.size, 2, none⟩ (.string x.s)).setCell ⟨w.heap.size, 3, none⟩ (.slice A x.l.length c)).drewN q) HS2.out fun b hb => ?_) (by simp)
    have hb1 := (HS2.out.lt b hb).1
    have hb2 : b ≠ w.heap.size := by simp at hb1; omega
    show ((((W.setCell ⟨w.heap.size, 0, none⟩ (.int .i64 x.o)).setCell ⟨w.heap.size, 1, none⟩ (.int .i64 x.n)).setCell ⟨w.heap.size, 2, none⟩ (.string x.s)).setCell ⟨w.heap.size, 3, none⟩ (.slice A x.l.length c)).heap[b]? = _
    rw [Below.heap_setCell _ _ _ b hb2, Below.heap_setCell _ _ _ b hb2, Below.heap_setCell _ _ _ b hb2, Below.heap_setCell _ _ _ b hb2]
  have HEND := hid hend
  clear hend
  rcases he : (ee == 0) with _ | _
  all_goals
    go_region
    obtain ⟨⟨m0, m1, m2, m3⟩, m4, m5⟩ := HEND.out 1
    rw [show ((((W.setCell ⟨w.heap.size, 0, none⟩ (.int .i64 x.o)).setCell ⟨w.heap.size, 1, none⟩ (.int .i64 x.n)).setCell ⟨w.heap.size, 2, none⟩ (.string x.s)).setCell ⟨w.heap.size, 3, none⟩ (.slice A x.l.length c)).drew = ((((W.setCell ⟨w.heap.size, 0, none⟩ (.int .i64 x.o)).setCell ⟨w.heap.size, 1, none⟩ (.int .i64 x.n)).setCell ⟨w.heap.size, 2, none⟩ (.string x.s)).setCell ⟨w.heap.size, 3, none⟩ (.slice A x.l.length c)).drewN 1 from rfl]
    generalize ((((W.setCell ⟨w.heap.size, 0, none⟩ (.int .i64 x.o)).setCell ⟨w.heap.size, 1, none⟩ (.int .i64 x.n)).setCell ⟨w.heap.size, 2, none⟩ (.string x.s)).setCell ⟨w.heap.size, 3, none⟩ (.slice A x.l.length c)).drewN 1 = W9 at *
    have M4 := hid m4; have M5 := hid m5
    clear m4 m5
    go_wp2
  · refine bodyPost_ret (v := .tuple #[.agg #[.int .i64 x.o, .int .i64 x.n, .string x.s, .slice A x.l.length c], .bool false]) ?_ rfl ⟨A, c, rfl, M4.out, M5.out⟩
    rw [results_cell_tmp rfl]
    go_simp
  · refine bodyPost_ret (v := .tuple #[.agg #[.int .i64 x.o, .int .i64 x.n, .string x.s, .slice A x.l.length c], .bool (x.o == op)]) ?_ rfl ⟨A, c, rfl, M4.out, M5.out⟩
    rw [results_cell_tmp rfl]
    go_simp
end
end Go.Proofs.YtfmkniakfgpgjaaDoor

/- the document's term: Digits. -/
namespace Go.Proofs.YtfmkniakfgpgjaaDoor
open Go.RowKit Go.KK
set_option linter.unusedVariables false
set_option linter.unusedSimpArgs false

/-- A number's text. -/
def digS (n : Nat) : ByteArray := ⟨(Lib.decDigits n).toArray⟩
def Dig (n : Int) (w : World) (e : Ending) (w' : World) : Prop := e = .returned (.string (digS n.toNat)) ∧ ∃ m, w' = w.drewN m
theorem dig_small {n : Nat} (h : n < 10) : Lib.decDigits n = [UInt8.ofNat (48 + n)] := by rw [Lib.decDigits]; simp [h]
theorem dig_step {n : Nat} (h : ¬ n < 10) : Lib.decDigits n = Lib.decDigits (n / 10) ++ [UInt8.ofNat (48 + n % 10)] := by
  conv => lhs; rw [Lib.decDigits]
  simp [h]
theorem ext_digit : ∀ d : Nat, d < 10 → ((⟨#[48, 49, 50, 51, 52, 53, 54, 55, 56, 57]⟩ : ByteArray).extract d (d + 1)).data.toList = [UInt8.ofNat (48 + d)] := by decide +kernel
theorem dig_ext {n : Nat} {K : ByteArray} (h : K.data.toList = Lib.decDigits n) : K = digS n := str_ext h
theorem digS_le (n : Nat) (h : n ≤ 9223372036854775807) : (digS n).size ≤ 21 := by
  have := Lib.itoa_length_le (n : Int) (by omega) (by omega)
  unfold Lib.itoa at this
  rw [if_neg (by omega)] at this
  exact this
theorem itoa_nat {n : Int} (h : 0 ≤ n) : Lib.itoa n = Lib.decDigits n.toNat := by unfold Lib.itoa; rw [if_neg (by omega)]
set_option maxHeartbeats 2000000 in
theorem digits_ind (k : Nat) : ∀ (n : Int) (w : World), 0 ≤ n → n ≤ k → n ≤ 9223372036854775807 →
    Calls Tryd.prog 79 #[.int .i64 n] w (Dig n w) := by
  induction k with
  | zero =>
    intro n w h0 hk _
    have hn : n = 0 := by omega
    subst hn
    go_enter Tryd.func79, Tryd.ntmps79
    go_wp2_with fail
    go_ret
    exact ⟨congrArg (fun K => Ending.returned (.string K)) (dig_ext (n := 0) (by decide +kernel)), 0, rfl⟩
  | succ k ih =>
    intro n w h0 hk h63
    by_cases hn : n < 10
    · obtain ⟨j, rfl⟩ := Int.eq_ofNat_of_zero_le h0
      have hj : j < 10 := by omega
      have he := ext_digit j hj
      have HE := hid he
      clear he
      go_enter Tryd.func79, Tryd.ntmps79
      go_wp2_with fail
      go_ret
      refine ⟨?_, 0, rfl⟩
      rw [Int.toNat_natCast]
      exact congrArg (fun K => Ending.returned (.string K)) (dig_ext (by rw [dig_small hj]; exact HE.out))
    · obtain ⟨j, rfl⟩ := Int.eq_ofNat_of_zero_le h0
      have HIH := hid (fun (W : World) => show Calls Tryd.prog 79 #[.int .i64 ((j : Int) / 10)] W (fun e w' => e = .returned (.string (digS (j / 10))) ∧ ∃ m, w' = W.drewN m) from ih ((j : Int) / 10) W (by omega) (by omega) (by omega))
      have HJ := hid (show ¬ j < 10 by omega)
      have HE := hid (ext_digit (j % 10) (Nat.mod_lt _ (by decide)))
      have hd0 : 0 ≤ (j : Int) % 10 := by omega
      have hd1 : (j : Int) % 10 < 10 := by omega
      have hq : (10 : Int) ≠ 0 := by decide
      have hw1 : IntKind.i64.wrap ((j : Int) % 10 + 1) = (j : Int) % 10 + 1 := by rw [IntKind.wrap_i64]; omega
      have hw0 : IntKind.i64.wrap ((j : Int) / 10) = (j : Int) / 10 := by rw [IntKind.wrap_i64]; omega
      have hm : (j : Int).tmod 10 = (j : Int) % 10 := Int.tmod_eq_emod_of_nonneg (by omega)
      have hv : (j : Int).tdiv 10 = (j : Int) / 10 := Int.tdiv_eq_ediv_of_nonneg (by omega)
      have hsl : ∀ W : World, (Instr.slice 9 (.string ⟨#[48, 49, 50, 51, 52, 53, 54, 55, 56, 57]⟩) (some (.int .i64 ((j : Int) % 10))) (some (.int .i64 ((j : Int) % 10 + 1))) none).run Tryd.prog W = .ok (.string ((⟨#[48, 49, 50, 51, 52, 53, 54, 55, 56, 57]⟩ : ByteArray).extract (j % 10) (j % 10 + 1))) W := fun W => by
        have := run_slice_string (P := Tryd.prog) W 9 ⟨#[48, 49, 50, 51, 52, 53, 54, 55, 56, 57]⟩ .i64 .i64 ((j : Int) % 10) ((j : Int) % 10 + 1) Tryd.underlying9 (by omega) (by omega) (by show (j : Int) % 10 + 1 ≤ 10; omega)
        rw [show ((j : Int) % 10).toNat = j % 10 by omega, show ((j : Int) % 10 + 1).toNat = j % 10 + 1 by omega] at this
        exact this
      have hX : ((⟨#[48, 49, 50, 51, 52, 53, 54, 55, 56, 57]⟩ : ByteArray).extract (j % 10) (j % 10 + 1)).size = 1 := by
        show ((⟨#[48, 49, 50, 51, 52, 53, 54, 55, 56, 57]⟩ : ByteArray).extract (j % 10) (j % 10 + 1)).data.toList.length = 1
        rw [HE.out]; rfl
      have hK := digS_le (j / 10) (by omega)
      generalize hXX : (⟨#[48, 49, 50, 51, 52, 53, 54, 55, 56, 57]⟩ : ByteArray).extract (j % 10) (j % 10 + 1) = X at *
      generalize hKK : digS (j / 10) = K at *
      have hcat : ¬ 9223372036854775807 < K.size + X.size := by omega
      have HXX := hid hXX; have HKK := hid hKK
      clear ih hk hXX hKK hX hK
      go_enter Tryd.func79, Tryd.ntmps79
      go_wp2_with fail
      go_quiet ((go_at_call 79; exact Calls.quiet_of (HIH.out _)))
      go_wp2_with fail
      go_ret
      refine ⟨?_, nq, rfl⟩
      rw [Int.toNat_natCast]
      refine congrArg (fun K => Ending.returned (.string K)) (dig_ext ?_)
      rw [dig_step HJ.out, ByteArray.data_append, Array.toList_append, HE.out, ← HKK.out]; rfl
theorem digits_any (n : Int) (w : World) (h0 : 0 ≤ n) (h : n ≤ 9223372036854775807) : Calls Tryd.prog 79 #[.int .i64 n] w (Dig n w) := digits_ind n.toNat n w h0 (by omega) h
end Go.Proofs.YtfmkniakfgpgjaaDoor

/- the document's term: arity, May. -/
namespace Go.Proofs.YtfmkniakfgpgjaaDoor
open Go.RowKit Go.KK Go.Shelf
set_option linter.unusedVariables false
set_option linter.unusedSimpArgs false

/-- The document's arena, at block st. -/
abbrev ArR (w : World) (Z : Nat → Prop) (st mp : Nat) (v : Value) (xs : List ND) (qs : List Value) : Prop := Ar Tryd.prog 60 9 3 78 keyR w Z st mp v xs qs
def arR (o : Int) : Int := match arN o with | some k => (k : Nat) | none => -1
theorem arR_out {o : Int} (h : o < 1 ∨ 13 ≤ o ∨ o = 3) : arR o = -1 := by
  have : arN o = none := by
    unfold arN
    split <;> first | omega | rfl
  unfold arR
  rw [this]
theorem len_eqR (o : Int) (n : Nat) : lenB o n = !((decide (arR o < 0) && (o != 3)) || (decide (0 ≤ arR o) && ((n : Int) != arR o))) := by
  unfold arR lenB
  rcases arN o with _ | k
  · by_cases h : o = 3
    · rw [h]; rfl
    · simp [h, bne]
  · by_cases hk : n = k
    · subst hk
      simp
    · have h2 : ((n : Int) != (k : Int)) = true := bne_iff_ne.2 (by omega)
      have h3 : (n == k) = false := beq_eq_false_iff_ne.2 hk
      simp [h2, h3]
set_option maxHeartbeats 4000000 in
theorem rarity_any (o : Int) (w : World) :
    Calls Tryd.prog 78 #[.int .i64 o] w fun e w' => e = .returned (.int .i64 (arR o)) ∧ w' = w := by
  by_cases hin : 1 ≤ o ∧ o ≤ 12
  · obtain ⟨h1, h2⟩ := hin
    have h3 : o = 1 ∨ o = 2 ∨ o = 3 ∨ o = 4 ∨ o = 5 ∨ o = 6 ∨ o = 7 ∨ o = 8 ∨ o = 9 ∨ o = 10 ∨ o = 11 ∨ o = 12 := by omega
    clear h1 h2
    rcases h3 with rfl | rfl | rfl | rfl | rfl | rfl | rfl | rfl | rfl | rfl | rfl | rfl
    all_goals
      go_enter Tryd.func78, Tryd.ntmps78
      go_wp2
      go_ret
      exact ⟨rfl, rfl⟩
  · have HE := hid (arR_out (o := o) (by omega))
    have e1 : (o == 1) = false := beq_eq_false_iff_ne.2 (by omega)
    have e2 : (o == 2) = false := beq_eq_false_iff_ne.2 (by omega)
    have e4 : (o == 4) = false := beq_eq_false_iff_ne.2 (by omega)
    have e5 : (o == 5) = false := beq_eq_false_iff_ne.2 (by omega)
    have e6 : (o == 6) = false := beq_eq_false_iff_ne.2 (by omega)
    have e7 : (o == 7) = false := beq_eq_false_iff_ne.2 (by omega)
    have e8 : (o == 8) = false := beq_eq_false_iff_ne.2 (by omega)
    have e9 : (o == 9) = false := beq_eq_false_iff_ne.2 (by omega)
    have e10 : (o == 10) = false := beq_eq_false_iff_ne.2 (by omega)
    have e11 : (o == 11) = false := beq_eq_false_iff_ne.2 (by omega)
    have e12 : (o == 12) = false := beq_eq_false_iff_ne.2 (by omega)
    clear hin
    go_enter Tryd.func78, Tryd.ntmps78
    go_wp2
    go_ret
    exact ⟨by rw [HE.out]; rfl, rfl⟩
end Go.Proofs.YtfmkniakfgpgjaaDoor

/- the document's term: May, walked. -/
namespace Go.Proofs.YtfmkniakfgpgjaaDoor
open Go.RowKit Go.KK Go.Shelf
set_option linter.unusedVariables false
set_option linter.unusedSimpArgs false

set_option maxHeartbeats 8000000 in
set_option maxRecDepth 20000 in
theorem rmay_bad (st : Nat) (xs : List ND) (x : ND) (A : Option Addr) (c : Nat) (w : World) (h : ArV w 78 st xs) (hl : SlA w 1 A x.l.length c (x.l.map (.int .i64))) (hb : shB x = false) :
    Calls Tryd.prog 71 #[.pointer (some ⟨st, 0, none⟩), .agg #[.int .i64 x.o, .int .i64 x.n, .string x.s, .slice A x.l.length c]] w fun e w' => e = .returned (.bool (mayB xs x)) ∧ Below w.heap.size w w' := by
  have H := hid h; have HS := hid hl
  have HM := hid (len_eqR x.o x.l.length)
  have B0 := hid (show Below w.heap.size w (w.alloc (.cells #[.int .i64 x.o, .int .i64 x.n, .string x.s, .slice A x.l.length c] 60)) from (Below.refl _ _).alloc (by simp) _)
  have hu : mayB xs x = (lenB x.o x.l.length && decide (x.l.length ≤ 64) && decide (0 ≤ x.n) && decide (x.s.size ≤ 200) && (x.o == 1 || x.n == 0) && (x.o == 2 || x.s.size == 0) && x.l.all (hasB xs) && (x.o != 6 || Go.KK.opAt xs (x.l.getD 1 0) == 2)) := rfl
  have HU := hid hu
  have C0 := hid (show let W := w.alloc (.cells #[.int .i64 x.o, .int .i64 x.n, .string x.s, .slice A x.l.length c] 60)
    W.cell? ⟨w.heap.size, 0, none⟩ = some (.int .i64 x.o) ∧ W.cell? ⟨w.heap.size, 1, none⟩ = some (.int .i64 x.n) ∧ W.cell? ⟨w.heap.size, 2, none⟩ = some (.string x.s) ∧ W.cell? ⟨w.heap.size, 3, none⟩ = some (.slice A x.l.length c) ∧ w.heap.size < W.heap.size by
      refine ⟨?_, ?_, ?_, ?_, by simp⟩
      all_goals (rw [World.cell?_alloc_at _ _ _ _ (by simp)]; rfl))
  clear h hl hu
  go_enter Tryd.func71, Tryd.ntmps71
  go_wp2_with fail
  refine (rarity_any x.o _).mono ?_
  rintro e1 w1 ⟨rfl, hw1⟩
  subst w1
  have B1 := B0
  obtain ⟨k0, k1, k2, k3, hlt⟩ := C0.out
  generalize w.alloc (.cells #[.int .i64 x.o, .int .i64 x.n, .string x.s, .slice A x.l.length c] 60) = w1 at *
  have H1 := hid (H.out.ext B1.out)
  have HS1 := hid (HS.out.ext B1.out)
  clear hlt C0 B0 H HS
  have HK := hid (show 0 ≤ arR x.o ∨ arR x.o = -1 by unfold arR; rcases arN x.o with _ | k; exact .inr rfl; exact .inl (Int.natCast_nonneg k))
  generalize arR x.o = K at *
  by_cases a1 : K < 0 ∧ x.o ≠ 3
  · have HF := hid (show mayB xs x = false by rw [HU.out, HM.out, decide_eq_true a1.1, bne_iff_ne.2 a1.2]; rfl)
    obtain ⟨p1, p2⟩ := a1
    have p3 : (x.o != 3) = true := bne_iff_ne.2 p2
    clear p2
    go_wp2_with fail
    go_ret
    exact ⟨by rw [HF.out]; rfl, B1.out⟩
  have a1' : K < 0 → (x.o != 3) = false := fun hh => by rw [bne_eq_false_iff_eq]; exact Decidable.byContradiction fun h => a1 ⟨hh, h⟩
  by_cases a2 : 0 ≤ K ∧ (x.l.length : Int) ≠ K
  · have a2' : ((x.l.length : Int) != K) = true := bne_iff_ne.2 a2.2
    have HF := hid (show mayB xs x = false by rw [HU.out, HM.out, decide_eq_true a2.1, a2']; simp)
    have a3 := a2.1
    clear a2 a1 a1'
    go_wp2_with fail
    go_ret
    exact ⟨by rw [HF.out]; rfl, B1.out⟩
  have HL := hid (show lenB x.o x.l.length = true by
    rw [HM.out]
    by_cases h0 : 0 ≤ K
    · rw [show ((x.l.length : Int) != K) = false from by rw [bne_eq_false_iff_eq]; omega, decide_eq_false (show ¬ K < 0 by omega)]; simp
    · rw [decide_eq_false h0, a1' (by omega)]; simp)
  have a2' : (0 ≤ K ∧ ((x.l.length : Int) != K) = false) ∨ (K < 0 ∧ (x.o != 3) = false) := by
    by_cases h0 : 0 ≤ K
    · exact .inl ⟨h0, by rw [bne_eq_false_iff_eq]; omega⟩
    · exact .inr ⟨by omega, a1' (by omega)⟩
  clear a1 a2 a1' HK
  by_cases a4 : 64 < x.l.length
  · have HF := hid (show mayB xs x = false by rw [HU.out, decide_eq_false (show ¬ x.l.length ≤ 64 by omega)]; simp)
    have a4' : (64 : Int) < (x.l.length : Int) := by omega
    rcases a2' with ⟨q1, q2⟩ | ⟨q1, q2⟩
    all_goals
      go_wp2_with fail
      go_ret
      exact ⟨by rw [HF.out]; rfl, B1.out⟩
  have a4' : ¬ (64 : Int) < (x.l.length : Int) := by omega
  by_cases b1 : x.o ≠ 1 ∧ x.n ≠ 0
  · have b1a : (x.o != 1) = true := bne_iff_ne.2 b1.1
    have b1b : (x.n != 0) = true := bne_iff_ne.2 b1.2
    have HF := hid (show mayB xs x = false by rw [HU.out, beq_eq_false_iff_ne.2 b1.1, beq_eq_false_iff_ne.2 b1.2]; simp)
    clear b1
    rcases a2' with ⟨q1, q2⟩ | ⟨q1, q2⟩
    all_goals
      go_wp2_with fail
      go_ret
      exact ⟨by rw [HF.out]; rfl, B1.out⟩
  have b1' : (x.o != 1) = false ∨ ((x.o != 1) = true ∧ (x.n != 0) = false) := by
    by_cases h : x.o = 1
    · exact .inl (by rw [bne_eq_false_iff_eq]; exact h)
    · exact .inr ⟨bne_iff_ne.2 h, by rw [bne_eq_false_iff_eq]; omega⟩
  by_cases b2 : x.o ≠ 2 ∧ ¬ x.s.size = 0
  · have b2a : (x.o != 2) = true := bne_iff_ne.2 b2.1
    have b2b := none_no b2.2
    have HF := hid (show mayB xs x = false by rw [HU.out, beq_eq_false_iff_ne.2 b2.1, beq_eq_false_iff_ne.2 b2.2]; simp)
    clear b2
    rcases a2' with ⟨q1, q2⟩ | ⟨q1, q2⟩ <;> rcases b1' with b1' | ⟨b1', b1''⟩
    all_goals
      go_wp2_with fail
      go_ret
      exact ⟨by rw [HF.out]; rfl, B1.out⟩
  have b2' : (x.o != 2) = false ∨ ((x.o != 2) = true ∧ x.s.toList.isEmpty = true) := by
    by_cases h : x.o = 2
    · exact .inl (by rw [bne_eq_false_iff_eq]; exact h)
    · exact .inr ⟨bne_iff_ne.2 h, none_yes (by omega)⟩
  by_cases a5 : x.n < 0
  · have HF := hid (show mayB xs x = false by rw [HU.out, decide_eq_false (show ¬ 0 ≤ x.n by omega)]; simp)
    have ho : x.o = 1 := Decidable.byContradiction fun h => b1 ⟨h, by omega⟩
    have p1 : (x.o != 1) = false := by rw [ho]; rfl
    have p2 : (x.o != 2) = true := by rw [ho]; rfl
    have p3 : x.s.toList.isEmpty = true := none_yes (Decidable.byContradiction fun h => b2 ⟨by omega, h⟩)
    clear b1 b2 b1' b2' ho
    rcases a2' with ⟨q1, q2⟩ | ⟨q1, q2⟩
    all_goals
      go_wp2_with fail
      go_ret
      exact ⟨by rw [HF.out]; rfl, B1.out⟩
  by_cases a6 : 200 < x.s.size
  · have HF := hid (show mayB xs x = false by rw [HU.out, decide_eq_false (show ¬ x.s.size ≤ 200 by omega)]; simp)
    have a6' : (200 : Int) < (x.s.size : Int) := by omega
    have ho : x.o = 2 := Decidable.byContradiction fun h => b2 ⟨h, by omega⟩
    have p1 : (x.o != 1) = true := by rw [ho]; rfl
    have p2 : (x.o != 2) = false := by rw [ho]; rfl
    have p3 : (x.n != 0) = false := by rw [bne_eq_false_iff_eq]; exact Decidable.byContradiction fun h => b1 ⟨by omega, h⟩
    clear b1 b2 b1' b2' ho
    rcases a2' with ⟨q1, q2⟩ | ⟨q1, q2⟩
    all_goals
      go_wp2_with fail
      go_ret
      exact ⟨by rw [HF.out]; rfl, B1.out⟩
  exfalso
  have h1 : (x.o == 1 || x.n == 0) = true := by
    rcases Decidable.em (x.o = 1) with h | h
    · rw [h]; rfl
    · rw [show x.n = 0 by omega]; simp
  have h2 : (x.o == 2 || x.s.size == 0) = true := by
    rcases Decidable.em (x.o = 2) with h | h
    · rw [h]; rfl
    · rw [show x.s.size = 0 by omega]; simp
  unfold shB at hb
  rw [HL.out, h1, h2, decide_eq_true (show x.l.length ≤ 64 by omega), decide_eq_true (show 0 ≤ x.n by omega), decide_eq_true (show x.s.size ≤ 200 by omega)] at hb
  cases hb
end Go.Proofs.YtfmkniakfgpgjaaDoor

/- the document's term: May, walked (2). -/
namespace Go.Proofs.YtfmkniakfgpgjaaDoor
open Go.RowKit Go.KK Go.Shelf
set_option linter.unusedVariables false
set_option linter.unusedSimpArgs false

set_option maxHeartbeats 8000000 in
set_option maxRecDepth 20000 in
theorem rmay_good (st : Nat) (xs : List ND) (x : ND) (A : Option Addr) (c : Nat) (w : World) (h : ArV w 78 st xs) (hl : SlA w 1 A x.l.length c (x.l.map (.int .i64))) (hb : shB x = true) :
    Calls Tryd.prog 71 #[.pointer (some ⟨st, 0, none⟩), .agg #[.int .i64 x.o, .int .i64 x.n, .string x.s, .slice A x.l.length c]] w fun e w' => e = .returned (.bool (mayB xs x)) ∧ Below w.heap.size w w' := by
  have H := hid h; have HS := hid hl
  have HM := hid (len_eqR x.o x.l.length)
  have B0 := hid (show Below w.heap.size w (w.alloc (.cells #[.int .i64 x.o, .int .i64 x.n, .string x.s, .slice A x.l.length c] 60)) from (Below.refl _ _).alloc (by simp) _)
  have hu : mayB xs x = (lenB x.o x.l.length && decide (x.l.length ≤ 64) && decide (0 ≤ x.n) && decide (x.s.size ≤ 200) && (x.o == 1 || x.n == 0) && (x.o == 2 || x.s.size == 0) && x.l.all (hasB xs) && (x.o != 6 || Go.KK.opAt xs (x.l.getD 1 0) == 2)) := rfl
  have C0 := hid (show let W := w.alloc (.cells #[.int .i64 x.o, .int .i64 x.n, .string x.s, .slice A x.l.length c] 60)
    W.cell? ⟨w.heap.size, 0, none⟩ = some (.int .i64 x.o) ∧ W.cell? ⟨w.heap.size, 1, none⟩ = some (.int .i64 x.n) ∧ W.cell? ⟨w.heap.size, 2, none⟩ = some (.string x.s) ∧ W.cell? ⟨w.heap.size, 3, none⟩ = some (.slice A x.l.length c) ∧ w.heap.size < W.heap.size by
      refine ⟨?_, ?_, ?_, ?_, by simp⟩
      all_goals (rw [World.cell?_alloc_at _ _ _ _ (by simp)]; rfl))
  clear h hl hu
  go_enter Tryd.func71, Tryd.ntmps71
  go_wp2_with fail
  refine (rarity_any x.o _).mono ?_
  rintro e1 w1 ⟨rfl, hw1⟩
  subst w1
  have B1 := B0
  obtain ⟨k0, k1, k2, k3, hlt⟩ := C0.out
  generalize w.alloc (.cells #[.int .i64 x.o, .int .i64 x.n, .string x.s, .slice A x.l.length c] 60) = w1 at *
  have H1 := hid (H.out.ext B1.out)
  have HS1 := hid (HS.out.ext B1.out)
  clear hlt C0 B0 H HS
  have HK := hid (show 0 ≤ arR x.o ∨ arR x.o = -1 by unfold arR; rcases arN x.o with _ | k; exact .inr rfl; exact .inl (Int.natCast_nonneg k))
  have HR := hid (show mayB xs x = (x.l.all (hasB xs) && (x.o != 6 || Go.KK.opAt xs (x.l.getD 1 0) == 2)) by
    have : mayB xs x = (shB x && x.l.all (hasB xs) && (x.o != 6 || Go.KK.opAt xs (x.l.getD 1 0) == 2)) := rfl
    rw [this, hb]; rfl)
  have hsh := hb
  unfold shB at hsh
  simp only [Bool.and_eq_true, Bool.or_eq_true, decide_eq_true_eq, beq_iff_eq] at hsh
  obtain ⟨⟨⟨⟨⟨hs1, hs2⟩, hs3⟩, hs4⟩, hs5⟩, hs6⟩ := hsh
  have hcase : ((arR x.o < 0 ∧ (x.o != 3) = false) ∨ (0 ≤ arR x.o ∧ ((x.l.length : Int) != arR x.o) = false)) := by
    rw [HM.out] at hs1
    rcases HK.out with h | h
    · right
      refine ⟨h, ?_⟩
      rw [decide_eq_true h] at hs1
      rcases hq : ((x.l.length : Int) != arR x.o) with _ | _
      · rfl
      · rw [hq] at hs1; simp at hs1
    · left
      refine ⟨by omega, ?_⟩
      rw [h] at hs1
      rcases hq : (x.o != 3) with _ | _
      · rfl
      · rw [hq] at hs1; simp at hs1
  have HL := hid hs1
  have hc2 : ((x.o != 1) = false ∧ (x.o != 2) = true ∧ x.s.toList.isEmpty = true) ∨ ((x.o != 1) = true ∧ (x.n != 0) = false ∧ (x.o != 2) = false) ∨ ((x.o != 1) = true ∧ (x.n != 0) = false ∧ (x.o != 2) = true ∧ x.s.toList.isEmpty = true) := by
    by_cases h1 : x.o = 1
    · exact .inl ⟨by rw [h1]; rfl, by rw [h1]; rfl, none_yes (by omega)⟩
    · by_cases h2 : x.o = 2
      · exact .inr (.inl ⟨by rw [h2]; rfl, by rw [bne_eq_false_iff_eq]; omega, by rw [h2]; rfl⟩)
      · exact .inr (.inr ⟨bne_iff_ne.2 h1, by rw [bne_eq_false_iff_eq]; omega, bne_iff_ne.2 h2, none_yes (by omega)⟩)
  have hc4 : (arR x.o < 0 ∧ (x.o != 3) = false) → ((x.o != 1) = true ∧ (x.n != 0) = false ∧ (x.o != 2) = true ∧ x.s.toList.isEmpty = true) := fun ⟨_, h⟩ => by
    rw [bne_eq_false_iff_eq] at h
    exact ⟨by rw [h]; rfl, by rw [bne_eq_false_iff_eq]; omega, by rw [h]; rfl, none_yes (by omega)⟩
  have a4' : ¬ (64 : Int) < (x.l.length : Int) := by omega
  have a5 : ¬ x.n < 0 := by omega
  have a6' : ¬ (200 : Int) < (x.s.size : Int) := by omega
  have hlen : x.l.length ≤ 2147483648 := by omega
  clear hs1 hs2 hs3 hs4 hs5 hs6 hb HK
  generalize arR x.o = K at *
  have hc : ((K < 0 ∧ (x.o != 3) = false) ∧ ((x.o != 1) = true ∧ (x.n != 0) = false ∧ (x.o != 2) = true ∧ x.s.toList.isEmpty = true)) ∨ ((0 ≤ K ∧ ((x.l.length : Int) != K) = false) ∧ (((x.o != 1) = false ∧ (x.o != 2) = true ∧ x.s.toList.isEmpty = true) ∨ ((x.o != 1) = true ∧ (x.n != 0) = false ∧ (x.o != 2) = false) ∨ ((x.o != 1) = true ∧ (x.n != 0) = false ∧ (x.o != 2) = true ∧ x.s.toList.isEmpty = true))) := by
    rcases hcase with h | h
    · exact .inl ⟨h, hc4 h⟩
    · exact .inr ⟨h, hc2⟩
  clear hcase hc2 hc4
  rcases hc with ⟨⟨q1, q2⟩, p1, p2, p3, p4⟩ | ⟨⟨q1, q2⟩, ⟨p1, p2, p3⟩ | ⟨p1, p2, p3⟩ | ⟨p1, p2, p3, p4⟩⟩
  all_goals
    go_wp2_with fail
    go_loopw [69] (fun i wr => ∃ j : Nat, i = .int .i64 j ∧ j ≤ x.l.length ∧ Hid (x.l.all (hasB xs) = (x.l.drop j).all (hasB xs)) ∧ wr = w1) (fun i _ => x.l.length - (intOf i).toNat)
    case atStart => exact ⟨0, rfl, by omega, hid rfl, rfl⟩
    case round =>
      obtain ⟨j, hi, hj, HJ, hw⟩ := hrel
      subst hi
      subst wr
      clear p1 p2 p3 q1 q2
      obtain ⟨A', c', m', q0, qm, hnd⟩ := H1.out.parts
      have HND := hid hnd
      clear hnd
      by_cases hltj : j < x.l.length
      · obtain ⟨bz, oz, z, hA, hz, hcz⟩ := HS1.out.elemI hltj
        subst hA
        have HD := hid (drop_get hz); clear hz
        by_cases hz0 : z < 0
        · have HF := hid (show mayB xs x = false by
            rw [HR.out, HJ.out, HD.out, List.all_cons, show hasB xs z = false by unfold hasB; rw [decide_eq_false (by omega : ¬ 0 ≤ z)]; rfl]; rfl)
          go_wp2_with fail
          go_ret
          exact ⟨by rw [HF.out]; rfl, B1.out⟩
        · by_cases hz1 : (xs.length : Int) ≤ z
          · have HF := hid (show mayB xs x = false by
              rw [HR.out, HJ.out, HD.out, List.all_cons, show hasB xs z = false by unfold hasB; rw [decide_eq_false (by omega : ¬ z < (xs.length : Int))]; simp]; rfl)
            go_wp2_with fail
            go_ret
            exact ⟨by rw [HF.out]; rfl, B1.out⟩
          · have HF := hid (show x.l.all (hasB xs) = (x.l.drop (j + 1)).all (hasB xs) by
              rw [HJ.out, HD.out, List.all_cons, show hasB xs z = true by unfold hasB; rw [decide_eq_true (by omega : z < (xs.length : Int)), decide_eq_true (by omega : 0 ≤ z)]; rfl]; rfl)
            go_wp2_with fail
            go_roundw
            case rel => exact ⟨j + 1, by go_num, by omega, HF, by first | rfl | trivial⟩
            case measure => simp [intOf]; omega
      · have hall : x.l.all (hasB xs) = true := by rw [HJ.out, List.drop_of_length_le (by omega)]; rfl
        by_cases h6 : x.o = 6
        · have h6' : (x.o != 6) = false := by rw [bne_eq_false_iff_eq]; exact h6
          have hl3 : x.l.length = 3 := by
            have := HL.out
            rw [h6] at this
            simpa [lenB, arN] using this
          obtain ⟨bx, ox, z, hA, hz, hcz⟩ := HS1.out.elemI (k := 1) (by omega)
          have hhz : hasB xs z = true := List.all_eq_true.1 hall z (List.mem_of_getElem? hz)
          unfold hasB at hhz
          simp only [Bool.and_eq_true, decide_eq_true_eq] at hhz
          obtain ⟨hz0, hz1⟩ := hhz
          obtain ⟨k, rfl⟩ := Int.eq_ofNat_of_zero_le hz0
          obtain ⟨bn, on, y, Ay, cy, hA', hy, y0, y1, y2, y3, -⟩ := HND.out.at (j := k) (by omega)
          have HF := hid (show mayB xs x = (y.o == 2) by
            rw [HR.out, hall, h6, List.getD, hz]
            show (_ && Go.KK.opAt xs (k : Int) == 2) = _
            unfold Go.KK.opAt
            rw [Int.toNat_natCast, hy]
            rfl)
          subst hA
          subst hA'
          clear hall hz hy h6
          go_wp2_with fail
          go_quiet (fail)
          go_wp2
          go_ret
          exact ⟨by rw [HF.out]; rfl, below_drewN B1.out _⟩
        · have h6' : (x.o != 6) = true := bne_iff_ne.2 h6
          have HF := hid (show mayB xs x = true by rw [HR.out, hall, h6']; rfl)
          clear hall h6
          go_wp2_with fail
          go_quiet (fail)
          go_wp2
          go_ret
          exact ⟨by rw [HF.out]; rfl, below_drewN B1.out _⟩
theorem rmay_any (st : Nat) (xs : List ND) (x : ND) (A : Option Addr) (c : Nat) (w : World) (h : ArV w 78 st xs) (hl : SlA w 1 A x.l.length c (x.l.map (.int .i64))) :
    Calls Tryd.prog 71 #[.pointer (some ⟨st, 0, none⟩), .agg #[.int .i64 x.o, .int .i64 x.n, .string x.s, .slice A x.l.length c]] w fun e w' => e = .returned (.bool (mayB xs x)) ∧ Below w.heap.size w w' := by
  rcases hb : shB x with _ | _
  · exact rmay_bad st xs x A c w h hl hb
  · exact rmay_good st xs x A c w h hl hb
end Go.Proofs.YtfmkniakfgpgjaaDoor

/- the document's term: a node's text among others. -/
namespace Go.Proofs.YtfmkniakfgpgjaaDoor
open Go.RowKit Go.KK Go.Shelf
set_option linter.unusedVariables false
set_option linter.unusedSimpArgs false

theorem digits_q (n : Int) (w : World) (h0 : 0 ≤ n) (h : n ≤ 9223372036854775807) : Calls Tryd.prog 79 #[.int .i64 n] w fun e w' => e = .returned (.string (digS n.toNat)) ∧ ∃ m, w' = w.drewN m := digits_any n w h0 h
theorem digS_itoa {n : Int} (h : 0 ≤ n) : (digS n.toNat).data.toList = Lib.itoa n := by rw [itoa_nat h]; rfl
theorem digS_sz (n : Int) (h : n ≤ 9223372036854775807) : (digS n.toNat).size ≤ 21 := digS_le _ (by omega)
/-- A text and what is behind it. -/
def TxR (L : List UInt8) (l : List Int) (j : Nat) (S : ByteArray) : Prop := S.data.toList = L ++ joinB (l.take j) ∧ S.size ≤ 300 + 22 * j
set_option maxHeartbeats 4000000 in
set_option maxRecDepth 20000 in
theorem text_any (x : ND) (A : Option Addr) (c : Nat) (w : World) (hl : SlA w 1 A x.l.length c (x.l.map (.int .i64))) (hn : x.l.length ≤ 64) (ho0 : 0 ≤ x.o) (ho : I64 x.o) (hn0 : 0 ≤ x.n) (hn64 : I64 x.n) (hl0 : ∀ i ∈ x.l, 0 ≤ i) (hli : ∀ i ∈ x.l, I64 i) (hs : x.s.size ≤ 200) :
    Calls Tryd.prog 72 #[.agg #[.int .i64 x.o, .int .i64 x.n, .string x.s, .slice A x.l.length c]] w fun e w' => ∃ K : ByteArray, e = .returned (.string K) ∧ K.data.toList = keyR x ∧ Below w.heap.size w w' := by
  have HS := hid hl
  have B0 := hid (show Below w.heap.size w (w.alloc (.cells #[.int .i64 x.o, .int .i64 x.n, .string x.s, .slice A x.l.length c] 60)) from (Below.refl _ _).alloc (Nat.le_refl _) _)
  have HS1 := hid (hl.ext B0.out)
  have C0 := hid (show let W := w.alloc (.cells #[.int .i64 x.o, .int .i64 x.n, .string x.s, .slice A x.l.length c] 60)
    W.cell? ⟨w.heap.size, 0, none⟩ = some (.int .i64 x.o) ∧ W.cell? ⟨w.heap.size, 1, none⟩ = some (.int .i64 x.n) ∧ W.cell? ⟨w.heap.size, 2, none⟩ = some (.string x.s) ∧ W.cell? ⟨w.heap.size, 3, none⟩ = some (.slice A x.l.length c) by
      refine ⟨?_, ?_, ?_, ?_⟩
      all_goals (rw [World.cell?_alloc_at _ _ _ _ rfl]; rfl))
  have HLI := hid (fun i (h : i ∈ x.l) => And.intro (hl0 i h) (hli i h).2)
  have z1 := digS_sz x.o ho.2
  have z2 := digS_sz x.n hn64.2
  have z3 := digS_sz x.s.size (by omega)
  have e1 := digS_itoa ho0
  have e2 := digS_itoa hn0
  have e3 := digS_itoa (n := (x.s.size : Nat)) (by omega)
  have HQ1 := hid (fun (W : World) => digits_q x.o W ho0 ho.2)
  have HQ2 := hid (fun (W : World) => digits_q x.n W hn0 hn64.2)
  have HQ3 := hid (fun (W : World) => digits_q (x.s.size : Nat) W (by omega) (by omega))
  have HKR := hid (show keyR x = Lib.itoa x.o ++ 32 :: (Lib.itoa x.n ++ 32 :: (Lib.itoa x.s.size ++ 32 :: (x.s.data.toList ++ joinB x.l))) from rfl)
  generalize hd1 : digS x.o.toNat = d1 at *
  generalize hd2 : digS x.n.toNat = d2 at *
  generalize hd3 : digS ((x.s.size : Nat) : Int).toNat = d3 at *
  have k1 : ¬ 9223372036854775807 < d1.size + 1 := by omega
  have k2 : ¬ 9223372036854775807 < d1.size + 1 + d2.size := by omega
  have k3 : ¬ 9223372036854775807 < d1.size + 1 + d2.size + 1 := by omega
  have k4 : ¬ 9223372036854775807 < d1.size + 1 + d2.size + 1 + d3.size := by omega
  have k5 : ¬ 9223372036854775807 < d1.size + 1 + d2.size + 1 + d3.size + 1 := by omega
  have k6 : ¬ 9223372036854775807 < d1.size + 1 + d2.size + 1 + d3.size + 1 + x.s.size := by omega
  have HT := hid (show TxR (Lib.itoa x.o ++ 32 :: (Lib.itoa x.n ++ 32 :: (Lib.itoa x.s.size ++ 32 :: x.s.data.toList))) x.l 0 (d1 ++ ⟨#[32]⟩ ++ d2 ++ ⟨#[32]⟩ ++ d3 ++ ⟨#[32]⟩ ++ x.s) by
    refine ⟨?_, ?_⟩
    · simp only [ByteArray.data_append, Array.toList_append, e1, e2, e3, List.take_zero]
      simp [joinB]
    · simp only [ByteArray.size_append]
      have : (⟨#[32]⟩ : ByteArray).size = 1 := rfl
      omega)
  clear hl ho0 ho hn0 hn64 hl0 hli e1 e2 e3 hd1 hd2 hd3 z1 z2 z3
  go_enter Tryd.func72, Tryd.ntmps72
  go_upto_region 1 with fail
  obtain ⟨c0, c1, c2, c3⟩ := C0.out
  generalize w.alloc (.cells #[.int .i64 x.o, .int .i64 x.n, .string x.s, .slice A x.l.length c] 60) = W0 at *
  go_quiet (first
    | (go_at_call 79; with_reducible exact Calls.quiet_of (HQ1.out _))
    | (go_at_call 79; with_reducible exact Calls.quiet_of (HQ2.out _))
    | (go_at_call 79; with_reducible exact Calls.quiet_of (HQ3.out _)))
  generalize d1 ++ ⟨#[32]⟩ ++ d2 ++ ⟨#[32]⟩ ++ d3 ++ ⟨#[32]⟩ ++ x.s = S0 at *
  clear k1 k2 k3 k4 k5 k6
  go_wp2_with fail
  generalize hLL : Lib.itoa x.o ++ 32 :: (Lib.itoa x.n ++ 32 :: (Lib.itoa x.s.size ++ 32 :: x.s.data.toList)) = LL at *
  have HLL := hid hLL
  clear hLL HQ1 HQ2 HQ3 c0 c1 c2 c3 C0
  go_loopw [27, 3] (fun i v wr => ∃ (j : Nat) (S : ByteArray), i = .int .i64 j ∧ v = .string S ∧ j ≤ x.l.length ∧ TxR LL x.l j S ∧ ∃ q, wr = W0.drewN q) (fun i _ _ => x.l.length - (intOf i).toNat)
  case atStart => exact ⟨0, S0, rfl, rfl, Nat.zero_le _, HT.out, _, rfl⟩
  case round =>
    obtain ⟨j, S, hi, hv, hj, ht, q, hw⟩ := hrel
    subst hi; subst hv; subst hw
    have HTS := hid ht
    clear ht
    by_cases hlt : j < x.l.length
    · obtain ⟨b2, o2, z, hA, hz, hc⟩ := (HS1.out.drewN q).elemI hlt
      subst hA
      have HZ := hid hz
      obtain ⟨hz0, hz1⟩ := HLI.out z (List.mem_of_getElem? hz)
      have hzs := digS_sz z hz1
      have hze := digS_itoa hz0
      have HQ := hid (fun (W : World) => digits_q z W hz0 hz1)
      have HZE := hid hze
      have hsz := HTS.out.2
      generalize hdz : digS z.toNat = dz at *
      have k1 : ¬ 9223372036854775807 < 1 + dz.size := by omega
      have k2 : ¬ 9223372036854775807 < S.size + (1 + dz.size) := by omega
      have HT2 := hid (show TxR LL x.l (j + 1) (S ++ (⟨#[32]⟩ ++ dz)) by
        refine ⟨?_, ?_⟩
        · rw [ByteArray.data_append, ByteArray.data_append, Array.toList_append, Array.toList_append, HTS.out.1, hze, take_snoc hz, joinB_snoc]
          simp
        · simp only [ByteArray.size_append]
          have : (⟨#[32]⟩ : ByteArray).size = 1 := rfl
          omega)
      clear hz hze hdz hzs hsz
      go_wp2_with fail
      refine (HQ.out _).mono ?_
      rintro e1 w1 ⟨rfl, q1, hw1⟩
      rw [World.drewN_drewN] at hw1
      subst hw1
      go_wp2_with fail
      go_roundw
      case rel => exact ⟨j + 1, _, by go_num, rfl, by omega, HT2.out, _, rfl⟩
      case measure => simp [intOf]; omega
    · have HTK := hid (show S.data.toList = keyR x by
        rw [HTS.out.1, List.take_of_length_le (by omega), ← HLL.out, HKR.out]
        simp)
      go_wp2_with fail
      go_ret
      exact ⟨_, rfl, HTK.out, below_drewN B0.out _⟩
end Go.Proofs.YtfmkniakfgpgjaaDoor

/- The shelf's contract of slices.Insert at int, laid. -/
namespace Go.Proofs
open Go.Shelf Go.RowKit
set_option linter.unusedVariables false
set_option linter.unusedSimpArgs false
def Tryd.lays2n21_ren : Go.Shelf.Ren := ⟨fun | 21 => 43 | 27 => 66 | 28 => 67 | 35 => 76 | 39 => 81 | n => n, fun | 0 => 0 | 3 => 3 | 4 => 4 | 22 => 29 | n => n, fun | n => n⟩
theorem Tryd.lays2n21 : Go.Proofs.Lays2.n21 Tryd.prog Tryd.lays2n21_ren := {
  mixed := by kernel_rfl
  f21 := Tryd.func43.trans (congrArg some (by kernel_rfl))
  f27 := Tryd.func66.trans (congrArg some (by kernel_rfl))
  f28 := Tryd.func67.trans (congrArg some (by kernel_rfl))
  f35 := Tryd.func76.trans (congrArg some (by kernel_rfl))
  f39 := Tryd.func81.trans (congrArg some (by kernel_rfl))
  t0 := Tryd.underlying0
  a0 := Tryd.isAgg0
  z0 := Tryd.sizeOf0
  v0 := Tryd.zeroValue0
  t3 := Tryd.underlying3
  a3 := Tryd.isAgg3
  z3 := Tryd.sizeOf3
  v3 := Tryd.zeroValue3
  t4 := Tryd.underlying4
  a4 := Tryd.isAgg4
  z4 := Tryd.sizeOf4
  v4 := Tryd.zeroValue4
  t22 := Tryd.underlying29
  a22 := Tryd.isAgg29
  z22 := Tryd.sizeOf29
  v22 := Tryd.zeroValue29
  i3 := by kernel_rfl }
end Go.Proofs

