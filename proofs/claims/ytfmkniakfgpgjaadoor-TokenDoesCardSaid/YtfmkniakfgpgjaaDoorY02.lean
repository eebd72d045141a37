import Derived.Test.YtfmkniakfgpgjaaDoorY01
import Derived.Lib.AppendIntMem
import Derived.Lib.ItoaLen
import Derived.Lib.AppendZeros
import Derived.Deep.RegionLaw
import Derived.Deep.AppendLies
import Derived.Maps.OwnSet
import Derived.Carry
/- term: a node's text among others, walked. -/
namespace Go.Proofs.YtfmkniakfgpgjaaDoor
open Go.RowKit Go.KK Go.Shelf
set_option linter.unusedVariables false
set_option linter.unusedSimpArgs false

theorem Tryd.infoU8 : (Tryd.prog.info? 5).map (fun i => (i.zero, i.size, i.bytes)) = some (some (.int .u8 0), 1, 1) := by kernel_rfl
theorem Tryd.infoInt : (Tryd.prog.info? 3).map (fun i => (i.zero, i.size, i.bytes)) = some (some (.int .i64 0), 1, 8) := by kernel_rfl
/-- The table of tens is there, whatever is done from block B on. -/
abbrev Tb (B : Nat) (w : World) : Prop := Lib.TabBelow Tryd.prog B w "internal/strconv.uint64pow10" .u64 Lib.pow10Tab
theorem Tb.up {B B' : Nat} {w : World} (h : Tb B w) (hb : B ≤ B') : Tb B' w := fun w' h' => h w' (h'.mono hb)

section
variable {w w' : World} {B B' : Nat} {e e' : TypeId} {size size' n n' : Nat} {v v' : Value} {cs cs' : List Value}
theorem own_others {t : TypeId} (h : w.ownsRow B e size v n cs) (ho : Lib.OthersKept t none w w') (hne : e ≠ t) : w'.ownsRow B e size v n cs := by
  refine ⟨h.1, ?_⟩
  rcases h.2 with h2 | ⟨g, cap, cur, e1, hg, hh, r⟩
  · exact .inl h2
  · refine .inr ⟨g, cap, cur, e1, hg, ho g _ hh (by simp) (fun c fz e2 => ?_), r⟩
    injection e2 with _ e2
    exact hne e2
theorem own_apart (h : w.ownsRow B e size v n cs) (h' : w.ownsRow B' e' size' v' n' cs') (hne : e ≠ e') (b : Nat) (hb : v.ownBlock = some b) : v'.ownBlock ≠ some b := by
  intro hb'
  rcases h.2 with ⟨rfl, _⟩ | ⟨g, cap, cur, rfl, hg, hh, r⟩
  · cases hb
  · rcases h'.2 with ⟨rfl, _⟩ | ⟨g', cap', cur', rfl, hg', hh', r'⟩
    · cases hb'
    · injection hb with hb; injection hb' with hb'
      simp only at hb hb'
      subst hb; subst hb'
      rw [hh] at hh'
      injection hh' with hh'
      injection hh' with _ hh'
      exact hne hh'
theorem own_grown (h : w.ownsRow B e size v n cs) (hg : w.grownBy w' v'.ownBlock) (h' : w.ownsRow B' e' size' v' n' cs') (hne : e ≠ e') : w'.ownsRow B e size v n cs :=
  h.kept hg (by
    rcases hv : v.ownBlock with _ | b
    · exact .inl rfl
    · exact .inr fun e2 => own_apart h h' hne b hv e2.symm)
end
theorem bytes_ints (l : List UInt8) : Lib.byteCells l = (l.map fun b => (b.toNat : Int)).map (.int .u8) := by unfold Lib.byteCells; rw [List.map_map]; rfl
theorem str_back (l : List UInt8) : (strOfNums (l.map fun b => (b.toNat : Int))).data.toList = l := by
  rw [strOfNums_data, List.map_map]
  conv => rhs; rw [← List.map_id l]
  refine List.map_congr_left fun b _ => ?_
  simp
theorem itoa_le (i : Int) (h0 : -9223372036854775808 ≤ i) (h1 : i ≤ 9223372036854775807) : (Lib.itoa i).length ≤ 21 := Lib.itoa_length_le i h0 h1
/-- int's numbers. -/
def I64 (i : Int) : Prop := -9223372036854775808 ≤ i ∧ i ≤ 9223372036854775807
theorem join_le {l : List Int} (h : ∀ i ∈ l, I64 i) : (joinB l).length ≤ 22 * l.length := by
  induction l with
  | nil => simp [joinB]
  | cons x l ih =>
    rw [joinB_cons]
    have h1 := itoa_le x (h x (by simp)).1 (h x (by simp)).2
    have h2 := ih fun i hi => h i (by simp [hi])
    simp only [List.length_cons, List.length_append]
    omega
theorem take_snoc {α : Type} {l : List α} {j : Nat} {x : α} (h : l[j]? = some x) : l.take (j + 1) = l.take j ++ [x] := by
  rw [List.take_add_one, h]; rfl
set_option maxHeartbeats 4000000 in
set_option maxRecDepth 20000 in
theorem key_any (x : ND) (A : Option Addr) (c : Nat) (w : World) (hl : SlA w 1 A x.l.length c (x.l.map (.int .i64))) (hT : Tb w.heap.size w) (hn : x.l.length ≤ 64) (ho : I64 x.o) (hn64 : I64 x.n) (hli : ∀ i ∈ x.l, I64 i) (hs : x.s.size ≤ 200) :
    Calls Tryd.prog 49 #[.agg #[.int .i64 x.o, .int .i64 x.n, .string x.s, .slice A x.l.length c]] w fun e w' => ∃ K : ByteArray, e = .returned (.string K) ∧ K.data.toList = keyP x ∧ Below w.heap.size w w' := by
  obtain ⟨i0, hi, hz0, hz1, hz2⟩ := info_parts Tryd.infoU8
  obtain ⟨j0, hj, hy0, hy1, hy2⟩ := info_parts Tryd.infoInt
  have HS := hid hl; have HT := hid hT; have HO := hid ho; have HN := hid hn64
  have HLI := hid (show ∀ i ∈ x.n :: x.l, I64 i from fun i h => by
    rcases List.mem_cons.1 h with rfl | h
    · exact hn64
    · exact hli i h)
  have B0 := hid (show Below w.heap.size w (w.alloc (.cells #[.int .i64 x.o, .int .i64 x.n, .string x.s, .slice A x.l.length c] 60)) from (Below.refl _ _).alloc (Nat.le_refl _) _)
  have C0 := hid (show let W := w.alloc (.cells #[.int .i64 x.o, .int .i64 x.n, .string x.s, .slice A x.l.length c] 60)
    W.cell? ⟨w.heap.size, 1, none⟩ = some (.int .i64 x.n) ∧ W.cell? ⟨w.heap.size, 2, none⟩ = some (.string x.s) ∧ W.cell? ⟨w.heap.size, 3, none⟩ = some (.slice A x.l.length c) ∧ w.heap.size < W.heap.size by
      refine ⟨?_, ?_, ?_, by simp⟩
      all_goals (rw [World.cell?_alloc_at _ _ _ _ rfl]; rfl))
  clear hl hT ho hn64 hli
  go_enter Tryd.func49, Tryd.ntmps49
  go_wp2_with fail
  refine (Tryd.strconv_AppendInt_10 (w.heap.size + 1) 0 x.o HO.out.1 HO.out.2 _ [] _ (World.ownsRow_nil _ _ _ _) (by simp) (by omega) (Tb.up (HT.out.on B0.out) (by omega))).mono ?_
  rintro e1 w1 ⟨v1, rfl, o1, b1, -⟩
  obtain ⟨c1, c2, c3, hlt⟩ := C0.out
  generalize w.alloc (.cells #[.int .i64 x.o, .int .i64 x.n, .string x.s, .slice A x.l.length c] 60) = W0 at *
  rw [Nat.zero_add, List.nil_append] at o1
  have k1 := (b1.cell (p := ⟨w.heap.size, 1, none⟩) (by show w.heap.size < _; omega)).trans c1
  have k2 := (b1.cell (p := ⟨w.heap.size, 2, none⟩) (by show w.heap.size < _; omega)).trans c2
  have k3 := (b1.cell (p := ⟨w.heap.size, 3, none⟩) (by show w.heap.size < _; omega)).trans c3
  have B1 := hid b1; have O1 := hid o1; have HLT := hid hlt
  have BW1 := hid (B0.out.trans (b1.mono (by omega)))
  have HS1 := hid (HS.out.ext BW1.out)
  have hsz1 : w.heap.size + 1 ≤ w1.heap.size := by have := b1.size; omega
  have C2 := hid c2
  clear b1 o1 c1 c2 c3 hlt C0
  have k3' : (w1.alloc (.cells #[.int .i64 x.n] 3)).cell? ⟨w.heap.size, 3, none⟩ = some (.slice A x.l.length c) := (World.cell?_alloc_old _ _ _ (show w.heap.size ≠ w1.heap.size by omega)).trans k3
  go_wp2_with (at_builtin; refine wpList_append_sl _ rfl _ _ 29 rfl (w.heap.size + 1) 3 j0 (.int .i64 0) 1 8 Tryd.underlying29 hj hy0 hy1 hy2 rfl (by decide) _ 1 [.int .i64 x.n] rfl (World.ownsRow_lit (e := 3) (base := w.heap.size + 1) (size := 1) w1 #[.int .i64 x.n] 1 (by omega) (by unfold maxLen; omega) rfl) A _ c _ rfl ((HS1.out).alloc _) (ints_one _ _) (by unfold maxLen; omega) (by omega) (by simp; omega) ?_; intro v2 w2 hown2 hg2 _; have HO2 := hid hown2; have HG2 := hid hg2; obtain ⟨A2, d2, rfl, hs2⟩ := SlA.owned hown2; clear hg2 hown2)
  have O2 := hid (own_grown ((O1.out).alloc (.cells #[.int .i64 x.n] 3)) HG2.out (World.ownsRow_lit (e := 3) (base := w.heap.size + 1) (size := 1) w1 #[.int .i64 x.n] 1 (by omega) (by unfold maxLen; omega) rfl) (by decide))
  have B2 := hid ((B1.out.alloc (by omega) (.cells #[.int .i64 x.n] 3)).grown HG2.out (by simp; omega) (fun k hk => by have hk : some w1.heap.size = some k := hk; injection hk with hk; omega))
  have HL2 := hid (show [Value.int .i64 x.n] ++ x.l.map (.int .i64) = (x.n :: x.l).map (.int .i64) from rfl)
  rw [HL2.out] at HO2
  have hs2' := HO2.out
  clear hs2 hs2' k3'
  generalize hLL : x.n :: x.l = L at *
  have HLL := hid hLL
  have HLN := hid (show L.length = 1 + x.l.length by rw [← hLL]; simp; omega)
  clear hLL
  go_wp2
  go_loopw [16, 3] (fun i v wr => ∃ (j m : Nat), i = .int .i64 j ∧ j ≤ L.length ∧ Hid (m ≤ 21 + 22 * j) ∧ wr.ownsRow (w.heap.size + 1) 5 1 v m (Lib.byteCells (Lib.itoa x.o ++ joinB (L.take j))) ∧ wr.ownsRow (w.heap.size + 1) 3 1 (.slice A2 (1 + x.l.length) d2) (1 + x.l.length) (L.map (.int .i64)) ∧ Below (w.heap.size + 1) W0 wr) (fun i _ _ => L.length - (intOf i).toNat)
  case atStart => exact ⟨0, _, rfl, Nat.zero_le _, hid (by have := itoa_le x.o HO.out.1 HO.out.2; omega), by rw [List.take_zero]; simpa [joinB] using O2.out, HO2.out, B2.out⟩
  case round =>
    obtain ⟨j, m, hi', hj', HM, hv, hL, hb⟩ := hrel
    subst hi'
    have HV := hid hv; have HRow := hid hL; have HB := hid hb
    have hm : m ≤ 2000 := by have := HM.out; have := HLN.out; omega
    have hbs : w.heap.size + 1 ≤ wr.heap.size := by have := hb.size; have := HLT.out; omega
    have HSL := hid (SlA.of_own hL).2
    clear hv hL hb
    by_cases hlt : j < L.length
    · obtain ⟨b2, o2, z, rfl, hz, hc⟩ := HSL.out.elemI (show j < 1 + x.l.length by have := HLN.out; omega)
      have HZ := hid hz
      have HZ6 := hid (HLI.out z (List.mem_of_getElem? hz))
      clear hz
      have hjl : (j : Int) < 1 + (x.l.length : Int) := by have := HLN.out; omega
      go_wp2_with (first
        | (at_builtin; refine wpList_append_sl _ rfl _ _ 103 rfl (w.heap.size + 1) 5 i0 (.int .u8 0) 1 1 Tryd.underlying103 hi hz0 hz1 hz2 rfl (by decide) _ _ _ rfl ((HV.out).alloc _) _ _ _ _ rfl (SlA.lit1 (.int .u8 32)) (one_int _ _) (by unfold maxLen; omega) (by omega) (by simp; omega) ?_; intro v3 w3 h3 g3 _; have H3 := hid h3; have G3 := hid g3; clear h3 g3)
        | fail)
      have hb3 := (HB.out.alloc hbs (.cells #[.int .u8 32] 5)).grown G3.out (by simp; omega) (fun k hk => (HV.out.lt k hk).1)
      have HB3 := hid hb3
      have hs3 : w.heap.size + 1 ≤ w3.heap.size := by have := hb3.size; have := HLT.out; omega
      clear hb3
      refine (Tryd.strconv_AppendInt_10 (w.heap.size + 1) (m + 1) z HZ6.out.1 HZ6.out.2 v3 _ _ H3.out hs3 (by omega) (Tb.up ((HT.out.on B0.out).on (HB3.out.mono (by omega))) (by omega))).mono ?_
      rintro e4 w4 ⟨v4, rfl, o4, b4, q4⟩
      have O4 := hid o4; have Q4 := hid q4; have B4 := hid b4
      clear o4 q4 b4
      have HJO := hid (show Lib.byteCells (Lib.itoa x.o ++ joinB (L.take j)) ++ [.int .u8 32] ++ Lib.byteCells (Lib.itoa z) = Lib.byteCells (Lib.itoa x.o ++ joinB (L.take (j + 1))) by
        rw [take_snoc HZ.out, joinB_snoc]
        simp [Lib.byteCells])
      have hiz := itoa_le z HZ6.out.1 HZ6.out.2
      go_wp2
      go_roundw
      case rel =>
        refine ⟨j + 1, m + 1 + (Lib.itoa z).length, by go_num, by omega, hid (by have := HM.out; omega), ?_, ?_, ?_⟩
        · rw [← HJO.out]; exact O4.out
        · exact own_others (own_grown ((HRow.out).alloc _) G3.out ((HV.out).alloc _) (by decide)) Q4.out (by decide)
        · exact HB3.out.trans B4.out
      case measure => simp [intOf]; omega
    · have hjl : ¬ (j : Int) < 1 + (x.l.length : Int) := by have := HLN.out; omega
      have HTK := hid (show L.take j = L from List.take_of_length_le (by omega))
      obtain ⟨Av, cv, rfl, hsv⟩ := SlA.owned HV.out
      rw [HTK.out, bytes_ints] at hsv
      have hcv := run_str_sl (P := Tryd.prog) wr 103 9 5 Tryd.underlying103 Tryd.underlying5 Tryd.underlying9 Av m cv _ hsv
      have k2' := (HB.out.cell (p := ⟨w.heap.size, 2, none⟩) (by show w.heap.size < _; omega)).trans C2.out
      have HSB := hid (str_back (Lib.itoa x.o ++ joinB L))
      generalize strOfNums ((Lib.itoa x.o ++ joinB L).map fun b => (b.toNat : Int)) = KS at *
      clear hsv
      have hks : KS.size ≤ 2000 := by
        have h1 : KS.size = KS.data.toList.length := rfl
        rw [h1, HSB.out, List.length_append]
        have h2 := itoa_le x.o HO.out.1 HO.out.2
        have h3 := join_le HLI.out
        have := HLN.out
        omega
      have hk1 : ¬ 9223372036854775807 < KS.size + 1 := by omega
      have hk2 : ¬ 9223372036854775807 < KS.size + 1 + x.s.size := by omega
      go_wp2
      go_ret
      refine ⟨_, rfl, ?_, (B0.out.trans (HB.out.mono (by omega)))⟩
      unfold keyP
      rw [HLL.out]
      have h1 : (KS ++ (⟨#[124]⟩ : ByteArray) ++ x.s).data.toList = KS.data.toList ++ [124] ++ x.s.data.toList := by
        rw [ByteArray.data_append, ByteArray.data_append, Array.toList_append, Array.toList_append]
      rw [h1, HSB.out]
      simp
end Go.Proofs.YtfmkniakfgpgjaaDoor

/- append as a step of a region that draws, of a slice that reads. -/
namespace Go.KK
open Go.RowKit
set_option linter.unusedVariables false
set_option linter.unusedSimpArgs false

section
variable {P : Program} (w : World)
theorem step_append_sl {ops : Array Oper} {o : Oper} {a : Act} {K : Act → World → Prop} {Q : Exit → Act → World → Prop} {E : Prop} (hgd : o.guard = none) (s x : Operand) (t : TypeId)
    (ho : o.op = .call { callee := .builtin .append, args := #[s, x], argTypes := #[t, t] })
    (base : Nat) (e : TypeId) (i : TypeInfo) (z : Value) (size bytes : Nat) (ht : P.underlying t = some (.slice e)) (hi : P.info? e = some i) (hz : i.zero = some z)
    (hsize : i.size = size) (hby : i.bytes = bytes) (hzs : z.cells.size = size) (hsz : 0 < size)
    (v : Value) (n : Nat) (xs : List Value) (hs : a.eval s = v) (hown : w.ownsRow base e size v n xs)
    (A : Option Addr) (m c : Nat) (news : List Value) (hx : a.eval x = .slice A m c) (hr : SlA w size A m c news) (h1 : ∀ u ∈ news, u.oneCell' = true)
    (h63 : n + m ≤ maxLen) (hbytes : (n + m) * bytes ≤ 140737488355328) (hbase : base ≤ w.heap.size)
    (h : ∀ v' w', w'.ownsRow base e size v' (n + m) (xs ++ news) → w.grownBy w' v.ownBlock → (v'.ownBlock = v.ownBlock ∨ v'.ownBlock = some w.heap.size) → K (a.put o.dst v') w') :
    if Region.wanted o (yielded ops a.tmps) = true then Oper.wp P o a w K Q else E := by
  have hw : Region.wanted o (yielded ops a.tmps) = true := by simp [Region.wanted, hgd]
  rw [if_pos hw]
  obtain ⟨v', w', hrun, h2, h3, h5⟩ := run_append_sl (P := P) w base t o.type e i z size bytes ht hi hz hsize hby hzs hsz v n xs hown A m c news hr h1 h63 hbytes hbase
  exact Lib.wp_append_run w s x t t ho _ _ hs hx v' w' hrun (h v' w' h2 h3 h5)
end
end Go.KK

/- plain: what layers 4 and 17 do with an arena's nodes, in plain words. -/
namespace Go.KK
set_option linter.unusedVariables false
set_option linter.unusedSimpArgs false

def atN (n : Int) : ND := ⟨1, n, ⟨#[]⟩, []⟩
def ndN (o : Int) (l : List Int) : ND := ⟨o, 0, ⟨#[]⟩, l⟩
def nd0 : ND := ⟨0, 0, ⟨#[]⟩, []⟩
/-- What making a node gives: the arena, the number, the error. -/
def mk (xs : List ND) (x : ND) : List ND × Int × Int := (makT xs x, makI xs x, makE xs x)
def nodeF (xs : List ND) (t : Int) : ND := if hasB xs t then xs.getD t.toNat nd0 else nd0
def nodeE (xs : List ND) (t : Int) : Int := if hasB xs t then 0 else 4
def kno (xs : List ND) (l : List Int) : Bool := l.all (hasB xs)
def unblF (xs : List ND) (sig draw : Int) : List ND × Int × Int :=
  if kno xs [sig, draw] then
    if (nodeF xs sig).o == 10 then
      if (nodeF xs ((nodeF xs sig).l.getD 1 0)).o == 12 && (nodeF xs ((nodeF xs sig).l.getD 1 0)).l.getD 1 0 == draw then
        mk xs (ndN 10 [(nodeF xs sig).l.getD 0 0, (nodeF xs ((nodeF xs sig).l.getD 1 0)).l.getD 0 0])
      else (xs, 0, 40)
    else (xs, 0, 40)
  else (xs, 0, 1)
def askF (xs : List ND) (nonce draw : Int) : List ND × Int × Int :=
  if hasB xs nonce && decide (0 ≤ draw) then
    if makE xs (atN draw) == 0 then mk (makT xs (atN draw)) (ndN 12 [nonce, makI xs (atN draw)])
    else (makT xs (atN draw), 0, makE xs (atN draw))
  else (xs, 0, 1)
def finF (xs : List ND) (sig draw : Int) : List ND × Int × Int :=
  if makE xs (atN draw) == 0 then unblF (makT xs (atN draw)) sig (makI xs (atN draw))
  else (makT xs (atN draw), 0, makE xs (atN draw))
/-- A mint. -/
structure MT where
  k : Int
  q : Int
  g : List (Int × Int)
  p : List Int
deriving DecidableEq
def mt0 : MT := ⟨0, 0, [], []⟩
def lbF (g : List (Int × Int)) (w : Int) : Nat := g.countP fun c => decide (c.1 < w)
def isF (g : List (Int × Int)) (w : Int) : Bool := g.any fun c => c.1 == w
def cntF (g : List (Int × Int)) (w : Int) : Int := match g.find? (fun c => c.1 == w) with | some c => c.2 | none => 0
def hadF (g : List (Int × Int)) (l : List Int) : Int := (l.map (cntF g)).sum
def incF (g : List (Int × Int)) (w : Int) : List (Int × Int) := g.take (lbF g w) ++ (w, cntF g w + 1) :: g.drop (if isF g w then lbF g w + 1 else lbF g w)
def newF (xs : List ND) (sk quota : Int) : MT × Int := if hasB xs sk && decide (0 ≤ quota) then (⟨sk, quota, [], []⟩, 0) else (mt0, 1)
def issF (xs : List ND) (m : MT) (who asked : Int) : List ND × Int × MT × Int :=
  if hasB xs who && hasB xs asked && (nodeF xs asked).o == 12 then
    if m.q ≤ cntF m.g who then (xs, 0, mt0, 82)
    else if makE xs (ndN 10 [m.k, asked]) == 0 then (makT xs (ndN 10 [m.k, asked]), makI xs (ndN 10 [m.k, asked]), ⟨m.k, m.q, incF m.g who, m.p⟩, 0)
    else (makT xs (ndN 10 [m.k, asked]), 0, mt0, makE xs (ndN 10 [m.k, asked]))
  else (xs, 0, mt0, 1)
def lbI (p : List Int) (x : Int) : Nat := p.countP fun c => decide (c < x)
def spF (xs : List ND) (m : MT) (nonce sig : Int) : MT × Int :=
  if kno xs [nonce, sig] then
    if (nodeF xs sig).o == 10 && (nodeF xs sig).l.getD 0 0 == m.k && (nodeF xs sig).l.getD 1 0 == nonce then
      if m.p.contains nonce then (mt0, 81) else (⟨m.k, m.q, m.g, m.p.take (lbI m.p nonce) ++ nonce :: m.p.drop (lbI m.p nonce)⟩, 0)
    else (mt0, 40)
  else (mt0, 1)

/-! the law's arenas: twelve secrets -/
def atoms (n : Nat) : List ND := (List.range n).map fun j : Nat => atN (j : Int)
theorem atoms_succ (n : Nat) : atoms (n + 1) = atoms n ++ [atN n] := by unfold atoms; rw [List.range_succ, List.map_append]; rfl
theorem atoms_len (n : Nat) : (atoms n).length = n := by simp [atoms]
theorem atN_mem {n : Nat} {x : Int} : atN x ∈ atoms n ↔ 0 ≤ x ∧ x < n := by
  unfold atoms
  rw [List.mem_map]
  constructor
  · rintro ⟨j, hj, e⟩
    have := List.mem_range.1 hj
    injection e with _ e
    omega
  · rintro ⟨h1, h2⟩
    exact ⟨x.toNat, List.mem_range.2 (by omega), by unfold atN; rw [show ((x.toNat : Nat) : Int) = x by omega]⟩
theorem may_atom (xs : List ND) {x : Int} (h : 0 ≤ x) : mayB xs (atN x) = true := by
  have e : mayB xs (atN x) = (true && true && decide (0 ≤ x) && true && (true || x == 0) && true && true && true) := rfl
  rw [e, decide_eq_true h]; rfl
theorem mak_new {xs : List ND} {x : ND} (hm : mayB xs x = true) (hx : x ∉ xs) (hl : xs.length < 100000) : makT xs x = xs ++ [x] ∧ makI xs x = (xs.length : Nat) ∧ makE xs x = 0 := by
  unfold makT makI makE
  rw [hm, if_pos rfl, if_pos rfl, if_pos rfl, if_neg hx, if_neg hx, if_neg hx, if_neg (by omega), if_neg (by omega), if_neg (by omega)]
  exact ⟨rfl, rfl, rfl⟩
theorem mak_old {xs : List ND} {x : ND} (hm : mayB xs x = true) (hx : x ∈ xs) : makT xs x = xs ∧ makI xs x = (xs.idxOf x : Nat) ∧ makE xs x = 0 := by
  unfold makT makI makE
  rw [hm, if_pos rfl, if_pos rfl, if_pos rfl, if_pos hx, if_pos hx, if_pos hx]
  exact ⟨rfl, rfl, rfl⟩
theorem atoms_step {n : Nat} (hn : n < 100000) : makT (atoms n) (atN n) = atoms (n + 1) := by
  rw [(mak_new (may_atom _ (by omega)) (fun h => by have := atN_mem.1 h; omega) (by rw [atoms_len]; exact hn)).1, atoms_succ]
end Go.KK

/- term: a node is made. -/
namespace Go.Proofs.YtfmkniakfgpgjaaDoor
open Go.RowKit Go.KK Go.Shelf Go.Maps Go.ChangeMaps
set_option linter.unusedVariables false
set_option linter.unusedSimpArgs false

theorem sla_getD {w : World} {b o n c : Nat} {l : List Int} (h : SlA w 1 (some ⟨b, o, none⟩) n c (l.map (.int .i64))) : ∀ j, j < l.length → w.cell? ⟨b, o + j, none⟩ = some (.int .i64 (l.getD j 0)) := by
  intro j hj
  obtain ⟨b1, o1, e, hc⟩ := h.cells j (.int .i64 (l[j]'hj)) (by rw [List.getElem?_map, List.getElem?_eq_getElem hj]; rfl)
  injection e with e
  injection e with e1 e2
  subst e1; subst e2
  rw [hc, List.getD, List.getElem?_eq_getElem hj]
  rfl
theorem clone_own (A : Option Addr) (n c : Nat) (l : List Int) (w : World) (h : SlA w 1 A n c (l.map (.int .i64))) (hn47 : n ≤ 2147483648) :
    Calls Tryd.prog 37 #[.slice A n c] w fun e w' => ∃ v, e = .returned v ∧ w'.ownsRow w.heap.size 3 1 v n (l.map (.int .i64)) ∧ Below w.heap.size w w' := by
  have hn := h.lenI
  rcases A with _ | a
  · have hl : l = [] := by
      rcases l with _ | ⟨x, l⟩
      · rfl
      · obtain ⟨b, o, e, _⟩ := h.cells 0 _ rfl; cases e
    subst hl
    simp at hn
    subst hn
    exact (Tryd.slices_Clone_int_nil 0 c w).mono fun e w' ⟨h1, h2⟩ => ⟨_, h1, World.ownsRow_nil _ _ _ _, by rw [h2]; exact Below.refl _ _⟩
  · rcases l with _ | ⟨x, l⟩
    · simp at hn
      subst hn
      exact (Tryd.slices_Clone_int_zero a c w).mono fun e w' ⟨v, h1, h2, _, h3⟩ => ⟨v, h1, h2, h3⟩
    · obtain ⟨b, o, e, _⟩ := h.cells 0 _ rfl
      injection e with e
      subst e
      have := Tryd.slices_Clone_int b o n c (x :: l) w (by omega) (by omega) (sla_getD h)
      rw [List.take_of_length_le (by omega)] at this
      exact this.mono fun e w' ⟨v, h1, h2, _, h3⟩ => ⟨v, h1, h2, h3⟩
theorem lawS : Keyed Tryd.prog 9 := string_keyed Tryd.underlying9
theorem zeroI (w : World) : (zeroValue 3).run Tryd.prog w = .ok (.int .i64 0) w := by kernel_rfl
theorem infoN : (Tryd.prog.info? 60).map (fun i => (i.zero, i.size, i.bytes)) = some (some (.agg #[.int .i64 0, .int .i64 0, .string ⟨#[]⟩, .slice none 0 0]), 4, 56) := by kernel_rfl
theorem forget {P : Program} {c : Code} {Q : Exit → Act → World → Prop} {a : Act} {W0 : World} {R : World → Prop} (h : ∀ W, R W → Code.wp P c Q a W) (r : R W0) : Code.wp P c Q a W0 := h W0 r
theorem box4 {W : World} {base g : Nat} {e : TypeId} {v0 v1 v2 v3 : Value} (h : W.ownsRow base e 4 (.slice (some ⟨g, 0, none⟩) 1 1) 1 [v0, v1, v2, v3]) :
    (W.cell? ⟨g, 0, none⟩ = some v0 ∧ W.cell? ⟨g, 1, none⟩ = some v1 ∧ W.cell? ⟨g, 2, none⟩ = some v2 ∧ W.cell? ⟨g, 3, none⟩ = some v3) ∧ W.frozen? ⟨g, 0, none⟩ = false ∧ W.frozen? ⟨g, 1, none⟩ = false ∧ W.frozen? ⟨g, 2, none⟩ = false ∧ W.frozen? ⟨g, 3, none⟩ = false :=
  ⟨⟨h.cellAt 0 (by decide), h.cellAt 1 (by decide), h.cellAt 2 (by decide), h.cellAt 3 (by decide)⟩, h.frozenAt 0, h.frozenAt 1, h.frozenAt 2, h.frozenAt 3⟩
theorem ar_box {NT K E T : TypeId} {kf : ND → List UInt8} {w : World} {Z : Nat → Prop} {st mp : Nat} {v : Value} {xs : List ND} {qs : List Value} (h : Ar Tryd.prog NT K E T kf w Z st mp v xs qs) : w.ownsRow 0 T 2 (.slice (some ⟨st, 0, none⟩) 1 1) 1 [v, .map (some mp)] :=
  ⟨by simp, .inr ⟨st, 1, _, rfl, Nat.zero_le _, h.box, Nat.le_refl _, by decide, rfl, by simp⟩⟩
theorem box2 {w : World} {st : Nat} {a b : Value} {T : TypeId} (h : w.heap[st]? = some (.cells #[a, b] T (0, 0))) : w.cell? ⟨st, 0, none⟩ = some a ∧ w.cell? ⟨st, 1, none⟩ = some b ∧ w.frozen? ⟨st, 0, none⟩ = false := by
  have hr : w.ownsRow 0 T 2 (.slice (some ⟨st, 0, none⟩) 1 1) 1 [a, b] := ⟨by simp, .inr ⟨st, 1, _, rfl, Nat.zero_le _, h, Nat.le_refl _, by decide, rfl, by simp⟩⟩
  exact ⟨hr.cellAt 0 (by decide), hr.cellAt 1 (by decide), hr.frozenAt 0⟩
theorem lit4 {w : World} {T : TypeId} (v0 v1 v2 v3 : Value) : SlA (w.alloc (.cells #[v0, v1, v2, v3] T)) 4 (some ⟨w.heap.size, 0, none⟩) 1 1 [v0, v1, v2, v3] :=
  (SlA.of_own (World.ownsRow_lit (e := T) (base := 0) (size := 4) w #[v0, v1, v2, v3] 1 (Nat.zero_le _) (by unfold maxLen; omega) rfl)).2
theorem one4 (x : ND) (A : Option Addr) (n c : Nat) : ∀ u ∈ x.cells (.slice A n c), u.oneCell' = true := by
  intro u hu
  simp only [ND.cells, List.mem_cons, List.mem_nil_iff, or_false] at hu
  rcases hu with rfl | rfl | rfl | rfl <;> rfl
/-- What a call that makes a node leaves. -/
def MakS (w : World) (Z : Nat → Prop) (st mp : Nat) (xs : List ND) (w' : World) : Prop := ∃ Z' v' qs', ArP w' Z' st mp v' xs qs' ∧ Turn Z w w' ∧ ∀ b, Z' b → Z b ∨ w.heap.size ≤ b
theorem makS_below {w w' : World} {Z : Nat → Prop} {st mp : Nat} {v : Value} {xs : List ND} {qs : List Value} (h : ArP w Z st mp v xs qs) (hb : Below w.heap.size w w') : MakS w Z st mp xs w' :=
  ⟨Z, v, qs, h.ext hb, .of_below hb, fun b h => .inl h⟩
/-- int's numbers in a node. -/
structure NdI (x : ND) : Prop where
  o : I64 x.o
  n : I64 x.n
  l : ∀ i ∈ x.l, I64 i
theorem make_done {w W W1 w4 w6 : World} {Z : Nat → Prop} {st mp : Nat} {v v4 q : Value} {xs : List ND} {qs : List Value} {x : ND} {D : MD} {b2 : Nat} (h : ArP w Z st mp v xs qs) (hB : Below w.heap.size w W) (hb1 : ∀ b, b < W.heap.size → W1.heap[b]? = W.heap[b]?) (hs1 : W.heap.size ≤ W1.heap.size)
    (hot : W1.os = W.os ∧ W1.tape = W.tape ∧ W1.output = W.output)
    (hq : W.ownsRow b2 3 1 q x.l.length (x.l.map (.int .i64))) (hb2 : w.heap.size < b2) (hg4 : W1.grownBy w4 v.ownBlock) (h4 : w4.ownsRow 0 60 4 v4 (xs.length + 1) (nds xs qs ++ x.cells q)) (hl4 : v4.ownBlock = v.ownBlock ∨ v4.ownBlock = some W1.heap.size)
    (hbx : w4.heap[st]? = some (.cells #[v, .map (some mp)] 85 (0, 0))) (hm : w6.ownsMap Tryd.prog 9 (plainElem Tryd.prog 3) mp (xs.length + 1) D) (hmo : MapOk keyP (xs ++ [x]) D) (hok : Okay (xs ++ [x]))
    (hg6 : (w4.setCell ⟨st, 0, none⟩ v4).grownBy w6 (some mp)) : MakS w Z st mp (xs ++ [x]) w6 := by
  have hzl := h.zlt
  have l1 := hzl _ h.zst
  have l2 := hzl _ h.zmp.1
  have hmne := h.zmp.2
  have s1 := hB.size
  have s4 := hg4.size
  have s5 : (w4.setCell ⟨st, 0, none⟩ v4).heap.size = w4.heap.size := by simp
  have s6 := hg6.size
  rw [s5] at s6
  have hne : some st ≠ v.ownBlock := fun e => (h.zv st e.symm).2.1 rfl
  have box6 : w6.heap[st]? = some (.cells #[v4, .map (some mp)] 85 (0, 0)) := by
    rw [hg6.block st (by rw [s5]; omega) (by intro e; injection e with e; exact hmne e.symm), heap_setCell_same w4 st 0 _ _ v4 hbx]
    rfl
  have step : ∀ b, b < w4.heap.size → b ≠ st → b ≠ mp → w6.heap[b]? = w4.heap[b]? := fun b hb h1 h2 => by
    rw [hg6.block b (by rw [s5]; exact hb) (by intro e; injection e with e; exact h2 e), Below.heap_setCell w4 ⟨st, 0, none⟩ v4 b h1]
  have hv4 : v4.ownBlock = v.ownBlock ∨ ∀ b, v4.ownBlock = some b → w.heap.size ≤ b ∧ b < w6.heap.size := by
    rcases hl4 with e | e
    · exact .inl e
    · refine .inr fun b hb => ?_
      have hlt := (h4.lt b hb).2
      rw [e] at hb
      injection hb with hb
      omega
  have vlt : ∀ b, v4.ownBlock = some b → b < w4.heap.size ∧ b ≠ st ∧ b ≠ mp := fun b hb => by
    refine ⟨(h4.lt b hb).2, ?_⟩
    rcases hl4 with e | e
    · have := h.zv b (e ▸ hb); exact ⟨this.2.1, this.2.2⟩
    · rw [e] at hb; injection hb with hb; omega
  have hqk : ∀ b, q.ownBlock = some b → b2 ≤ b ∧ b < W.heap.size ∧ w6.heap[b]? = W.heap[b]? := fun b hb => by
    obtain ⟨q1, q2⟩ := hq.lt b hb
    refine ⟨q1, q2, ?_⟩
    rw [step b (by omega) (by omega) (by omega), hg4.block b (by omega) (fun e => by have := (h.zv b e.symm).1; have := hzl b this; omega), hb1 b q2]
  have hold : ∀ b, b < w.heap.size → b ≠ st → b ≠ mp → v.ownBlock ≠ some b → w6.heap[b]? = w.heap[b]? := fun b hb h1 h2 h3 => by
    rw [step b (by omega) h1 h2, hg4.block b (by omega) (fun e => h3 e.symm), hb1 b (by omega), hB.block b hb]
  have row6 : w6.ownsRow 0 60 4 v4 (xs.length + 1) (nds xs qs ++ x.cells q) := own_block h4 fun b hb => by
    obtain ⟨a1, a2, a3⟩ := vlt b hb
    exact step b a1 a2 a3
  obtain ⟨Aq, cq, hqe, -⟩ := SlA.owned hq
  have hq6 : In1 w6 q x.l := by
    have := own_block hq (w' := w6) fun b hb => (hqk b hb).2.2
    obtain ⟨A', c', e', hs'⟩ := SlA.owned this
    exact ⟨A', c', e', hs'⟩
  have hP := h.push (w' := w6) (v' := v4) (q := q) (x := x) (D := D) hok box6 row6 hv4 hq6 (fun hne' b hb => by
    obtain ⟨a1, a2, a3⟩ := hqk b hb
    refine ⟨by omega, by omega, fun e => ?_⟩
    rcases hl4 with e4 | e4
    · have := (h.zv b (e4 ▸ e)).1; have := hzl b this; omega
    · rw [e4] at e; injection e with e; omega) hm hmo (fun b hz h1 h2 h3 => hold b (hzl b hz) h1 h2 h3) (by omega)
  refine ⟨_, v4, _, hP, ⟨?_, ?_, ?_, by omega, fun b hb hz => hold b hb (fun e => hz (e ▸ h.zst)) (fun e => hz (e ▸ h.zmp.1)) (fun e => hz (h.zv b e).1)⟩, fun b hb => ?_⟩
  · rw [hg6.os, show (w4.setCell ⟨st, 0, none⟩ v4).os = w4.os from (Turn.setCell (F := fun _ => True) (w := w4) (a := ⟨st, 0, none⟩) v4 (.inl trivial)).os, hg4.os, hot.1, hB.os]
  · rw [hg6.tape, show (w4.setCell ⟨st, 0, none⟩ v4).tape = w4.tape from (Turn.setCell (F := fun _ => True) (w := w4) (a := ⟨st, 0, none⟩) v4 (.inl trivial)).tape, hg4.tape, hot.2.1, hB.tape]
  · rw [hg6.output, show (w4.setCell ⟨st, 0, none⟩ v4).output = w4.output from (Turn.setCell (F := fun _ => True) (w := w4) (a := ⟨st, 0, none⟩) v4 (.inl trivial)).output, hg4.output, hot.2.2, hB.output]
  · rcases hb with hb | hb
    · exact .inl hb
    · exact .inr hb.1
section
variable (Z : Nat → Prop) (st mp : Nat) (v : Value) (xs : List ND) (qs : List Value) (x : ND) (A : Option Addr) (c B : Nat) (w : World)
set_option maxHeartbeats 1000000 in
theorem make_no (h : ArP w Z st mp v xs qs) (hl : SlA w 1 A x.l.length c (x.l.map (.int .i64))) (hm : mayB xs x = false) :
    Calls Tryd.prog 26 #[.pointer (some ⟨st, 0, none⟩), .agg #[.int .i64 x.o, .int .i64 x.n, .string x.s, .slice A x.l.length c]] w fun e w' => e = .returned (.tuple #[.int .i64 0, .int .i64 1]) ∧ Below w.heap.size w w' := by
  have H := hid (Ar.v h); have HS := hid hl; have HM := hid hm
  have B0 := hid (show Below w.heap.size w (w.alloc (.cells #[.int .i64 x.o, .int .i64 x.n, .string x.s, .slice A x.l.length c] 60)) from (Below.refl _ _).alloc (Nat.le_refl _) _)
  clear h hl hm
  go_enter Tryd.func26, Tryd.ntmps26
  go_wp2_with fail
  refine (may_any st xs x A c _ (H.out.ext B0.out) (HS.out.ext B0.out)).mono ?_
  rintro e1 w1 ⟨rfl, b1⟩
  rw [HM.out]
  have B1 := hid (B0.out.trans (b1.mono B0.out.size))
  clear b1
  go_wp2_with fail
  go_ret2
  exact ⟨rfl, B1.out⟩
set_option maxHeartbeats 4000000 in
set_option maxRecDepth 20000 in
theorem make_yes (h : ArP w Z st mp v xs qs) (hl : SlA w 1 A x.l.length c (x.l.map (.int .i64))) (hm : mayB xs x = true) (hT : Tb B w) (hB : B ≤ w.heap.size) (hx : NdI x) :
    Calls Tryd.prog 26 #[.pointer (some ⟨st, 0, none⟩), .agg #[.int .i64 x.o, .int .i64 x.n, .string x.s, .slice A x.l.length c]] w fun e w' => e = .returned (.tuple #[.int .i64 (makI xs x), .int .i64 (makE xs x)]) ∧ MakS w Z st mp (makT xs x) w' := by
  have HAR := hid h
  have H := hid (Ar.v h); have HS := hid hl; have HM := hid hm; have HT := hid hT; have HX := hid hx
  have B0 := hid (show Below w.heap.size w (w.alloc (.cells #[.int .i64 x.o, .int .i64 x.n, .string x.s, .slice A x.l.length c] 60)) from (Below.refl _ _).alloc (Nat.le_refl _) _)
  have X0 := hid (show (w.alloc (.cells #[.int .i64 x.o, .int .i64 x.n, .string x.s, .slice A x.l.length c] 60)).ownsRow w.heap.size 60 4 (.slice (some ⟨w.heap.size, 0, none⟩) 1 1) 1 [.int .i64 x.o, .int .i64 x.n, .string x.s, .slice A x.l.length c] from
    ⟨by simp, .inr ⟨w.heap.size, 1, _, rfl, Nat.le_refl _, heap_alloc_new w _, Nat.le_refl _, by decide, rfl, by simp⟩⟩)
  have hsh : x.l.length ≤ 64 ∧ x.s.size ≤ 200 := by
    unfold mayB shB at hm
    simp only [Bool.and_eq_true, decide_eq_true_eq] at hm
    exact ⟨hm.1.1.1.1.1.1.2, hm.1.1.1.1.2⟩
  obtain ⟨hs64, hs200⟩ := hsh
  have hlt := (Ar.v h).lt
  obtain ⟨Av, cv, rfl, -⟩ := h.rows
  obtain ⟨i0, hi, hz0, hz1, hz2⟩ := info_parts infoN
  clear h hl hm hT hx
  go_enter Tryd.func26, Tryd.ntmps26
  go_wp2_with fail
  refine (may_any st xs x A c _ (H.out.ext B0.out) (HS.out.ext B0.out)).mono ?_
  rintro e1 w1 ⟨rfl, b1⟩
  rw [HM.out]
  have B1 := hid (B0.out.trans (b1.mono B0.out.size))
  have X1 := hid (own_ext X0.out b1)
  clear b1
  have k0 : w1.cell? ⟨w.heap.size, 0, none⟩ = some (.int .i64 x.o) := X1.out.cellAt 0 (by decide)
  have k1 : w1.cell? ⟨w.heap.size, 1, none⟩ = some (.int .i64 x.n) := X1.out.cellAt 1 (by decide)
  have k2 : w1.cell? ⟨w.heap.size, 2, none⟩ = some (.string x.s) := X1.out.cellAt 2 (by decide)
  have k3 : w1.cell? ⟨w.heap.size, 3, none⟩ = some (.slice A x.l.length c) := X1.out.cellAt 3 (by decide)
  go_wp2_with fail
  refine (key_any x A c _ (HS.out.ext B1.out) (Tb.up (HT.out.on (B1.out.mono hB)) (Nat.le_trans hB B1.out.size)) hs64 HX.out.o HX.out.n HX.out.l hs200).mono ?_
  rintro e2 w2 ⟨KS, rfl, hk, b2⟩
  have HK := hid hk
  have B2 := hid (B1.out.trans (b2.mono B1.out.size))
  have X2 := hid (own_ext X1.out b2)
  clear b2 hk k0 k1 k2 k3
  have AR2 := hid (HAR.out.ext B2.out)
  obtain ⟨D, hD, hMO⟩ := AR2.out.map
  have HD := hid hD; have HMO := hid hMO
  clear hD hMO
  have s0 : w2.cell? ⟨st, 0, none⟩ = some (.slice Av xs.length cv) := cell_of_row w2 st 0 _ _ (0, 0) AR2.out.box
  have s1 : w2.cell? ⟨st, 1, none⟩ = some (.map (some mp)) := cell_of_row w2 st 1 _ _ (0, 0) AR2.out.box
  have hsz : KS.size ≤ maxLen := by
    have h1 : KS.size = (keyP x).length := by rw [← HK.out]; rfl
    have h2 := itoa_le x.o HX.out.o.1 HX.out.o.2
    have h3 := join_le (l := x.n :: x.l) (fun i hi => by
      rcases List.mem_cons.1 hi with rfl | hi
      · exact HX.out.n
      · exact HX.out.l i hi)
    have h4 : x.s.data.toList.length = x.s.size := rfl
    rw [h1]
    unfold keyP maxLen
    simp only [List.length_append, List.length_cons] at h3 ⊢
    omega
  have hkey : keyOf Tryd.prog 9 (.string KS) = some (.string (keyP x)) := by rw [← HK.out]; exact Go.WideMaps.keyOf_string_mk Tryd.underlying9 hsz
  have HKEY := hid hkey
  clear hkey
  by_cases hx : x ∈ xs
  · have HH := hid (HMO.out.yes hx)
    obtain ⟨e1, e2, e3⟩ := mak_old HM.out hx
    have HI := hid e2; have HE := hid e3; have HTT := hid e1
    have HIX := hid (HMO.out.at' _ x (idxOf_get hx))
    clear hx e1 e2 e3
    go_wp2_with (at_lookup; refine wpList_lookup_own_ok_int _ rfl _ _ 76 rfl 9 3 .i64 lawS Tryd.underlying76 Tryd.underlying3 (zeroI _) mp _ D rfl HD.out _ _ rfl HKEY.out ?_; intro cc hat hwc; rw [HH.out])
    have HCC := hid (show cc = (xs.idxOf x : Nat) by
      rw [HIX.out] at hat
      injection hat with hat
      injection hat with _ hat
      exact hat.symm)
    clear hat hwc
    go_wp2
    go_ret2
    refine ⟨by rw [HI.out, HE.out, HCC.out]; rfl, ?_⟩
    rw [HTT.out]
    exact makS_below HAR.out B2.out
  · have HH := hid (HMO.out.not (fun {_ _} => keyP_inj) hx)
    by_cases hf : 100000 ≤ xs.length
    · have HI := hid (show makI xs x = 0 by unfold makI; rw [HM.out, if_pos rfl, if_neg hx, if_pos hf])
      have HE := hid (show makE xs x = 2 by unfold makE; rw [HM.out, if_pos rfl, if_neg hx, if_pos hf])
      have HTT := hid (show makT xs x = xs by unfold makT; rw [HM.out, if_pos rfl, if_neg hx, if_pos hf])
      have hf' : (100000 : Int) ≤ (xs.length : Int) := by omega
      clear hx hf
      go_wp2_with (at_lookup; refine wpList_lookup_own_ok_int _ rfl _ _ 76 rfl 9 3 .i64 lawS Tryd.underlying76 Tryd.underlying3 (zeroI _) mp _ D rfl HD.out _ _ rfl HKEY.out ?_; intro cc hat hwc; rw [HH.out])
      go_ret2
      refine ⟨by rw [HI.out, HE.out]; rfl, ?_⟩
      rw [HTT.out]
      exact makS_below HAR.out B2.out
    · obtain ⟨e1, e2, e3⟩ := mak_new HM.out hx (by omega)
      have HI := hid e2; have HE := hid e3; have HTT := hid e1; have HNX := hid hx
      have hf' : decide ((100000 : Int) ≤ (xs.length : Int)) = false := decide_eq_false (by omega)
      have HF := hid hf
      clear e1 e2 e3 hx hf
      obtain ⟨⟨k0, k1, k2, k3⟩, f0, f1, f2, f3⟩ := box4 X2.out
      go_wp2_with (at_lookup; refine wpList_lookup_own_ok_int _ rfl _ _ 76 rfl 9 3 .i64 lawS Tryd.underlying76 Tryd.underlying3 (zeroI _) mp _ D rfl HD.out _ _ rfl HKEY.out ?_; intro cc hat hwc; rw [HH.out]; clear hat hwc)
      refine (clone_own A _ c x.l _ (HS.out.ext B2.out) (by omega)).mono ?_
      rintro e3 w3 ⟨q0, rfl, oq, b3⟩
      obtain ⟨Aq, cq, rfl, -⟩ := SlA.owned oq
      have X3 := hid (own_ext X2.out b3)
      have AR3 := hid (AR2.out.ext b3)
      have B3 := hid (B2.out.trans (b3.mono B2.out.size))
      have OQ := hid oq
      clear k0 k1 k2 k3 f0 f1 f2 f3
      obtain ⟨⟨k0, k1, k2, k3⟩, f0, f1, f2, f3⟩ := box4 X3.out
      clear oq b3
      go_upto_region 11 with fail
      have hws : w.heap.size < w2.heap.size := by
        have := (X2.out.lt w.heap.size rfl).2
        exact this
      refine forget (R := fun W => ArP W Z st mp (.slice Av xs.length cv) xs qs ∧ W.ownsRow w.heap.size 60 4 (.slice (some ⟨w.heap.size, 0, none⟩) 1 1) 1 (x.cells (.slice Aq x.l.length cq)) ∧ W.ownsRow w2.heap.size 3 1 (.slice Aq x.l.length cq) x.l.length (x.l.map (.int .i64)) ∧ Below w.heap.size w W) ?_ ⟨?_, ?_, ?_, ?_⟩
      rotate_left
      · exact AR3.out.turn (Turn.setCell (F := fun b => b = w.heap.size) (.slice Aq x.l.length cq) (.inl rfl)) (fun b hz e => by have := HAR.out.zlt b hz; omega)
      · exact (X3.out.stored 3 (.slice Aq x.l.length cq)).1
      · exact own_block OQ.out fun b hb => Below.heap_setCell w3 ⟨w.heap.size, 3, none⟩ (.slice Aq x.l.length cq) b (by have := (OQ.out.lt b hb).1; show b ≠ w.heap.size; omega)
      · exact B3.out.setCell (p := ⟨w.heap.size, 3, none⟩) (Nat.le_refl _) _
      rintro W ⟨ra, rx, ro, rb⟩
      have AR4 := hid ra; have X4 := hid rx; have OQ4 := hid ro; have B4 := hid rb
      clear ra rx ro rb k0 k1 k2 k3 f0 f1 f2 f3 s0 s1 X3 AR3 B3 OQ
      obtain ⟨⟨k0, k1, k2, k3⟩, -⟩ := box4 X4.out
      have s0 : W.cell? ⟨st, 0, none⟩ = some (.slice Av xs.length cv) := (ar_box AR4.out).cellAt 0 (by decide)
      have fs0 : W.frozen? ⟨st, 0, none⟩ = false := (ar_box AR4.out).frozenAt 0
      have hsW : w.heap.size < W.heap.size := (X4.out.lt w.heap.size rfl).2
      have hrow : ((W.alloc (.cells #[.int .i64 x.o, .int .i64 x.n, .string x.s, .slice Aq x.l.length cq] 60)).drew).ownsRow 0 60 4 (.slice Av xs.length cv) xs.length (nds xs qs) := own_block (AR4.out.row.alloc _) (fun _ _ => rfl)
      have HROW := hid hrow
      have HN1 := hid (show xs.length ≤ 100000 by have := HF.out; omega)
      have hstW : st < W.heap.size := by omega
      have s0' : (W.alloc (.cells #[.int .i64 x.o, .int .i64 x.n, .string x.s, .slice Aq x.l.length cq] 60)).cell? ⟨st, 0, none⟩ = some (.slice Av xs.length cv) := (World.cell?_alloc_old _ _ _ (show st ≠ W.heap.size by omega)).trans s0
      have HBX := hid (show ((W.alloc (.cells #[.int .i64 x.o, .int .i64 x.n, .string x.s, .slice Aq x.l.length cq] 60)).drew).heap[st]? = some (.cells #[.slice Av xs.length cv, .map (some mp)] 85 (0, 0)) from (Below.heap_alloc W _ st hstW).trans AR4.out.box)
      have HNE := hid (show some st ≠ (Value.slice Av xs.length cv).ownBlock from fun e => (AR4.out.zv st e.symm).2.1 rfl)
      clear hrow
      go_region_law (refine step_append_sl _ rfl (.tmp 42) (.tmp 44) 52 rfl 0 60 i0 (.agg #[.int .i64 0, .int .i64 0, .string ⟨#[]⟩, .slice none 0 0]) 4 56 Tryd.underlying52 hi hz0 hz1 hz2 rfl (by decide) (.slice Av xs.length cv) xs.length (nds xs qs) (by rfl) HROW.out (some ⟨W.heap.size, 0, none⟩) 1 1 (x.cells (.slice Aq x.l.length cq)) (by rfl) (lit4 _ _ _ _).drew (one4 _ _ _ _) (by have := HN1.out; unfold maxLen; omega) (by have := HN1.out; omega) (Nat.zero_le _) ?_; intro v4 w4 h4 g4 l4; obtain ⟨A4, c4, rfl, -⟩ := SlA.owned h4; have H4 := hid h4; have G4 := hid g4; have L4 := hid l4; have HB4 := hid ((g4.block st (by simp; omega) HNE.out).trans HBX.out); obtain ⟨s4, s5, f4⟩ := box2 HB4.out; clear h4 g4 l4)
      all_goals
        obtain ⟨D4, hD4, hM4⟩ := AR4.out.map
        have HD5 := hid (map_block (w' := w4.setCell ⟨st, 0, none⟩ (.slice A4 (xs.length + 1) c4)) hD4 (by
          have h1 := AR4.out.zlt _ AR4.out.zmp.1
          have h2 := AR4.out.zmp.2
          rw [Below.heap_setCell w4 ⟨st, 0, none⟩ _ mp h2, G4.out.block mp (by simp; omega) (fun e => (AR4.out.zv mp e.symm).2.2 rfl)]
          exact Below.heap_alloc W _ mp h1))
        have HM4 := hid hM4
        clear hD4 hM4
        have s6 : (w4.setCell ⟨st, 0, none⟩ (.slice A4 (xs.length + 1) c4)).cell? ⟨st, 1, none⟩ = some (.map (some mp)) := by
          have hb := heap_setCell_same w4 st 0 _ _ (.slice A4 (xs.length + 1) c4) HB4.out
          exact (box2 (a := .slice A4 (xs.length + 1) c4) (b := .map (some mp)) hb).2.1
        go_wp2_with (at_mapUpdate; refine wpList_mapUpdate_own _ rfl _ _ _ 76 rfl 9 3 lawS Tryd.underlying76 _ mp xs.length D4 rfl HD5.out (by have := HN1.out; unfold maxLen; omega) _ _ (.string (keyP x)) rfl rfl HKEY.out (.lit (.int .i64 (xs.length : Nat))) [] (plainElem_int Tryd.underlying3 (WalkArith.wf_i64 (by have := HN1.out; omega))) ?_; intro w6 hown6 hg6; have HO6 := hid hown6; have HG6 := hid hg6; clear hown6 hg6)
        go_wp2
        go_ret2
        refine ⟨by rw [HI.out, HE.out]; rfl, ?_⟩
        have hok : Okay (xs ++ [x]) := by
          have := okay_mak HAR.out.ok (x := x) (by have := HX.out.n.2; omega)
          rwa [HTT.out] at this
        rw [HTT.out]
        exact make_done HAR.out B4.out (W1 := (W.alloc (.cells #[.int .i64 x.o, .int .i64 x.n, .string x.s, .slice Aq x.l.length cq] 60)).drew) (fun b hb => Below.heap_alloc W _ b hb) (by simp) ⟨rfl, rfl, rfl⟩ OQ4.out hws G4.out H4.out L4.out HB4.out HO6.out (mapOk_put HM4.out (fun {_ _} => keyP_inj) HNX.out) hok HG6.out
/-- A node is made, whatever it is. -/
theorem make_any (h : ArP w Z st mp v xs qs) (hl : SlA w 1 A x.l.length c (x.l.map (.int .i64))) (hT : Tb B w) (hB : B ≤ w.heap.size) (hx : NdI x) :
    Calls Tryd.prog 26 #[.pointer (some ⟨st, 0, none⟩), .agg #[.int .i64 x.o, .int .i64 x.n, .string x.s, .slice A x.l.length c]] w fun e w' => e = .returned (.tuple #[.int .i64 (makI xs x), .int .i64 (makE xs x)]) ∧ MakS w Z st mp (makT xs x) w' := by
  rcases hm : mayB xs x with _ | _
  · refine (make_no Z st mp v xs qs x A c w h hl hm).mono ?_
    rintro e w' ⟨rfl, hb⟩
    refine ⟨?_, ?_⟩
    · unfold makI makE; rw [hm]; rfl
    · have : makT xs x = xs := by unfold makT; rw [hm]; rfl
      rw [this]
      exact makS_below h hb
  · exact make_yes Z st mp v xs qs x A c B w h hl hm hT hB hx
end
end Go.Proofs.YtfmkniakfgpgjaaDoor

/- term: New, Len, Node; crypto: what makes and reads nodes. -/
namespace Go.Proofs.YtfmkniakfgpgjaaDoor
open Go.RowKit Go.KK Go.Shelf Go.Maps
set_option linter.unusedVariables false
set_option linter.unusedSimpArgs false

/-- The program's arena at block st, all of its blocks in Z. -/
def AR (w : World) (Z : Nat → Prop) (st : Nat) (xs : List ND) : Prop := ∃ mp v qs, ArP w Z st mp v xs qs
def ArS (w : World) (Z : Nat → Prop) (st : Nat) (xs : List ND) (w' : World) : Prop := ∃ Z', AR w' Z' st xs ∧ Turn Z w w' ∧ ∀ b, Z' b → Z b ∨ w.heap.size ≤ b
theorem ArS.of {w w' : World} {Z : Nat → Prop} {st mp : Nat} {xs : List ND} (h : MakS w Z st mp xs w') : ArS w Z st xs w' := by
  obtain ⟨Z', v, qs, h1, h2, h3⟩ := h
  exact ⟨Z', ⟨mp, v, qs, h1⟩, h2, h3⟩
theorem AR.ext {w w' : World} {Z : Nat → Prop} {st : Nat} {xs : List ND} (h : AR w Z st xs) (hb : Below w.heap.size w w') : AR w' Z st xs := by
  obtain ⟨mp, v, qs, h1⟩ := h
  exact ⟨mp, v, qs, h1.ext hb⟩
theorem AR.zlt {w : World} {Z : Nat → Prop} {st : Nat} {xs : List ND} (h : AR w Z st xs) : ∀ b, Z b → b < w.heap.size := by
  obtain ⟨mp, v, qs, h1⟩ := h
  exact h1.zlt
theorem AR.ok {w : World} {Z : Nat → Prop} {st : Nat} {xs : List ND} (h : AR w Z st xs) : Okay xs := by
  obtain ⟨mp, v, qs, h1⟩ := h
  exact h1.ok
theorem AR.vw {w : World} {Z : Nat → Prop} {st : Nat} {xs : List ND} (h : AR w Z st xs) : ArV w 85 st xs := by
  obtain ⟨mp, v, qs, h1⟩ := h
  exact Ar.v h1
theorem AR.stay {w w' : World} {Z : Nat → Prop} {st : Nat} {xs : List ND} (h : AR w Z st xs) (hb : Below w.heap.size w w') : ArS w Z st xs w' := ⟨Z, h.ext hb, .of_below hb, fun _ h => .inl h⟩
/-- Behind a call that only lays blocks. -/
theorem ArS.first {w w1 w2 : World} {Z : Nat → Prop} {st : Nat} {xs : List ND} (hb : Below w.heap.size w w1) (h : ArS w1 Z st xs w2) : ArS w Z st xs w2 := by
  obtain ⟨Z', h1, h2, h3⟩ := h
  refine ⟨Z', h1, (Turn.of_below hb).trans h2 (fun _ h => .inl h), fun b hz => (h3 b hz).imp id fun h => Nat.le_trans hb.size h⟩
theorem ArS.chain {w w1 w2 : World} {Z Z1 : Nat → Prop} {st : Nat} {xs : List ND} (ht : Turn Z w w1) (hz : ∀ b, Z1 b → Z b ∨ w.heap.size ≤ b) (h : ArS w1 Z1 st xs w2) : ArS w Z st xs w2 := by
  obtain ⟨Z', h1, h2, h3⟩ := h
  exact ⟨Z', h1, ht.trans h2 hz, fun b hb => (h3 b hb).elim (hz b) fun h => .inr (Nat.le_trans ht.size h)⟩

theorem new_any (w : World) : Calls Tryd.prog 24 #[] w fun e w' => ∃ Z st, e = .returned (.pointer (some ⟨st, 0, none⟩)) ∧ AR w' Z st [] ∧ (∀ b, Z b → w.heap.size ≤ b) ∧ Below w.heap.size w w' := by
  have hmm := @run_makeMap Tryd.prog
  go_enter Tryd.func24, Tryd.ntmps24
  go_wp2
  go_ret
  have B1 : Below w.heap.size w (w.alloc (.map #[] 0)) := (Below.refl _ _).alloc (Nat.le_refl _) _
  have hm0 := World.ownsMap_made (H := Unit) w Tryd.prog 9 (plainElem Tryd.prog 3)
  refine ⟨fun b => b = w.heap.size ∨ b = w.heap.size + 1, w.heap.size + 1, by simp, ⟨w.heap.size, .slice none 0 0, [], ?_⟩, fun b hb => by rcases hb with rfl | rfl <;> omega, B1.alloc (by simp) _⟩
  have hsz : (w.alloc (.map #[] 0)).heap.size = w.heap.size + 1 := by simp
  refine ⟨?_, World.ownsRow_nil _ _ _ _, rfl, fun j x q h => by simp at h, fun j x q b h => by simp at h, ⟨.map [], ?_, mapOk_nil _⟩, .inr rfl, ⟨.inl rfl, by omega⟩, fun b h => (by cases h), fun b hb => ?_, okay_nil⟩
  · have := heap_alloc_new (w.alloc (.map #[] 0)) (.cells #[.slice none 0 0, .map (some w.heap.size)] 85)
    rw [hsz] at this
    exact this
  · exact hm0.alloc _
  · have h2 : ((w.alloc (.map #[] 0)).alloc (.cells #[.slice none 0 0, .map (some w.heap.size)] 85)).heap.size = w.heap.size + 1 + 1 := by simp
    rcases hb with rfl | rfl <;> omega
theorem len_any (st : Nat) (xs : List ND) (w : World) (h : ArV w 85 st xs) :
    Calls Tryd.prog 47 #[.pointer (some ⟨st, 0, none⟩)] w fun e w' => e = .returned (.int .i64 xs.length) ∧ w' = w := by
  obtain ⟨A, c, m, h0, h1, hn⟩ := h.parts
  clear hn h
  go_enter Tryd.func47, Tryd.ntmps47
  go_wp2
  go_ret
  exact ⟨rfl, rfl⟩
set_option maxHeartbeats 2000000 in
set_option maxRecDepth 20000 in
theorem node_any (st : Nat) (xs : List ND) (t : Int) (w : World) (h : ArV w 85 st xs) :
    Calls Tryd.prog 34 #[.pointer (some ⟨st, 0, none⟩), .int .i64 t] w fun e w' => ∃ A c, e = .returned (.tuple #[.agg #[.int .i64 (nodeF xs t).o, .int .i64 (nodeF xs t).n, .string (nodeF xs t).s, .slice A (nodeF xs t).l.length c], .int .i64 (nodeE xs t)]) ∧ w'.ownsRow w.heap.size 3 1 (.slice A (nodeF xs t).l.length c) (nodeF xs t).l.length ((nodeF xs t).l.map (.int .i64)) ∧ Below w.heap.size w w' := by
  have H := hid h
  have B0 := hid (show Below w.heap.size w (w.alloc (.cells #[.int .i64 0, .int .i64 0, .string ⟨#[]⟩, .slice none 0 0] 60)) from (Below.refl _ _).alloc (Nat.le_refl _) _)
  clear h
  rcases hh : hasB xs t with _ | _
  · have HF := hid (show nodeF xs t = nd0 by unfold nodeF; rw [hh]; rfl)
    have HE := hid (show nodeE xs t = 4 by unfold nodeE; rw [hh]; rfl)
    go_enter Tryd.func34, Tryd.ntmps34
    go_wp2_with fail
    refine (has_any st xs t _ (H.out.ext B0.out)).mono ?_
    rintro e1 w1 ⟨rfl, hw⟩
    subst hw
    rw [hh]
    go_wp2_with fail
    refine bodyPost_ret (v := .tuple #[.agg #[.int .i64 0, .int .i64 0, .string ⟨#[]⟩, .slice none 0 0], .int .i64 4]) ?_ rfl ⟨none, 0, ?_, ?_, B0.out⟩
    · rw [results_cell_tmp rfl]
      go_simp
    · rw [HF.out, HE.out]; rfl
    · rw [HF.out]; exact World.ownsRow_nil _ _ _ _
  · have HF := hid (show nodeE xs t = 0 by unfold nodeE; rw [hh]; rfl)
    have X0 := hid (show (w.alloc (.cells #[.int .i64 0, .int .i64 0, .string ⟨#[]⟩, .slice none 0 0] 60)).ownsRow w.heap.size 60 4 (.slice (some ⟨w.heap.size, 0, none⟩) 1 1) 1 [.int .i64 0, .int .i64 0, .string ⟨#[]⟩, .slice none 0 0] from
      ⟨by simp, .inr ⟨w.heap.size, 1, _, rfl, Nat.le_refl _, heap_alloc_new w _, Nat.le_refl _, by decide, rfl, by simp⟩⟩)
    go_enter Tryd.func34, Tryd.ntmps34
    go_wp2_with fail
    refine (has_any st xs t _ (H.out.ext B0.out)).mono ?_
    rintro e1 w1 ⟨rfl, hw⟩
    subst hw
    rw [hh]
    generalize w.alloc (.cells #[.int .i64 0, .int .i64 0, .string ⟨#[]⟩, .slice none 0 0] 60) = W0 at *
    have hhb := hh
    unfold hasB at hhb
    simp only [Bool.and_eq_true, decide_eq_true_eq] at hhb
    obtain ⟨hz0, hz1⟩ := hhb
    obtain ⟨j, rfl⟩ := Int.eq_ofNat_of_zero_le hz0
    have hlt0 : w.heap.size < W0.heap.size := (X0.out.lt w.heap.size rfl).2
    obtain ⟨A', c', m', q0, qm, hnd⟩ := (H.out.ext B0.out).parts
    have hjn : j < xs.length := by omega
    obtain ⟨bn, on, y, Ay, cy, rfl, hy, y0, y1, y2, y3, hsy⟩ := hnd.at hjn
    have HY := hid (show nodeF xs (j : Int) = y by
      unfold nodeF
      rw [hh, if_pos rfl, Int.toNat_natCast, List.getD, hy]; rfl)
    have HSY := hid hsy
    have hyl : y.l.length ≤ 64 := by
      have := (H.out.ok.may j y hy)
      unfold mayB shB at this
      simp only [Bool.and_eq_true, decide_eq_true_eq] at this
      exact this.1.1.1.1.1.1.2
    clear hh hy hsy hnd hz0 hz1
    go_wp2_with fail
    refine (clone_own Ay _ cy y.l _ (HSY.out.alloc _) (by omega)).mono ?_
    rintro e3 w3 ⟨q0', rfl, oq, b3⟩
    obtain ⟨Aq, cq, rfl, -⟩ := SlA.owned oq
    have X1 := hid (own_ext (own_ext X0.out ((Below.refl _ _).alloc (Nat.le_refl _) (.cells #[.int .i64 y.o, .int .i64 y.n, .string y.s, .slice Ay y.l.length cy] 60))) b3)
    have X2 := hid (own_ext (show (W0.alloc (.cells #[.int .i64 y.o, .int .i64 y.n, .string y.s, .slice Ay y.l.length cy] 60)).ownsRow W0.heap.size 60 4 (.slice (some ⟨W0.heap.size, 0, none⟩) 1 1) 1 [.int .i64 y.o, .int .i64 y.n, .string y.s, .slice Ay y.l.length cy] from
      ⟨by simp, .inr ⟨W0.heap.size, 1, _, rfl, Nat.le_refl _, heap_alloc_new W0 _, Nat.le_refl _, by decide, rfl, by simp⟩⟩) b3)
    have B3 := hid ((B0.out.alloc B0.out.size (.cells #[.int .i64 y.o, .int .i64 y.n, .string y.s, .slice Ay y.l.length cy] 60)).trans (b3.mono (by have := B0.out.size; simp; omega)))
    have OQ := hid oq
    have hsz1 : (W0.alloc (.cells #[.int .i64 y.o, .int .i64 y.n, .string y.s, .slice Ay y.l.length cy] 60)).heap.size = W0.heap.size + 1 := by simp
    obtain ⟨⟨k0, k1, k2, k3⟩, f0, f1, f2, f3⟩ := box4 X1.out
    obtain ⟨⟨l0, l1, l2, l3⟩, g0, g1, g2, g3⟩ := box4 X2.out
    have hne1 : ¬ W0.heap.size = w.heap.size := by omega
    have hne2 : ¬ w.heap.size = W0.heap.size := by omega
    rw [hsz1] at oq
    have HQ := hid oq
    clear oq b3 y0 y1 y2 y3 q0 qm
    go_wp2
    refine bodyPost_ret (v := .tuple #[.agg #[.int .i64 y.o, .int .i64 y.n, .string y.s, .slice Aq y.l.length cq], .int .i64 0]) ?_ rfl ⟨Aq, cq, ?_, ?_, ?_⟩
    · rw [results_cell_tmp rfl]
      go_simp
    · rw [HY.out, HF.out]
    · rw [HY.out]
      refine own_mono (own_block HQ.out fun b hb => ?_) (by omega)
      have hb1 := (HQ.out.lt b hb).1
      rw [Below.heap_setCell _ _ _ b (by show b ≠ w.heap.size; omega), Below.heap_setCell _ _ _ b (by show b ≠ w.heap.size; omega), Below.heap_setCell _ _ _ b (by show b ≠ w.heap.size; omega), Below.heap_setCell _ _ _ b (by show b ≠ w.heap.size; omega), Below.heap_setCell _ _ _ b (by show b ≠ W0.heap.size; omega)]
    · exact ((((B3.out.setCell (p := ⟨W0.heap.size, 3, none⟩) (by show w.heap.size ≤ W0.heap.size; omega) _).setCell (p := ⟨w.heap.size, 0, none⟩) (Nat.le_refl _) _).setCell (p := ⟨w.heap.size, 1, none⟩) (Nat.le_refl _) _).setCell (p := ⟨w.heap.size, 2, none⟩) (Nat.le_refl _) _).setCell (p := ⟨w.heap.size, 3, none⟩) (Nat.le_refl _) _
end Go.Proofs.YtfmkniakfgpgjaaDoor

