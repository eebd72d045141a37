/- term: a node's text among others, walked. -/
import Derived.Test.YtkgobglmkhkbbaaGreatDoorA4
import Derived.Lib.AppendIntMem
import Derived.Lib.ItoaLen
namespace Go.Proofs.YtkgobglmkhkbbaaGreatDoor
open Go.RowKit Go.KK Go.Shelf
set_option linter.unusedVariables false
set_option linter.unusedSimpArgs false

theorem Tryz.infoU8 : (Tryz.prog.info? 5).map (fun i => (i.zero, i.size, i.bytes)) = some (some (.int .u8 0), 1, 1) := by kernel_rfl
theorem Tryz.infoInt : (Tryz.prog.info? 3).map (fun i => (i.zero, i.size, i.bytes)) = some (some (.int .i64 0), 1, 8) := by kernel_rfl
/-- The table of tens is there, whatever is done from block B on. -/
abbrev Tb (B : Nat) (w : World) : Prop := Lib.TabBelow Tryz.prog B w "internal/strconv.uint64pow10" .u64 Lib.pow10Tab
theorem Tb.up {B B' : Nat} {w : World} (h : Tb B w) (hb : B ≤ B') : Tb B' w := fun w' h' => h w' (h'.mono hb)

section
variable {w w' : World} {B B' : Nat} {e e' : TypeId} {size size' n n' : Nat} {v v' : Value} {cs cs' : List Value}
theorem own_others {t : TypeId} (h : w.ownsRow B e size v n cs) (ho : Lib.OthersKept t none w w') (hne : e ≠ t) : w'.ownsRow B e size v n cs := by
  refine ⟨h.1, ?_⟩
  rcases h.2 with h2 | ⟨g, cap, cur, e1, hg, hh, r⟩
  · exact .inl h2
  · refine .inr ⟨g, cap, cur, e1, hg, ho g _ hh (by simp) (fun c fz e2 => ?_), r⟩
    injection e2 with _ e2
    exact hne e2
theorem own_apart (h : w.ownsRow B e size v n cs) (h' : w.ownsRow B' e' size' v' n' cs') (hne : e ≠ e') (b : Nat) (hb : v.ownBlock = some b) : v'.ownBlock ≠ some b := by
  intro hb'
  rcases h.2 with ⟨rfl, _⟩ | ⟨g, cap, cur, rfl, hg, hh, r⟩
  · cases hb
  · rcases h'.2 with ⟨rfl, _⟩ | ⟨g', cap', cur', rfl, hg', hh', r'⟩
    · cases hb'
    · injection hb with hb; injection hb' with hb'
      simp only at hb hb'
      subst hb; subst hb'
      rw [hh] at hh'
      injection hh' with hh'
      injection hh' with _ hh'
      exact hne hh'
theorem own_grown (h : w.ownsRow B e size v n cs) (hg : w.grownBy w' v'.ownBlock) (h' : w.ownsRow B' e' size' v' n' cs') (hne : e ≠ e') : w'.ownsRow B e size v n cs :=
  h.kept hg (by
    rcases hv : v.ownBlock with _ | b
    · exact .inl rfl
    · exact .inr fun e2 => own_apart h h' hne b hv e2.symm)
end
theorem bytes_ints (l : List UInt8) : Lib.byteCells l = (l.map fun b => (b.toNat : Int)).map (.int .u8) := by unfold Lib.byteCells; rw [List.map_map]; rfl
theorem str_back (l : List UInt8) : (strOfNums (l.map fun b => (b.toNat : Int))).data.toList = l := by
  rw [strOfNums_data, List.map_map]
  conv => rhs; rw [← List.map_id l]
  refine List.map_congr_left fun b _ => ?_
  simp
theorem itoa_le (i : Int) (h0 : -9223372036854775808 ≤ i) (h1 : i ≤ 9223372036854775807) : (Lib.itoa i).length ≤ 21 := Lib.itoa_length_le i h0 h1
/-- int's numbers. -/
def I64 (i : Int) : Prop := -9223372036854775808 ≤ i ∧ i ≤ 9223372036854775807
theorem join_le {l : List Int} (h : ∀ i ∈ l, I64 i) : (joinB l).length ≤ 22 * l.length := by
  induction l with
  | nil => simp [joinB]
  | cons x l ih =>
    rw [joinB_cons]
    have h1 := itoa_le x (h x (by simp)).1 (h x (by simp)).2
    have h2 := ih fun i hi => h i (by simp [hi])
    simp only [List.length_cons, List.length_append]
    omega
theorem take_snoc {α : Type} {l : List α} {j : Nat} {x : α} (h : l[j]? = some x) : l.take (j + 1) = l.take j ++ [x] := by
  rw [List.take_add_one, h]; rfl
set_option maxHeartbeats 4000000 in
set_option maxRecDepth 20000 in
theorem key_any (x : ND) (A : Option Addr) (c : Nat) (w : World) (hl : SlA w 1 A x.l.length c (x.l.map (.int .i64))) (hT : Tb w.heap.size w) (hn : x.l.length ≤ 64) (ho : I64 x.o) (hn64 : I64 x.n) (hli : ∀ i ∈ x.l, I64 i) (hs : x.s.size ≤ 200) :
    Calls Tryz.prog 92 #[.agg #[.int .i64 x.o, .int .i64 x.n, .string x.s, .slice A x.l.length c]] w fun e w' => ∃ K : ByteArray, e = .returned (.string K) ∧ K.data.toList = keyP x ∧ Below w.heap.size w w' := by
  obtain ⟨i0, hi, hz0, hz1, hz2⟩ := info_parts Tryz.infoU8
  obtain ⟨j0, hj, hy0, hy1, hy2⟩ := info_parts Tryz.infoInt
  have HS := hid hl; have HT := hid hT; have HO := hid ho; have HN := hid hn64
  have HLI := hid (show ∀ i ∈ x.n :: x.l, I64 i from fun i h => by
    rcases List.mem_cons.1 h with rfl | h
    · exact hn64
    · exact hli i h)
  have B0 := hid (show Below w.heap.size w (w.alloc (.cells #[.int .i64 x.o, .int .i64 x.n, .string x.s, .slice A x.l.length c] 88)) from (Below.refl _ _).alloc (Nat.le_refl _) _)
  have C0 := hid (show let W := w.alloc (.cells #[.int .i64 x.o, .int .i64 x.n, .string x.s, .slice A x.l.length c] 88)
    W.cell? ⟨w.heap.size, 1, none⟩ = some (.int .i64 x.n) ∧ W.cell? ⟨w.heap.size, 2, none⟩ = some (.string x.s) ∧ W.cell? ⟨w.heap.size, 3, none⟩ = some (.slice A x.l.length c) ∧ w.heap.size < W.heap.size by
      refine ⟨?_, ?_, ?_, by simp⟩
      all_goals (rw [World.cell?_alloc_at _ _ _ _ rfl]; rfl))
  clear hl hT ho hn64 hli
  go_enter Tryz.func92, Tryz.ntmps92
  go_wp2_with fail
  refine (Tryz.strconv_AppendInt_10 (w.heap.size + 1) 0 x.o HO.out.1 HO.out.2 _ [] _ (World.ownsRow_nil _ _ _ _) (by simp) (by omega) (Tb.up (HT.out.on B0.out) (by omega))).mono ?_
  rintro e1 w1 ⟨v1, rfl, o1, b1, -⟩
  obtain ⟨c1, c2, c3, hlt⟩ := C0.out
  generalize w.alloc (.cells #[.int .i64 x.o, .int .i64 x.n, .string x.s, .slice A x.l.length c] 88) = W0 at *
  rw [Nat.zero_add, List.nil_append] at o1
  have k1 := (b1.cell (p := ⟨w.heap.size, 1, none⟩) (by show w.heap.size < _; omega)).trans c1
  have k2 := (b1.cell (p := ⟨w.heap.size, 2, none⟩) (by show w.heap.size < _; omega)).trans c2
  have k3 := (b1.cell (p := ⟨w.heap.size, 3, none⟩) (by show w.heap.size < _; omega)).trans c3
  have B1 := hid b1; have O1 := hid o1; have HLT := hid hlt
  have BW1 := hid (B0.out.trans (b1.mono (by omega)))
  have HS1 := hid (HS.out.ext BW1.out)
  have hsz1 : w.heap.size + 1 ≤ w1.heap.size := by have := b1.size; omega
  have C2 := hid c2
  clear b1 o1 c1 c2 c3 hlt C0
  have k3' : (w1.alloc (.cells #[.int .i64 x.n] 3)).cell? ⟨w.heap.size, 3, none⟩ = some (.slice A x.l.length c) := (World.cell?_alloc_old _ _ _ (show w.heap.size ≠ w1.heap.size by omega)).trans k3
  go_wp2_with (at_builtin; refine wpList_append_sl _ rfl _ _ 22 rfl (w.heap.size + 1) 3 j0 (.int .i64 0) 1 8 Tryz.underlying22 hj hy0 hy1 hy2 rfl (by decide) _ 1 [.int .i64 x.n] rfl (World.ownsRow_lit (e := 3) (base := w.heap.size + 1) (size := 1) w1 #[.int .i64 x.n] 1 (by omega) (by unfold maxLen; omega) rfl) A _ c _ rfl ((HS1.out).alloc _) (ints_one _ _) (by unfold maxLen; omega) (by omega) (by simp; omega) ?_; intro v2 w2 hown2 hg2 _; have HO2 := hid hown2; have HG2 := hid hg2; obtain ⟨A2, d2, rfl, hs2⟩ := SlA.owned hown2; clear hg2 hown2)
  have O2 := hid (own_grown ((O1.out).alloc (.cells #[.int .i64 x.n] 3)) HG2.out (World.ownsRow_lit (e := 3) (base := w.heap.size + 1) (size := 1) w1 #[.int .i64 x.n] 1 (by omega) (by unfold maxLen; omega) rfl) (by decide))
  have B2 := hid ((B1.out.alloc (by omega) (.cells #[.int .i64 x.n] 3)).grown HG2.out (by simp; omega) (fun k hk => by have hk : some w1.heap.size = some k := hk; injection hk with hk; omega))
  have HL2 := hid (show [Value.int .i64 x.n] ++ x.l.map (.int .i64) = (x.n :: x.l).map (.int .i64) from rfl)
  rw [HL2.out] at HO2
  have hs2' := HO2.out
  clear hs2 hs2' k3'
  generalize hLL : x.n :: x.l = L at *
  have HLL := hid hLL
  have HLN := hid (show L.length = 1 + x.l.length by rw [← hLL]; simp; omega)
  clear hLL
  go_wp2
  go_loopw [16, 3] (fun i v wr => ∃ (j m : Nat), i = .int .i64 j ∧ j ≤ L.length ∧ Hid (m ≤ 21 + 22 * j) ∧ wr.ownsRow (w.heap.size + 1) 5 1 v m (Lib.byteCells (Lib.itoa x.o ++ joinB (L.take j))) ∧ wr.ownsRow (w.heap.size + 1) 3 1 (.slice A2 (1 + x.l.length) d2) (1 + x.l.length) (L.map (.int .i64)) ∧ Below (w.heap.size + 1) W0 wr) (fun i _ _ => L.length - (intOf i).toNat)
  case atStart => exact ⟨0, _, rfl, Nat.zero_le _, hid (by have := itoa_le x.o HO.out.1 HO.out.2; omega), by rw [List.take_zero]; simpa [joinB] using O2.out, HO2.out, B2.out⟩
  case round =>
    obtain ⟨j, m, hi', hj', HM, hv, hL, hb⟩ := hrel
    subst hi'
    have HV := hid hv; have HRow := hid hL; have HB := hid hb
    have hm : m ≤ 2000 := by have := HM.out; have := HLN.out; omega
    have hbs : w.heap.size + 1 ≤ wr.heap.size := by have := hb.size; have := HLT.out; omega
    have HSL := hid (SlA.of_own hL).2
    clear hv hL hb
    by_cases hlt : j < L.length
    · obtain ⟨b2, o2, z, rfl, hz, hc⟩ := HSL.out.elemI (show j < 1 + x.l.length by have := HLN.out; omega)
      have HZ := hid hz
      have HZ6 := hid (HLI.out z (List.mem_of_getElem? hz))
      clear hz
      have hjl : (j : Int) < 1 + (x.l.length : Int) := by have := HLN.out; omega
      go_wp2_with (first
        | (at_builtin; refine wpList_append_sl _ rfl _ _ 128 rfl (w.heap.size + 1) 5 i0 (.int .u8 0) 1 1 Tryz.underlying128 hi hz0 hz1 hz2 rfl (by decide) _ _ _ rfl ((HV.out).alloc _) _ _ _ _ rfl (SlA.lit1 (.int .u8 32)) (one_int _ _) (by unfold maxLen; omega) (by omega) (by simp; omega) ?_; intro v3 w3 h3 g3 _; have H3 := hid h3; have G3 := hid g3; clear h3 g3)
        | fail)
      have hb3 := (HB.out.alloc hbs (.cells #[.int .u8 32] 5)).grown G3.out (by simp; omega) (fun k hk => (HV.out.lt k hk).1)
      have HB3 := hid hb3
      have hs3 : w.heap.size + 1 ≤ w3.heap.size := by have := hb3.size; have := HLT.out; omega
      clear hb3
      refine (Tryz.strconv_AppendInt_10 (w.heap.size + 1) (m + 1) z HZ6.out.1 HZ6.out.2 v3 _ _ H3.out hs3 (by omega) (Tb.up ((HT.out.on B0.out).on (HB3.out.mono (by omega))) (by omega))).mono ?_
      rintro e4 w4 ⟨v4, rfl, o4, b4, q4⟩
      have O4 := hid o4; have Q4 := hid q4; have B4 := hid b4
      clear o4 q4 b4
      have HJO := hid (show Lib.byteCells (Lib.itoa x.o ++ joinB (L.take j)) ++ [.int .u8 32] ++ Lib.byteCells (Lib.itoa z) = Lib.byteCells (Lib.itoa x.o ++ joinB (L.take (j + 1))) by
        rw [take_snoc HZ.out, joinB_snoc]
        simp [Lib.byteCells])
      have hiz := itoa_le z HZ6.out.1 HZ6.out.2
      go_wp2
      go_roundw
      case rel =>
        refine ⟨j + 1, m + 1 + (Lib.itoa z).length, by go_num, by omega, hid (by have := HM.out; omega), ?_, ?_, ?_⟩
        · rw [← HJO.out]; exact O4.out
        · exact own_others (own_grown ((HRow.out).alloc _) G3.out ((HV.out).alloc _) (by decide)) Q4.out (by decide)
        · exact HB3.out.trans B4.out
      case measure => simp [intOf]; omega
    · have hjl : ¬ (j : Int) < 1 + (x.l.length : Int) := by have := HLN.out; omega
      have HTK := hid (show L.take j = L from List.take_of_length_le (by omega))
      obtain ⟨Av, cv, rfl, hsv⟩ := SlA.owned HV.out
      rw [HTK.out, bytes_ints] at hsv
      have hcv := run_str_sl (P := Tryz.prog) wr 128 9 5 Tryz.underlying128 Tryz.underlying5 Tryz.underlying9 Av m cv _ hsv
      have k2' := (HB.out.cell (p := ⟨w.heap.size, 2, none⟩) (by show w.heap.size < _; omega)).trans C2.out
      have HSB := hid (str_back (Lib.itoa x.o ++ joinB L))
      generalize strOfNums ((Lib.itoa x.o ++ joinB L).map fun b => (b.toNat : Int)) = KS at *
      clear hsv
      have hks : KS.size ≤ 2000 := by
        have h1 : KS.size = KS.data.toList.length := rfl
        rw [h1, HSB.out, List.length_append]
        have h2 := itoa_le x.o HO.out.1 HO.out.2
        have h3 := join_le HLI.out
        have := HLN.out
        omega
      have hk1 : ¬ 9223372036854775807 < KS.size + 1 := by omega
      have hk2 : ¬ 9223372036854775807 < KS.size + 1 + x.s.size := by omega
      go_wp2
      go_ret
      refine ⟨_, rfl, ?_, (B0.out.trans (HB.out.mono (by omega)))⟩
      unfold keyP
      rw [HLL.out]
      have h1 : (KS ++ (⟨#[124]⟩ : ByteArray) ++ x.s).data.toList = KS.data.toList ++ [124] ++ x.s.data.toList := by
        rw [ByteArray.data_append, ByteArray.data_append, Array.toList_append, Array.toList_append]
      rw [h1, HSB.out]
      simp
end Go.Proofs.YtkgobglmkhkbbaaGreatDoor
