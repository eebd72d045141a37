/- the document's layer 3: show. -/
import Derived.Test.YtadbgmfdbahcbaaGreatDoorY2
import Derived.Test.YtadbgmfdbahcbaaGreatDoorW5
import Derived.Test.YtadbgmfdbahcbaaGreatDoorMB
namespace Go.Proofs.YtadbgmfdbahcbaaGreatDoor
open Go.RowKit Go.KK Go.Shelf Go.Maps
set_option linter.unusedVariables false
set_option linter.unusedSimpArgs false

theorem preT_le {xs : List ND} (ok : Okay xs) {t : Nat} {x : ND} (hx : xs[t]? = some x) (h1 : x.o ≠ 1) (h2 : x.o ≠ 2) (j : Nat) : (preT xs x j).length + 1 ≤ (showL xs t).length := by
  rw [preT_end ok hx h1 h2, List.length_append]
  have h : (preT xs x j).length ≤ (preT xs x x.l.length).length := by
    unfold preT
    have := joinC_le (x.l.map fun y => showL xs y.toNat) j
    rw [List.take_length, List.map_take]
    simp only [List.length_append, List.length_cons]
    omega
  simp only [List.length_cons, List.length_nil]
  omega
/-- What the document's show leaves. -/
def RshS (w : World) (T : List UInt8) (most : Int) (e : Ending) (w' : World) : Prop :=
  ∃ S : ByteArray, e = .returned (.tuple #[.string S, .bool (decide ((T.length : Int) ≤ most))]) ∧ ((T.length : Int) ≤ most → S = ⟨T.toArray⟩) ∧ Below w.heap.size w w'
/-- The document's show of a term, whatever is left. -/
def RshC (W0 : World) (sb : Nat) (xs : List ND) (t : Nat) : Prop := ∀ (most : Int) (w : World), most ≤ 4000 → -(7 * (100001 - (t : Int))) ≤ most → Below W0.heap.size W0 w →
    Calls Tryz.prog 40 #[.pointer (some ⟨sb, 0, none⟩), .int .i64 t, .int .i64 most] w (RshS w (showL xs t) most)
section
variable (W0 : World) (sb : Nat) (xs : List ND)
/-- The cells of a term's node. -/
theorem rsh_cells {t : Nat} {x : ND} (hA : ArV W0 58 sb xs) (hx : xs[t]? = some x) : ∃ c bn on A' c', ∀ w, Below W0.heap.size W0 w → w.cell? ⟨sb, 0, none⟩ = some (.slice (some ⟨bn, on, none⟩) xs.length c) ∧
    w.cell? ⟨bn, on + t * 4, none⟩ = some (.int .i64 x.o) ∧ w.cell? ⟨bn, on + t * 4 + 1, none⟩ = some (.int .i64 x.n) ∧ w.cell? ⟨bn, on + t * 4 + 2, none⟩ = some (.string x.s) ∧ w.cell? ⟨bn, on + t * 4 + 3, none⟩ = some (.slice A' x.l.length c') ∧ SlA w 1 A' x.l.length c' (x.l.map (.int .i64)) := by
  have htl := (List.getElem?_eq_some_iff.1 hx).1
  obtain ⟨A, c, m, h0, -, hnd⟩ := hA.parts
  obtain ⟨bn, on, y, A', c', rfl, hy, y0, y1, y2, y3, y4⟩ := hnd.at htl
  rw [hx] at hy
  injection hy with hy
  subst hy
  have up : ∀ {w : World} {p : Addr} {v : Value}, Below W0.heap.size W0 w → W0.cell? p = some v → w.cell? p = some v := fun hb h => (hb.cell (p := _) (block_lt_of_cell h)).trans h
  exact ⟨c, bn, on, A', c', fun w hb => ⟨up hb h0, up hb y0, up hb y1, up hb y2, up hb y3, y4.ext hb⟩⟩
set_option maxHeartbeats 2000000 in
set_option maxRecDepth 100000 in
theorem rsh_atom (t : Nat) (hA : ArV W0 58 sb xs) (x : ND) (hx : xs[t]? = some x) (ho : x.o = 1) (h0 : 0 ≤ x.n) (hn : I64 x.n) : RshC W0 sb xs t := by
  intro most w hm hm2 hb
  have hsh : showL xs t = 35 :: Lib.decDigits x.n.toNat := by rw [show_at hx]; unfold textOf; rw [if_pos ho, itoa_nat h0]
  have htl := (List.getElem?_eq_some_iff.1 hx).1
  have htl' : (t : Int) < (xs.length : Int) := by omega
  obtain ⟨c, bn, on, A', c', HC⟩ := rsh_cells W0 sb xs hA hx
  obtain ⟨c0, y0, y1, y2, y3, -⟩ := HC w hb
  rw [ho] at y0
  have hds := digS_le x.n.toNat (by have := hn.2; omega)
  have hcat : ¬ 9223372036854775807 < 1 + (digS x.n.toNat).size := by omega
  have HDG := hid (fun W => digits_any x.n W h0 (by have := hn.2; omega))
  obtain ⟨D, hD⟩ : ∃ D : ByteArray, D = digS x.n.toNat := ⟨_, rfl⟩
  have hle : ((showL xs t).length : Int) = 1 + (D.size : Int) := by
    rw [hsh, hD]; show ((35 :: Lib.decDigits x.n.toNat).length : Int) = 1 + (((Lib.decDigits x.n.toNat).toArray.size : Nat) : Int); simp; omega
  have HSD := hid (show (⟨#[35]⟩ : ByteArray) ++ D = ⟨(showL xs t).toArray⟩ by rw [hD, hsh]; exact str_app [35] _)
  unfold Dig at HDG
  rw [← hD] at hcat hds HDG
  unfold RshS
  rw [hle]
  clear hb hx HC ho hA hsh hle hD
  go_enter Tryz.func40, Tryz.ntmps40
  go_wp2_with fail
  refine (HDG.out _).mono ?_
  rintro e w' ⟨rfl, q, hw⟩
  subst hw
  go_wp2_with fail
  go_ret2
  exact ⟨_, by first | rfl | (congr 3), fun _ => HSD.out, below_drewN ((Below.refl _ _).alloc (Nat.le_refl _) _) _⟩
set_option maxHeartbeats 2000000 in
set_option maxRecDepth 100000 in
theorem rsh_text (t : Nat) (hA : ArV W0 58 sb xs) (x : ND) (hx : xs[t]? = some x) (ho : x.o = 2) (hss : x.s.size ≤ 200) : RshC W0 sb xs t := by
  intro most w hm hm2 hb
  have hsh : showL xs t = 34 :: (escB x.s.data.toList ++ [34]) := by rw [show_at hx]; unfold textOf; rw [if_neg (by omega), if_pos ho]
  have htl := (List.getElem?_eq_some_iff.1 hx).1
  have htl' : (t : Int) < (xs.length : Int) := by omega
  obtain ⟨c, bn, on, A', c', HC⟩ := rsh_cells W0 sb xs hA hx
  obtain ⟨c0, y0, y1, y2, y3, -⟩ := HC w hb
  rw [ho] at y0
  have HSH := hid hsh
  clear hb hx HC ho hA hsh
  generalize x.s = s at *
  go_enter Tryz.func40, Tryz.ntmps40
  go_wp2_with fail
  have q2 : (w.alloc (.cells #[.int .i64 2, .int .i64 x.n, .string s, .slice A' x.l.length c'] 29)).cell? ⟨w.heap.size, 2, none⟩ = some (.string s) := by rw [World.cell?_alloc_at _ _ _ _ rfl]; rfl
  have HBW := hid (show Below w.heap.size w (w.alloc (.cells #[.int .i64 2, .int .i64 x.n, .string s, .slice A' x.l.length c'] 29)) from (Below.refl _ _).alloc (Nat.le_refl _) _)
  generalize w.alloc (.cells #[.int .i64 2, .int .i64 x.n, .string s, .slice A' x.l.length c'] 29) = W1 at *
  generalize hh : w.heap.size = h0 at *
  have HHS := hid hh
  clear hh y0 y1 y2 y3 c0
  go_loopw [9, 10] (fun v9 v10 wr => ∃ i : Nat, v10 = .int .i64 i ∧ i ≤ s.size ∧ wr = W1 ∧ ∃ S : ByteArray, v9 = .string S ∧ Hid (S = ⟨(34 :: escB (s.data.toList.take i)).toArray⟩) ∧ S.size ≤ 1 + 2 * i) (fun _ v10 _ => s.size - (intOf v10).toNat)
  case atStart => exact ⟨0, rfl, Nat.zero_le _, rfl, _, rfl, hid rfl, by decide⟩
  case round =>
    obtain ⟨i, hv, hi, hw, S, hv9, HS, hsz⟩ := hrel
    subst hw; subst hv; subst hv9
    by_cases hlt : i < s.size
    · have hlt' : (i : Int) < (s.size : Int) := by omega
      obtain ⟨y, hy⟩ : ∃ y : UInt8, s[i]'hlt = y := ⟨_, rfl⟩
      have hyl : s.data.toList[i]? = some y := by rw [← hy]; exact Lib.data_getElem? s i hlt
      have HTK := hid (show escB (s.data.toList.take (i + 1)) = escB (s.data.toList.take i) ++ (if y = 34 ∨ y = 92 then [92, y] else [y]) by rw [take_one hyl, esc_snoc])
      have HEX := hid (show s.extract i (i + 1) = ⟨[y].toArray⟩ by
        apply str_ext
        rw [ByteArray.data_extract, Array.toList_extract]
        show List.extract _ _ _ = [y]
        rw [List.extract_eq_take_drop]
        have : i + 1 - i = 1 := by omega
        rw [this]
        have hd := List.drop_eq_getElem_cons (l := s.data.toList) (i := i) (by have := (List.getElem?_eq_some_iff.1 hyl).1; exact this)
        rw [hd]
        have he := (List.getElem?_eq_some_iff.1 hyl).2
        rw [he]; rfl)
      clear hyl
      obtain ⟨X1, hX1⟩ : ∃ X : ByteArray, X = s.extract i (i + 1) := ⟨_, rfl⟩
      have hX1s : X1.size = 1 := by rw [hX1, HEX.out]; rfl
      by_cases h1 : y = 34
      · subst h1
        have HN1 := hid (show S ++ ⟨#[92]⟩ ++ X1 = ⟨(34 :: escB (s.data.toList.take (i + 1))).toArray⟩ by
          rw [HS.out, hX1, HEX.out, show (⟨#[92]⟩ : ByteArray) = ⟨[92].toArray⟩ from rfl, str_app, str_app, HTK.out, if_pos (by simp)]; simp)
        have hc1 : ¬ 9223372036854775807 < S.size + 1 := by omega
        have hc2 : ¬ 9223372036854775807 < (S ++ (⟨#[92]⟩ : ByteArray)).size + X1.size := by rw [ByteArray.size_append]; have : (⟨#[92]⟩ : ByteArray).size = 1 := rfl; omega
        have hc3 : ¬ 9223372036854775807 < S.size + 1 + X1.size := by omega
        have hsz1 : (S ++ (⟨#[92]⟩ : ByteArray) ++ X1).size ≤ 1 + 2 * (i + 1) := by rw [ByteArray.size_append, ByteArray.size_append]; have : (⟨#[92]⟩ : ByteArray).size = 1 := rfl; omega
        clear HTK
        rw [← hX1] at HEX
        have hX := hX1.symm
        clear hX1
        go_wp2_with fail
        go_roundw
        case rel => exact ⟨i + 1, by go_num, by omega, by first | rfl | trivial, _, rfl, HN1, hsz1⟩
        case measure => simp [intOf]; omega
      · by_cases h2 : y = 92
        · subst h2
          have HN1 := hid (show S ++ ⟨#[92]⟩ ++ X1 = ⟨(34 :: escB (s.data.toList.take (i + 1))).toArray⟩ by
            rw [HS.out, hX1, HEX.out, show (⟨#[92]⟩ : ByteArray) = ⟨[92].toArray⟩ from rfl, str_app, str_app, HTK.out, if_pos (by simp)]; simp)
          have hc1 : ¬ 9223372036854775807 < S.size + 1 := by omega
          have hc2 : ¬ 9223372036854775807 < (S ++ (⟨#[92]⟩ : ByteArray)).size + X1.size := by rw [ByteArray.size_append]; have : (⟨#[92]⟩ : ByteArray).size = 1 := rfl; omega
          have hc3 : ¬ 9223372036854775807 < S.size + 1 + X1.size := by omega
          have hsz1 : (S ++ (⟨#[92]⟩ : ByteArray) ++ X1).size ≤ 1 + 2 * (i + 1) := by rw [ByteArray.size_append, ByteArray.size_append]; have : (⟨#[92]⟩ : ByteArray).size = 1 := rfl; omega
          clear HTK
          rw [← hX1] at HEX
          have hX := hX1.symm
          clear hX1
          go_wp2_with fail
          go_roundw
          case rel => exact ⟨i + 1, by go_num, by omega, by first | rfl | trivial, _, rfl, HN1, hsz1⟩
          case measure => simp [intOf]; omega
        · have hdum : True := trivial
          have HN1 := hid (show S ++ X1 = ⟨(34 :: escB (s.data.toList.take (i + 1))).toArray⟩ by
            rw [HS.out, hX1, HEX.out, str_app, HTK.out, if_neg (fun h => h.elim h1 h2)]; rfl)
          have hc1 : ¬ 9223372036854775807 < S.size + X1.size := by omega
          have hy1 : ((y.toNat : Int) == 34) = false := beq_eq_false_iff_ne.2 (fun e => h1 (UInt8.toNat_inj.1 (show y.toNat = 34 by omega)))
          have hy2 : ((y.toNat : Int) == 92) = false := beq_eq_false_iff_ne.2 (fun e => h2 (UInt8.toNat_inj.1 (show y.toNat = 92 by omega)))
          have hsz1 : (S ++ X1).size ≤ 1 + 2 * (i + 1) := by rw [ByteArray.size_append]; omega
          clear h1 h2 HTK
          rw [← hX1] at HEX
          have hX := hX1.symm
          clear hX1
          go_wp2_with fail
          go_roundw
          case rel => exact ⟨i + 1, by go_num, by omega, by first | rfl | trivial, _, rfl, HN1, hsz1⟩
          case measure => simp [intOf]; omega
    · obtain rfl : i = s.size := by omega
      have hlt' : ¬ (s.size : Int) < (s.size : Int) := by omega
      have HN1 := hid (show S ++ ⟨#[34]⟩ = ⟨(showL xs t).toArray⟩ by
        rw [HS.out, List.take_of_length_le (by simp), show (⟨#[34]⟩ : ByteArray) = ⟨[34].toArray⟩ from rfl, str_app, HSH.out]; rfl)
      have hle : (showL xs t).length = S.size + 1 := by
        have h := congrArg ByteArray.size HN1.out
        rw [ByteArray.size_append, bsz] at h
        exact h.symm
      have hc1 : ¬ 9223372036854775807 < S.size + 1 := by omega
      have HLE := hid hle
      clear hle
      go_wp2_with fail
      go_ret2
      exact ⟨_, by rw [HLE.out]; first | rfl | (push_cast; rfl) | simp, fun _ => HN1.out, by rw [HHS.out]; exact HBW.out⟩
set_option maxHeartbeats 4000000 in
set_option maxRecDepth 100000 in
theorem rsh_node (t : Nat) (hA : ArV W0 58 sb xs) (hok : Okay xs) (x : ND) (hx : xs[t]? = some x) (k : Nat) (ho : x.o = (k : Int)) (h3 : 3 ≤ k) (h12 : k ≤ 12) (ih : ∀ y ∈ x.l, ∃ j : Nat, y = (j : Int) ∧ j < t ∧ RshC W0 sb xs j) : RshC W0 sb xs t := by
  intro most w hm hm2 hb
  have htl := (List.getElem?_eq_some_iff.1 hx).1
  have htl' : (t : Int) < (xs.length : Int) := by omega
  have HSH := hid (preT_end hok hx (by omega) (by omega))
  have HPL := hid (fun j => preT_le hok hx (by omega) (by omega) j)
  have hxl : x.l.length ≤ 64 := by
    have := hok.may t x hx
    unfold mayB shB at this
    simp only [Bool.and_eq_true, decide_eq_true_eq] at this
    exact this.1.1.1.1.1.1.2
  have hxn : xs.length ≤ 100000 := hok.len
  obtain ⟨c, bn, on, A', c', HC⟩ := rsh_cells W0 sb xs hA hx
  obtain ⟨h0, y0, y1, y2, y3, -⟩ := HC w hb
  rw [ho] at y0
  have hk1 : ((k : Int) == 1) = false := beq_eq_false_iff_ne.2 (by omega)
  have hk2 : ((k : Int) == 2) = false := beq_eq_false_iff_ne.2 (by omega)
  have HCC := hid HC
  have IH := hid ih
  have HNL := hid (nameB_len (k : Int))
  have HPZ := hid (show preT xs x 0 = nameB (k : Int) ++ [40] by rw [preT_zero, ho])
  have HB := hid hb
  have hm3 : (-700007 : Int) ≤ most := by omega
  clear hb hx HC ho hA hok ih
  go_enter Tryz.func40, Tryz.ntmps40
  go_upto_region 4 with fail
  have HBW := hid (show Below w.heap.size w (w.alloc (.cells #[.int .i64 k, .int .i64 x.n, .string x.s, .slice A' x.l.length c'] 29)) from (Below.refl _ _).alloc (Nat.le_refl _) _)
  refine forget (R := fun V => V.cell? ⟨w.heap.size, 0, none⟩ = some (.int .i64 k) ∧ V.cell? ⟨w.heap.size, 3, none⟩ = some (.slice A' x.l.length c') ∧ Below w.heap.size w V) ?_ ⟨by rw [World.cell?_alloc_at _ _ _ _ rfl]; rfl, by rw [World.cell?_alloc_at _ _ _ _ rfl]; rfl, HBW.out⟩
  clear h0 y0 y1 y2 y3 HBW
  rintro V ⟨q0, q3, hbv⟩
  have hnc := name_cell (w := V) (T := 9) h3 h12
  obtain ⟨NM, hNM⟩ : ∃ NM : ByteArray, NM = ⟨(nameB (k : Int)).toArray⟩ := ⟨_, rfl⟩
  rw [← hNM] at hnc
  have hnms : NM.size ≤ 5 := by rw [hNM, bsz]; exact HNL.out
  have hcat : ¬ 9223372036854775807 < NM.size + 1 := by omega
  have HBA := hid (show Below w.heap.size w (V.alloc (.cells #[.string ⟨#[]⟩, .string ⟨#[]⟩, .string ⟨#[]⟩, .string ⟨#[108, 105, 115, 116]⟩, .string ⟨#[104, 97, 115, 104]⟩, .string ⟨#[109, 105, 120]⟩, .string ⟨#[107, 101, 121]⟩, .string ⟨#[112, 117, 98]⟩, .string ⟨#[115, 101, 97, 108]⟩, .string ⟨#[101, 110, 99]⟩, .string ⟨#[115, 105, 103]⟩, .string ⟨#[109, 97, 99]⟩, .string ⟨#[98, 108, 105, 110, 100]⟩] 9)) from hbv.alloc hbv.size _)
  have hup : ∀ {p : Addr} {u : Value}, V.cell? p = some u → (V.alloc (.cells #[.string ⟨#[]⟩, .string ⟨#[]⟩, .string ⟨#[]⟩, .string ⟨#[108, 105, 115, 116]⟩, .string ⟨#[104, 97, 115, 104]⟩, .string ⟨#[109, 105, 120]⟩, .string ⟨#[107, 101, 121]⟩, .string ⟨#[112, 117, 98]⟩, .string ⟨#[115, 101, 97, 108]⟩, .string ⟨#[101, 110, 99]⟩, .string ⟨#[115, 105, 103]⟩, .string ⟨#[109, 97, 99]⟩, .string ⟨#[98, 108, 105, 110, 100]⟩] 9)).cell? p = some u := fun h => (((Below.refl V.heap.size V).alloc (Nat.le_refl _) _).cell (p := _) (block_lt_of_cell h)).trans h
  have p0 := hup q0
  have p3 := hup q3
  clear hup
  have HS0 := hid (show NM ++ (⟨#[40]⟩ : ByteArray) = ⟨(preT xs x 0).toArray⟩ by rw [hNM, HPZ.out]; exact str_app _ [40])
  have HSL := hid (show (NM ++ (⟨#[40]⟩ : ByteArray)).size ≤ 6 by rw [ByteArray.size_append]; have : (⟨#[40]⟩ : ByteArray).size = 1 := rfl; omega)
  have hk0 : (0 : Int) ≤ (k : Int) := by omega
  have hk13 : (k : Int) < 13 := by omega
  clear hbv hNM
  go_wp2_with fail
  clear p0 p3 hnc q0 q3 hk0 hk13 hcat
  generalize NM ++ (⟨#[40]⟩ : ByteArray) = S0 at *
  generalize hW1 : V.alloc _ = W1 at *
  clear hW1
  go_loopw [33, 9] (fun v33 v9 wr => ∃ j : Nat, v33 = .int .i64 j ∧ j ≤ x.l.length ∧ ∃ S : ByteArray, v9 = .string S ∧ Hid (S = ⟨(preT xs x j).toArray⟩) ∧ ((S.size : Int) ≤ most + 6 ∨ S.size ≤ 6) ∧ Hid (Below w.heap.size w wr)) (fun v33 _ _ => x.l.length - (intOf v33).toNat)
  case atStart => exact ⟨0, rfl, Nat.zero_le _, S0, rfl, HS0, .inr HSL.out, HBA⟩
  case round =>
    clear HS0 HSL HBA
    obtain ⟨j, hv, hj, S, hv9, HS, hsz, HBR⟩ := hrel
    subst hv; subst hv9
    by_cases hlt : j < x.l.length
    · have hlt' : (j : Int) < (x.l.length : Int) := by omega
      obtain ⟨bq, oq, y, rfl, hy, hcy⟩ := (HCC.out wr (HB.out.trans (HBR.out.mono HB.out.size))).2.2.2.2.2.elemI hlt
      obtain ⟨i, rfl, hit, hrc⟩ := IH.out y (List.mem_of_getElem? hy)
      have HST := hid (preT_step (xs := xs) hy)
      clear hy
      by_cases hj0 : j = 0
      · subst hj0
        have HNX := hid (show preT xs x (0 + 1) = preT xs x 0 ++ ([] ++ showL xs i) by have h := HST.out; rw [if_pos rfl] at h; exact h)
        have HLN := hid (show (S.size : Int) + ((showL xs i).length : Int) + 1 ≤ ((showL xs t).length : Int) by
          have h1 := HPL.out (0 + 1)
          rw [HNX.out, List.length_append, List.length_append] at h1
          have h2 : S.size = (preT xs x 0).length := by rw [HS.out, bsz]
          simp only [List.length_cons, List.length_nil] at h1
          omega)
        have hwr : wrap64 (most - (S.size : Int)) = most - (S.size : Int) := by unfold wrap64; omega
        have HCL := hid (fun U (hb : Below w.heap.size w U) => hrc (most - (S.size : Int)) U (by omega) (by omega) (HB.out.trans (hb.mono HB.out.size)))
        have HSE := hid HS.out
        have hcat : ¬ 9223372036854775807 < S.size + 1 := by omega
        rw [Nat.add_zero] at hcy
        clear hrc HST
        go_wp2_with fail
        refine (HCL.out _ HBR.out).mono ?_
        rintro e5 w5 ⟨S5, rfl, hS5, b5⟩
        have HB5 := hid (HBR.out.trans (b5.mono HBR.out.size))
        clear b5 hcy
        by_cases hle : ((showL xs i).length : Int) ≤ most - (S.size : Int)
        · have hS := hS5 hle
          rw [decide_eq_true hle]
          have hS5z : S5.size = (showL xs i).length := by rw [hS, bsz]
          have HS5 := hid (show S ++ S5 = ⟨(preT xs x (0 + 1)).toArray⟩ by
            rw [HSE.out, hS, HNX.out, str_app]; simp)
          have hsz5 : (((S ++ S5 : ByteArray).size : Nat) : Int) ≤ most + 6 ∨ (S ++ S5 : ByteArray).size ≤ 6 := by
            left
            rw [ByteArray.size_append, hS5z]
            skip
            omega
          have hc2 : ¬ 9223372036854775807 < (S : ByteArray).size + S5.size := by
            rw [hS5z]
            skip
            omega
          have hc3 : ¬ 9223372036854775807 < S.size + 1 + S5.size := by rw [hS5z]; omega
          clear hS hS5 hS5z hle hwr
          go_wp2_with fail
          go_roundw
          case rel => exact ⟨0 + 1, by go_num, by omega, _, rfl, HS5, hsz5, HB5⟩
          case measure => simp [intOf]; omega
        · rw [decide_eq_false hle]
          have HNO := hid (show ¬ ((showL xs t).length : Int) ≤ most by have := HLN.out; omega)
          clear hS5 hwr
          go_wp2_with fail
          go_ret2
          exact ⟨⟨#[]⟩, by rw [decide_eq_false (Int.not_le.2 HNO.out)]; rfl, fun h => absurd h (Int.not_le.2 HNO.out), HB5.out⟩
      · have hj1 : (0 : Int) < (j : Int) := by omega
        have HNX := hid (show preT xs x (j + 1) = preT xs x j ++ ([44] ++ showL xs i) by have h := HST.out; rw [if_neg hj0] at h; exact h)
        have HLN := hid (show ((S.size : Int) + 1) + ((showL xs i).length : Int) + 1 ≤ ((showL xs t).length : Int) by
          have h1 := HPL.out (j + 1)
          rw [HNX.out, List.length_append, List.length_append] at h1
          have h2 : S.size = (preT xs x j).length := by rw [HS.out, bsz]
          simp only [List.length_cons, List.length_nil] at h1
          omega)
        have hwr : wrap64 (most - ((S.size : Int) + 1)) = most - ((S.size : Int) + 1) := by unfold wrap64; omega
        have HCL := hid (fun U (hb : Below w.heap.size w U) => hrc (most - ((S.size : Int) + 1)) U (by omega) (by omega) (HB.out.trans (hb.mono HB.out.size)))
        have HSE := hid HS.out
        have hcat : ¬ 9223372036854775807 < S.size + 1 := by omega
        clear hrc HST
        go_wp2_with fail
        refine (HCL.out _ HBR.out).mono ?_
        rintro e5 w5 ⟨S5, rfl, hS5, b5⟩
        have HB5 := hid (HBR.out.trans (b5.mono HBR.out.size))
        clear b5 hcy
        by_cases hle : ((showL xs i).length : Int) ≤ most - ((S.size : Int) + 1)
        · have hS := hS5 hle
          rw [decide_eq_true hle]
          have hS5z : S5.size = (showL xs i).length := by rw [hS, bsz]
          have HS5 := hid (show S ++ ⟨#[44]⟩ ++ S5 = ⟨(preT xs x (j + 1)).toArray⟩ by
            rw [HSE.out, hS, HNX.out, show (⟨#[44]⟩ : ByteArray) = ⟨[44].toArray⟩ from rfl, str_app, str_app]; simp)
          have hsz5 : (((S ++ ⟨#[44]⟩ ++ S5 : ByteArray).size : Nat) : Int) ≤ most + 6 ∨ (S ++ ⟨#[44]⟩ ++ S5 : ByteArray).size ≤ 6 := by
            left
            rw [ByteArray.size_append, ByteArray.size_append, hS5z]
            have : (⟨#[44]⟩ : ByteArray).size = 1 := rfl
            omega
          have hc2 : ¬ 9223372036854775807 < (S ++ ⟨#[44]⟩ : ByteArray).size + S5.size := by
            rw [ByteArray.size_append, hS5z]
            have : (⟨#[44]⟩ : ByteArray).size = 1 := rfl
            omega
          have hc3 : ¬ 9223372036854775807 < S.size + 1 + S5.size := by rw [hS5z]; omega
          clear hS hS5 hS5z hle hwr
          go_wp2_with fail
          go_roundw
          case rel => exact ⟨j + 1, by go_num, by omega, _, rfl, HS5, hsz5, HB5⟩
          case measure => simp [intOf]; omega
        · rw [decide_eq_false hle]
          have HNO := hid (show ¬ ((showL xs t).length : Int) ≤ most by have := HLN.out; omega)
          clear hS5 hwr
          go_wp2_with fail
          go_ret2
          exact ⟨⟨#[]⟩, by rw [decide_eq_false (Int.not_le.2 HNO.out)]; rfl, fun h => absurd h (Int.not_le.2 HNO.out), HB5.out⟩
    · obtain rfl : j = x.l.length := by omega
      have hlt' : ¬ (x.l.length : Int) < (x.l.length : Int) := by omega
      have HN1 := hid (show S ++ ⟨#[41]⟩ = ⟨(showL xs t).toArray⟩ by
        rw [HS.out, show (⟨#[41]⟩ : ByteArray) = ⟨[41].toArray⟩ from rfl, str_app, HSH.out])
      have hle : (showL xs t).length = S.size + 1 := by
        have h := congrArg ByteArray.size HN1.out
        rw [ByteArray.size_append, bsz] at h
        exact h.symm
      have hc1 : ¬ 9223372036854775807 < S.size + 1 := by omega
      have HLE := hid hle
      clear hle
      go_wp2_with fail
      go_ret2
      exact ⟨_, by rw [HLE.out]; first | rfl | (push_cast; rfl) | simp, fun _ => HN1.out, HBR.out⟩
/-- The document's show of any term. -/
theorem rsh_full (hA : ArV W0 58 sb xs) (hok : Okay xs) : ∀ (N t : Nat), t < N → t < xs.length → RshC W0 sb xs t := by
  intro N
  induction N with
  | zero => intro t h; omega
  | succ N ih =>
    intro t hN ht
    have hx : xs[t]? = some xs[t] := List.getElem?_eq_getElem ht
    generalize xs[t] = x at hx
    have hm := hok.may t x hx
    have hw := hok.w64 t x hx
    unfold mayB shB at hm
    simp only [Bool.and_eq_true, decide_eq_true_eq, List.all_eq_true] at hm
    by_cases h1 : x.o = 1
    · exact rsh_atom W0 sb xs t hA x hx h1 hm.1.1.1.1.1.2 ⟨by have := hm.1.1.1.1.1.2; omega, by omega⟩
    · by_cases h2 : x.o = 2
      · exact rsh_text W0 sb xs t hA x hx h2 hm.1.1.1.1.2
      · have ho : 3 ≤ x.o ∧ x.o ≤ 12 := by
          have := hm.1.1.1.1.1.1.1
          exact ⟨by have := op_range this; omega, (op_range this).2⟩
        refine rsh_node W0 sb xs t hA hok x hx x.o.toNat (by omega) (by omega) (by omega) fun y hy => ?_
        have h3 := has_iff.1 (hm.1.2 y hy)
        rw [List.length_take] at h3
        exact ⟨y.toNat, by omega, by omega, ih y.toNat (by omega) (by omega)⟩
end
end Go.Proofs.YtadbgmfdbahcbaaGreatDoor
