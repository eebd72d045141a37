import Derived.Test.YtkgobglmkhkbbaaGreatDoorZ17
import Derived.Test.YtkgobglmkhkbbaaGreatDoorZ20
import Derived.Deep.DeepCutAuto
import Derived.Deep.CutRange
/- schedule's law: ScheduleHides walked. -/
namespace Go.Proofs.YtkgobglmkhkbbaaGreatDoor
open Go.RowKit Go.KK Go.Shelf Go.Maps
set_option linter.unusedVariables false
set_option linter.unusedSimpArgs false
theorem drv_of {xs : List ND} (ok : Okay xs) {known : List Int} {goals : List (Int × Bool)} (h : clB xs known goals = true) {t : Int} {v : Bool} (hg : (t, v) ∈ goals) : drvB xs known t = v ∧ drvE xs known t = 0 := by
  obtain ⟨h1, h2, h3⟩ := cl_use ok h hg
  unfold drvB drvE
  rw [h1, h2, h3]
  exact ⟨by cases v <;> rfl, rfl⟩
theorem hd_law (b : Bool) (ok : Okay (hdN b).1) {e0 e1 e2 e3 e4 e5 e6 e7 e8 e9 e10 : Int} (he : (hdN b).2.1 = [e0, e1, e2, e3, e4, e5, e6, e7, e8, e9, e10]) : (∀ s ∈ [e0, e1, e2, e3, e4, e5, e6, e7, e8, e10], drvB (hdN b).1 [0, 2, 4, e9] s = false ∧ drvE (hdN b).1 [0, 2, 4, e9] s = 0) ∧ (∀ s ∈ [e0, e1, e2, e3, e4, e5, e6, e7, e8, e10], drvB (hdN b).1 [1, 2, 4, e9] s = false ∧ drvE (hdN b).1 [1, 2, 4, e9] s = 0) ∧ (drvB (hdN b).1 [0, 1, 2, 4] e10 = true ∧ drvE (hdN b).1 [0, 1, 2, 4] e10 = 0) ∧
    ∀ (k i : Nat) (u s : Int), 3 ≤ k → k < 10 → [e0, e1, e2, e3, e4, e5, e6, e7, e8, e10][k]? = some u → [e0, e1, e2, e3, e4, e5, e6, e7, e8, e10][i]? = some s → drvB (hdN b).1 [u, 0, 2] s = (i == k) ∧ drvE (hdN b).1 [u, 0, 2] s = 0 := by
  have h0 := hd_0 b; have h1 := hd_1 b; have h2 := hd_2 b; have h3 := hd_k b
  have ein : inL (hdN b).2.1 = [e0, e1, e2, e3, e4, e5, e6, e7, e8, e10] := by rw [he]; rfl
  have e0g : hdG0 b = [e0, e1, e2, e3, e4, e5, e6, e7, e8, e10].map fun s => (s, false) := by unfold hdG0; rw [ein]
  rw [e0g] at h0 h1
  rw [show (hdN b).2.1.getD 9 0 = e9 by rw [he]; rfl] at h0 h1
  rw [show (hdN b).2.1.getD 10 0 = e10 by rw [he]; rfl] at h2
  rw [ein] at h3
  refine ⟨fun s hs => drv_of ok h0 (List.mem_map.2 ⟨s, hs, rfl⟩), fun s hs => drv_of ok h1 (List.mem_map.2 ⟨s, hs, rfl⟩), drv_of ok h2 (t := e10) (v := true) (by simp), fun k i u s hk3 hk hu hs => ?_⟩
  have h4 := List.all_eq_true.1 h3 (k - 3) (List.mem_range.2 (by omega))
  rw [show 3 + (k - 3) = k by omega, List.getD, hu, Option.getD_some] at h4
  refine drv_of ok h4 ?_
  unfold hdGk
  rw [ein]
  have hi : i < 10 := (List.getElem?_eq_some_iff.1 hs).1
  exact List.mem_map.2 ⟨i, List.mem_range.2 hi, by rw [List.getD, hs]; rfl⟩
theorem alloc_at2 (w : World) (o : Obj) : (w.alloc o).heap[w.heap.size]? = some o := Array.getElem?_push_size
theorem sla_ah {w : World} {b n c : Nat} {l : List Int} (h : SlA w 1 (some ⟨b, 0, none⟩) n c (l.map (.int .i64))) {j : Nat} (hj : j < n) : ∃ z, l[j]? = some z ∧ w.cell? ⟨b, j, none⟩ = some (.int .i64 z) := by
  obtain ⟨b', o', z, e, hz, hc⟩ := h.elemI hj
  injection e with e
  injection e with e1 e2
  subst e1; subst e2
  exact ⟨z, hz, by simpa using hc⟩
structure HdS (W : World) (sa bx b1 k1 k2 kb : Nat) (X : List ND) (e0 e1 e2 e3 e4 e5 e6 e7 e8 e9 e10 : Int) (V : World) : Prop where
  a : ArV V 124 sa X
  x9 : V.cell? ⟨bx, 9, none⟩ = some (.int .i64 e9)
  x10 : V.cell? ⟨bx, 10, none⟩ = some (.int .i64 e10)
  l : SlA V 1 (some ⟨b1, 0, none⟩) 10 10 ([e0, e1, e2, e3, e4, e5, e6, e7, e8, e10].map (.int .i64))
  s1 : SlA V 1 (some ⟨k1, 0, none⟩) 4 4 ([0, 2, 4, e9].map (.int .i64))
  s2 : SlA V 1 (some ⟨k2, 0, none⟩) 4 4 ([1, 2, 4, e9].map (.int .i64))
  c1 : V.cell? ⟨kb, 0, none⟩ = some (.slice (some ⟨k1, 0, none⟩) 4 4)
  c2 : V.cell? ⟨kb, 1, none⟩ = some (.slice (some ⟨k2, 0, none⟩) 4 4)
  bl : Below W.heap.size W V
theorem HdS.ext {W V U : World} {sa bx b1 k1 k2 kb : Nat} {X : List ND} {e0 e1 e2 e3 e4 e5 e6 e7 e8 e9 e10 : Int} (h : HdS W sa bx b1 k1 k2 kb X e0 e1 e2 e3 e4 e5 e6 e7 e8 e9 e10 V) (hb : Below V.heap.size V U) : HdS W sa bx b1 k1 k2 kb X e0 e1 e2 e3 e4 e5 e6 e7 e8 e9 e10 U :=
  ⟨h.a.ext hb, (hb.cell (p := ⟨bx, 9, none⟩) (block_lt_of_cell h.x9)).trans h.x9, (hb.cell (p := ⟨bx, 10, none⟩) (block_lt_of_cell h.x10)).trans h.x10, h.l.ext hb, h.s1.ext hb, h.s2.ext hb, (hb.cell (p := ⟨kb, 0, none⟩) (block_lt_of_cell h.c1)).trans h.c1, (hb.cell (p := ⟨kb, 1, none⟩) (block_lt_of_cell h.c2)).trans h.c2, h.bl.trans (hb.mono h.bl.size)⟩
set_option maxHeartbeats 8000000 in
set_option maxRecDepth 100000 in
theorem hides_go (b : Bool) (k : Int) (w : World) (hk : I64 k) (hT : Tb w.heap.size w) :
    Calls Tryz.prog 7 #[.bool b, .int .i64 k] w fun e w' => e = .returned (.bool true) ∧ Below w.heap.size w w' := by
  have HT := hid hT
  have HLV := hid (live_any w hT)
  have HK := hid hk
  clear hT
  go_enter Tryz.func7, Tryz.ntmps7
  go_wp2_with fail
  refine HLV.out.mono ?_
  rintro e w1 ⟨rfl, b1⟩
  have HB1 := hid b1
  have HT1 := hid (show Tb w1.heap.size w1 from Tb.up (HT.out.on b1) b1.size)
  clear b1 HLV HT
  go_wp2_with fail
  refine (two_any w1 HT1.out).mono ?_
  rintro e w4 ⟨sa, sb, Z, Z', rfl, htw⟩
  have LC := hid htw.la
  clear htw
  go_upto_if 29 with fail
  go_cut [8] from 30 to 30 (fun v U => ∃ A n c, v = .slice A n c ∧ n ≤ 100 ∧ SlM U Z A n c (hdP b) ∧ LA w1 U Z sa (atoms 10))
  case first =>
    rcases b with _ | _
    · go_wp2_with fail
      go_meet
      exact ⟨none, 0, 0, rfl, by omega, SlM.nil _ _, LC.out⟩
    · have HA := hid (And.intro (SlM.new LC.out #[.int .i64 4] [4] 3 rfl (by unfold maxLen; simp)) (LC.out.alloc (.cells #[.int .i64 4] 3)))
      go_wp2_with fail
      go_meet
      exact ⟨_, 1, 1, rfl, by omega, HA.out.1, HA.out.2⟩
  obtain ⟨A, n, c, hv, hn, hsl, hla⟩ := hcut
  subst hv
  have hN := hid (show nxF (atoms 10) 0 1 2 (hdP b) = hdN b from rfl)
  have HN1 := hid (nx_any hla HT1.out (i := 0) (c := 1) (x := 2) (i64_lit (by decide) (by decide)) (i64_lit (by decide) (by decide)) (i64_lit (by decide) (by decide)) hsl (by omega) (fun i hi => by
    cases b
    · exact absurd hi (by simp [hdP])
    · rw [List.mem_singleton.1 (show i ∈ [4] from hi)]; exact ⟨by decide, by decide⟩))
  have h11 := nx_elen (atoms 10) 0 1 2 (hdP b)
  rw [hN.out] at HN1 h11
  have he0 := hd_e b
  obtain ⟨r1, hr1⟩ : ∃ r, r = hdN b := ⟨_, rfl⟩
  rw [← hr1] at HN1 h11 he0
  clear hN hla hsl LC
  obtain ⟨X, el, er⟩ := r1
  try dsimp only at h11 he0
  subst he0
  obtain ⟨e0, e1, e2, e3, e4, e5, e6, e7, e8, e9, e10, rfl⟩ := len11 h11
  clear h11
  have HR1 := hid hr1
  clear hr1
  unfold EpS epV at HN1
  go_wp2_with fail
  refine HN1.out.mono ?_
  rintro e w5 ⟨Z5, rfl, l5, -⟩
  have L5 := hid l5
  have HOK := hid l5.ar.ok
  have h := hd_law b (by rw [← HR1.out]; exact HOK.out) (show (hdN b).2.1 = [e0, e1, e2, e3, e4, e5, e6, e7, e8, e9, e10] by rw [← HR1.out])
  rw [← HR1.out] at h
  have HLAW := hid h
  clear h l5 HN1 HR1
  have L6 := hid (L5.out.alloc (.cells #[.int .i64 e0, .int .i64 e1, .int .i64 e2, .int .i64 e3, .int .i64 e4, .int .i64 e5, .int .i64 e6, .int .i64 e7, .int .i64 e8, .int .i64 e9, .int .i64 e10] 30))
  have HE6 := hid (alloc_at2 w5 (.cells #[.int .i64 e0, .int .i64 e1, .int .i64 e2, .int .i64 e3, .int .i64 e4, .int .i64 e5, .int .i64 e6, .int .i64 e7, .int .i64 e8, .int .i64 e9, .int .i64 e10] 30))
  have HIN := hid (inner_any [e0, e1, e2, e3, e4, e5, e6, e7, e8, e9, e10] (w5.alloc (.cells #[.int .i64 e0, .int .i64 e1, .int .i64 e2, .int .i64 e3, .int .i64 e4, .int .i64 e5, .int .i64 e6, .int .i64 e7, .int .i64 e8, .int .i64 e9, .int .i64 e10] 30)) rfl)
  unfold epV at HIN
  go_wp2_with fail
  refine HIN.out.mono ?_
  rintro e w6 ⟨bi, rfl, -, -, hs1, hb1⟩
  have L7 := hid (L6.out.ext hb1)
  have g6 := (hb1.block w5.heap.size (by simp)).trans HE6.out
  have x9 : w6.cell? ⟨w5.heap.size, 9, none⟩ = some (.int .i64 e9) := by rw [cell_of_row w6 w5.heap.size 9 _ _ (0, 0) g6]; rfl
  have x9b : (w6.alloc (.cells #[.int .i64 0, .int .i64 2, .int .i64 4, .int .i64 e9] 3)).cell? ⟨w5.heap.size, 9, none⟩ = some (.int .i64 e9) := by rw [cell_of_row _ w5.heap.size 9 _ _ (0, 0) ((((Below.refl w6.heap.size w6).alloc (Nat.le_refl _) (.cells #[.int .i64 0, .int .i64 2, .int .i64 4, .int .i64 e9] 3)).block w5.heap.size (Array.getElem?_eq_some_iff.1 g6).1).trans g6)]; rfl
  have HS0 := hid (show HdS w1 sa w5.heap.size bi w6.heap.size (w6.heap.size + 1) (w6.heap.size + 2) X e0 e1 e2 e3 e4 e5 e6 e7 e8 e9 e10 (((w6.alloc (.cells #[.int .i64 0, .int .i64 2, .int .i64 4, .int .i64 e9] 3)).alloc (.cells #[.int .i64 1, .int .i64 2, .int .i64 4, .int .i64 e9] 3)).alloc (.cells #[.slice (some ⟨w6.heap.size, 0, none⟩) 4 4, .slice (some ⟨w6.heap.size + 1, 0, none⟩) 4 4] 22)) from by
    have e1 : (w6.alloc (.cells #[.int .i64 0, .int .i64 2, .int .i64 4, .int .i64 e9] 3)).heap.size = w6.heap.size + 1 := by simp
    have e2 : ((w6.alloc (.cells #[.int .i64 0, .int .i64 2, .int .i64 4, .int .i64 e9] 3)).alloc (.cells #[.int .i64 1, .int .i64 2, .int .i64 4, .int .i64 e9] 3)).heap.size = w6.heap.size + 2 := by simp
    have b1 : Below w6.heap.size w6 (w6.alloc (.cells #[.int .i64 0, .int .i64 2, .int .i64 4, .int .i64 e9] 3)) := (Below.refl _ _).alloc (Nat.le_refl _) _
    have b2 : Below w6.heap.size w6 ((w6.alloc (.cells #[.int .i64 0, .int .i64 2, .int .i64 4, .int .i64 e9] 3)).alloc (.cells #[.int .i64 1, .int .i64 2, .int .i64 4, .int .i64 e9] 3)) := b1.alloc (by simp) _
    have b3 : Below w6.heap.size w6 (((w6.alloc (.cells #[.int .i64 0, .int .i64 2, .int .i64 4, .int .i64 e9] 3)).alloc (.cells #[.int .i64 1, .int .i64 2, .int .i64 4, .int .i64 e9] 3)).alloc (.cells #[.slice (some ⟨w6.heap.size, 0, none⟩) 4 4, .slice (some ⟨w6.heap.size + 1, 0, none⟩) 4 4] 22)) := b2.alloc (by simp; omega) _
    have c1 := sla_row (w := w6) (T := 3) #[.int .i64 0, .int .i64 2, .int .i64 4, .int .i64 e9] (by unfold maxLen; simp)
    have c2 := sla_row (w := w6.alloc (.cells #[.int .i64 0, .int .i64 2, .int .i64 4, .int .i64 e9] 3)) (T := 3) #[.int .i64 1, .int .i64 2, .int .i64 4, .int .i64 e9] (by unfold maxLen; simp)
    rw [e1] at c2
    have c3 := alloc_at2 ((w6.alloc (.cells #[.int .i64 0, .int .i64 2, .int .i64 4, .int .i64 e9] 3)).alloc (.cells #[.int .i64 1, .int .i64 2, .int .i64 4, .int .i64 e9] 3)) (.cells #[.slice (some ⟨w6.heap.size, 0, none⟩) 4 4, .slice (some ⟨w6.heap.size + 1, 0, none⟩) 4 4] 22)
    rw [e2] at c3
    have gg := (b3.block w5.heap.size (Array.getElem?_eq_some_iff.1 g6).1).trans g6
    exact ⟨(L7.out.ext b3).ar.vw, by rw [cell_of_row _ w5.heap.size 9 _ _ (0, 0) gg]; rfl, by rw [cell_of_row _ w5.heap.size 10 _ _ (0, 0) gg]; rfl, hs1.ext b3, (c1.ext ((Below.refl _ _).alloc (Nat.le_refl _) _)).ext ((Below.refl _ _).alloc (Nat.le_refl _) _), c2.ext ((Below.refl _ _).alloc (Nat.le_refl _) _), by rw [cell_of_row _ (w6.heap.size + 2) 0 _ _ (0, 0) c3]; rfl, by rw [cell_of_row _ (w6.heap.size + 2) 1 _ _ (0, 0) c3]; rfl, (L7.out.ext b3).bl⟩)
  clear hs1 hb1 L5 L6 L7 HE6 HIN g6
  go_wp2_with fail
  clear x9 x9b
  generalize w6.heap.size = k1 at *
  generalize w5.heap.size = bx at *
  go_loopw [52] (fun v wr => ∃ m : Nat, v = .int .i64 m ∧ m ≤ 2 ∧ HdS w1 sa bx bi k1 (k1 + 1) (k1 + 2) X e0 e1 e2 e3 e4 e5 e6 e7 e8 e9 e10 wr) (fun v _ => 2 - (intOf v).toNat)
  case atStart => exact ⟨0, rfl, by omega, HS0.out⟩
  case round =>
    clear HS0
    obtain ⟨m, hv, hm, hS⟩ := hrel
    have HS := hid hS
    clear hS
    obtain rfl | rfl | rfl : m = 0 ∨ m = 1 ∨ m = 2 := by omega
    · have hv' : u52 = .int .i64 0 := hv
      clear hv hm
      subst hv'
      have hcc := HS.out.c1
      go_wp2_with fail
      go_loopw [58] (fun v wr => ∃ j : Nat, v = .int .i64 j ∧ j ≤ 10 ∧ HdS w1 sa bx bi k1 (k1 + 1) (k1 + 2) X e0 e1 e2 e3 e4 e5 e6 e7 e8 e9 e10 wr) (fun v _ => 10 - (intOf v).toNat)
      case atStart => exact ⟨0, rfl, by omega, HS.out⟩
      case round =>
        clear HS
        obtain ⟨j, hv, hj, hS⟩ := hrel
        have HS := hid hS
        clear hS
        by_cases hlt : j < 10
        · subst hv
          have hlt' : (j : Int) < 10 := by omega
          have HLT := hid hlt
          obtain ⟨s, hs, cs⟩ := sla_ah HS.out.l hlt
          obtain ⟨d1, d2⟩ := HLAW.out.1 s (List.mem_of_getElem? hs)
          have HD := hid (derives_any wr sa X (some ⟨k1, 0, none⟩) 4 4 [0, 2, 4, e9] s HS.out.a HOK.out (uses_small HOK.out) HS.out.s1 (by omega))
          rw [d1, d2] at HD
          clear d1 d2 hs hlt
          go_wp2_with fail
          refine HD.out.mono ?_
          rintro e w8 ⟨rfl, hb8⟩
          have HS8 := hid (HS.out.ext hb8)
          clear hb8 HD HS cs
          go_wp2_with fail
          go_roundw
          case rel => exact ⟨j + 1, by go_num, by have := HLT.out; omega, HS8.out⟩
          case measure => have := HLT.out; simp [intOf]; omega
        · obtain rfl : j = 10 := by omega
          have hv' : u58 = .int .i64 10 := hv
          clear hv
          subst hv'
          clear hlt hj
          go_wp2_with fail
          go_roundw
          case rel => exact ⟨1, rfl, by omega, HS.out⟩
          case measure => simp [intOf]
    · have hv' : u52 = .int .i64 1 := hv
      clear hv hm
      subst hv'
      have hcc := HS.out.c2
      go_wp2_with fail
      go_loopw [58] (fun v wr => ∃ j : Nat, v = .int .i64 j ∧ j ≤ 10 ∧ HdS w1 sa bx bi k1 (k1 + 1) (k1 + 2) X e0 e1 e2 e3 e4 e5 e6 e7 e8 e9 e10 wr) (fun v _ => 10 - (intOf v).toNat)
      case atStart => exact ⟨0, rfl, by omega, HS.out⟩
      case round =>
        clear HS
        obtain ⟨j, hv, hj, hS⟩ := hrel
        have HS := hid hS
        clear hS
        by_cases hlt : j < 10
        · subst hv
          have hlt' : (j : Int) < 10 := by omega
          have HLT := hid hlt
          obtain ⟨s, hs, cs⟩ := sla_ah HS.out.l hlt
          obtain ⟨d1, d2⟩ := HLAW.out.2.1 s (List.mem_of_getElem? hs)
          have HD := hid (derives_any wr sa X (some ⟨k1 + 1, 0, none⟩) 4 4 [1, 2, 4, e9] s HS.out.a HOK.out (uses_small HOK.out) HS.out.s2 (by omega))
          rw [d1, d2] at HD
          clear d1 d2 hs hlt
          go_wp2_with fail
          refine HD.out.mono ?_
          rintro e w8 ⟨rfl, hb8⟩
          have HS8 := hid (HS.out.ext hb8)
          clear hb8 HD HS cs
          go_wp2_with fail
          go_roundw
          case rel => exact ⟨j + 1, by go_num, by have := HLT.out; omega, HS8.out⟩
          case measure => have := HLT.out; simp [intOf]; omega
        · obtain rfl : j = 10 := by omega
          have hv' : u58 = .int .i64 10 := hv
          clear hv
          subst hv'
          clear hlt hj
          go_wp2_with fail
          go_roundw
          case rel => exact ⟨2, rfl, by omega, HS.out⟩
          case measure => simp [intOf]
    · have hv' : u52 = .int .i64 2 := hv
      clear hv hm
      subst hv'
      have HA2 := hid (HS.out.ext ((Below.refl _ _).alloc (Nat.le_refl _) (.cells #[.int .i64 0, .int .i64 1, .int .i64 2, .int .i64 4] 3)))
      have hc10 := HA2.out.x10
      have HD := hid (derives_any (wr.alloc (.cells #[.int .i64 0, .int .i64 1, .int .i64 2, .int .i64 4] 3)) sa X (some ⟨wr.heap.size, 0, none⟩) 4 4 [0, 1, 2, 4] e10 HA2.out.a HOK.out (uses_small HOK.out) (sla_row #[.int .i64 0, .int .i64 1, .int .i64 2, .int .i64 4] (by unfold maxLen; simp)) (by omega))
      rw [HLAW.out.2.2.1.1, HLAW.out.2.2.1.2] at HD
      obtain ⟨kk, hkk, h3, h10⟩ : ∃ kk : Nat, wrap64 (3 + (wrap64 (k.tmod 7 + 7)).tmod 7) = (kk : Int) ∧ 3 ≤ kk ∧ kk < 10 := by
        have b1 := Int.tmod_lt_of_pos k (show (0 : Int) < 7 by omega)
        have b2 := Int.lt_tmod_of_pos k (show (0 : Int) < 7 by omega)
        have w1 : wrap64 (k.tmod 7 + 7) = k.tmod 7 + 7 := by unfold wrap64; omega
        rw [w1]
        have c1 := Int.tmod_lt_of_pos (k.tmod 7 + 7) (show (0 : Int) < 7 by omega)
        have c2 := Int.tmod_nonneg 7 (show (0 : Int) ≤ k.tmod 7 + 7 by omega)
        have w2 : wrap64 (3 + (k.tmod 7 + 7).tmod 7) = 3 + (k.tmod 7 + 7).tmod 7 := by unfold wrap64; omega
        rw [w2]
        exact ⟨(3 + (k.tmod 7 + 7).tmod 7).toNat, by omega, by omega, by omega⟩
      have HKK := hid (And.intro h3 h10)
      clear h3 h10 HS
      go_wp2_with fail
      refine HD.out.mono ?_
      rintro e w9 ⟨rfl, hb9⟩
      have HS := hid (HA2.out.ext hb9)
      clear hb9 HD HA2 hc10
      go_wp2_with fail
      rw [hkk]
      clear hkk
      go_loopw [91] (fun v wr => ∃ j : Nat, v = .int .i64 j ∧ j ≤ 10 ∧ HdS w1 sa bx bi k1 (k1 + 1) (k1 + 2) X e0 e1 e2 e3 e4 e5 e6 e7 e8 e9 e10 wr) (fun v _ => 10 - (intOf v).toNat)
      case atStart => exact ⟨0, rfl, by omega, HS.out⟩
      case round =>
        clear HS
        obtain ⟨j, hv, hj, hS⟩ := hrel
        have HS := hid hS
        clear hS
        by_cases hlt : j < 10
        · subst hv
          have hlt' : (j : Int) < 10 := by omega
          have HLT := hid hlt
          obtain ⟨s, hs, cs⟩ := sla_ah HS.out.l hlt
          obtain ⟨u, hu, cu⟩ := sla_ah HS.out.l HKK.out.2
          obtain ⟨d1, d2⟩ := HLAW.out.2.2.2 kk j u s HKK.out.1 HKK.out.2 hu hs
          have hk10 : (kk : Int) < 10 := by have := HKK.out.2; omega
          have HA2 := hid (HS.out.ext ((Below.refl _ _).alloc (Nat.le_refl _) (.cells #[.int .i64 u, .int .i64 0, .int .i64 2] 3)))
          have HD := hid (derives_any (wr.alloc (.cells #[.int .i64 u, .int .i64 0, .int .i64 2] 3)) sa X (some ⟨wr.heap.size, 0, none⟩) 3 3 [u, 0, 2] s HA2.out.a HOK.out (uses_small HOK.out) (sla_row #[.int .i64 u, .int .i64 0, .int .i64 2] (by unfold maxLen; simp)) (by omega))
          by_cases hjk : j = kk
          · subst hjk
            obtain rfl : s = u := Option.some.inj (hs.symm.trans hu)
            rw [d1, d2, show (j == j) = true from beq_self_eq_true j] at HD
            have hb1 : ((j : Int) == (j : Int)) = true := beq_self_eq_true _
            clear d1 d2 hs hu hlt
            go_wp2_with fail
            refine HD.out.mono ?_
            rintro e w8 ⟨rfl, hb8⟩
            have HS8 := hid (HA2.out.ext hb8)
            clear hb8 HD HS HA2 cs cu
            go_wp2_with fail
            go_roundw
            case rel => exact ⟨j + 1, by go_num, by have := HLT.out; omega, HS8.out⟩
            case measure => have := HLT.out; simp [intOf]; omega
          · rw [d1, d2, show (j == kk) = false from beq_eq_false_iff_ne.2 hjk] at HD
            have hb1 : ((j : Int) == (kk : Int)) = false := beq_eq_false_iff_ne.2 (by omega)
            have hb2 : decide ((j : Int) = (kk : Int)) = false := decide_eq_false (by omega)
            have hb3 : (j == kk) = false := beq_eq_false_iff_ne.2 hjk
            have hb4 : decide (j = kk) = false := decide_eq_false hjk
            have hb5 : ¬ ((j : Int) = (kk : Int)) := by omega
            clear d1 d2 hs hu hlt
            go_wp2_with fail
            refine HD.out.mono ?_
            rintro e w8 ⟨rfl, hb8⟩
            have HS8 := hid (HA2.out.ext hb8)
            clear hb8 HD HS HA2 cs cu
            go_wp2_with fail
            go_roundw
            case rel => exact ⟨j + 1, by go_num, by have := HLT.out; omega, HS8.out⟩
            case measure => have := HLT.out; simp [intOf]; omega
        · obtain rfl : j = 10 := by omega
          have hv' : u91 = .int .i64 10 := hv
          clear hv
          subst hv'
          clear hlt hj
          have HF := hid (HB1.out.trans (HS.out.bl.mono HB1.out.size))
          clear HS
          go_wp2_with fail
          go_ret
          exact ⟨rfl, HF.out⟩
end Go.Proofs.YtkgobglmkhkbbaaGreatDoor

