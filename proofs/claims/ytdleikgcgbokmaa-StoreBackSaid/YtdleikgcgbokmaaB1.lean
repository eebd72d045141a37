/- One record read, by the reference. -/
import Derived.Test.YtdleikgcgbokmaaB0
import Derived.Deep.RegionHeld3
namespace Go.Proofs.Ytdleikgcgbokmaa
open Go.RowKit Go.KK
set_option linter.unusedVariables false
set_option linter.unusedSimpArgs false

theorem Try.infoInt : (Try.prog.info? 3).map (fun i => (i.zero, i.size, i.bytes)) = some (some (.int .i64 0), 1, 8) := by kernel_rfl
def slLen : Value → Nat
  | .slice _ n _ => n
  | _ => 0

theorem rds_le : ∀ (j : Nat) (x l b : List Int), rds j x = some (l, b) → b.length ≤ x.length
  | 0, x, l, b, h => by simp [rds] at h; simp [h.2]
  | j+1, x, l, b, h => by
    rw [rds] at h
    rcases hr : rds j x with _ | ⟨l', b'⟩
    · rw [hr] at h; cases h
    · rw [hr] at h
      have ih := rds_le j x l' b' hr
      simp only [Option.bind_some] at h
      split at h
      · simp only [Option.some.injEq, Prod.mk.injEq] at h
        rw [← h.2, List.length_drop]; omega
      · cases h
/-- Where all is read behind another number than seven, no record stands. -/
theorem rds_end {j : Nat} {x l : List Int} (h : rds j x = some (l, [])) (hj : j ≠ 7) : ∀ r, rds 7 x = some r → r.2 ≠ [] := by
  intro r hr he
  obtain ⟨l7, b7⟩ := r
  dsimp only at he
  subst he
  have hn : ∀ (k : Nat) (lk : List Int), rds k x = some (lk, []) → rds (k + 1) x = none := fun k lk hk => by rw [rds_succ hk]; simp [tint]
  rcases Nat.lt_or_ge j 7 with hlt | hge
  · have := rds_none (hn j l h) (by omega : j + 1 ≤ 7)
    rw [hr] at this; cases this
  · have := rds_none (hn 7 l7 hr) (by omega : 8 ≤ j)
    rw [h] at this; cases this

set_option maxHeartbeats 2000000 in
set_option maxRecDepth 100000 in
theorem one_any (A : Option Addr) (n c : Nat) (t : List Int) (w : World) (h : SlA w 1 A n c (t.map (.int .u8))) (hl : ∀ x ∈ t, 0 ≤ x ∧ x < 256) (hn47 : n ≤ 140737488355328 / 8) :
    Calls Try.prog 19 #[.slice A n c] w (Tells t w) := by
  obtain ⟨i0, hi, hz0, hz1, hz2⟩ := info_parts Try.infoInt
  obtain ⟨x, m, e, ht⟩ : ∃ x m e, tbytes t = (x, m, e) := ⟨_, _, _, rfl⟩
  have HT := hid ht; clear ht
  by_cases he : e = 0
  · subst he
    have hxm : ∀ y ∈ x, 0 ≤ y ∧ y < 256 := by
      intro y hy
      have := HT.out
      unfold tbytes at this
      split at this
      · injection this with e1 _; rw [← e1] at hy; cases hy
      · split at this
        · injection this with e1 _; rw [← e1] at hy; cases hy
        · injection this with e1 _; rw [← e1] at hy; exact hl y (List.mem_of_mem_drop (List.mem_of_mem_take hy))
    have hxn : x.length ≤ n := by
      have := HT.out
      have hln := h.lenI
      unfold tbytes at this
      split at this
      · injection this with e1 _; rw [← e1]; simp
      · split at this
        · injection this with e1 _; rw [← e1]; simp
        · injection this with e1 _; rw [← e1, List.length_take, List.length_drop]; omega
    go_enter Try.func19, Try.ntmps19
    go_wp2_with (go_at_call 25; refine (rtbytes_any _ n c t _ (h.alloc _) hl (by omega)).mono ?_; rintro e w1 ⟨v, rfl, hown1, hb1⟩; rw [HT.out] at hown1 ⊢; dsimp only at hown1 ⊢; have hsz1 := hb1.size; simp only [World.size_alloc] at hsz1)
    have hblk : Blk w1 w.heap.size 23 ((List.replicate 7 0).map (Value.int .i64)) := (Blk.new w 23 ((List.replicate 7 0).map (Value.int .i64))).below hb1 (by simp)
    have hbw : Below w.heap.size w w1 := ((Below.refl _ _).alloc (Nat.le_refl _) _).trans (hb1.mono (by simp))
    obtain ⟨A1, c1, rfl, hs1⟩ := SlA.owned hown1
    clear hown1
    have HBW := hid hbw; clear hbw hb1
    go_loopw [5, 8, 9, 10, 11] (fun s v _ _ _ wr => ∃ (j : Nat) (l b : List Int) (A' : Option Addr) (n' c' : Nat), rds j x = some (l, b) ∧ s = .slice A' n' c' ∧ SlA w1 1 A' n' c' (b.map (.int .u8)) ∧ wr.ownsRow w1.heap.size 3 1 v j (l.map (.int .i64)) ∧ j + n' ≤ x.length ∧ Below w1.heap.size w1 wr) (fun s _ _ _ _ _ => slLen s)
    case atStart => exact ⟨0, [], x, A1, x.length, c1, rfl, rfl, hs1, World.ownsRow_nil _ _ _ _, by omega, Below.refl _ _⟩
    case round =>
      clear hs1
      obtain ⟨j, l, b, A', n', c', hr, hs', hs, hown, hjn, hb⟩ := hrel
      subst hs'
      have hbm : ∀ y ∈ b, 0 ≤ y ∧ y < 256 := fun y hy => hxm y (rds_mem j x l b hr y hy)
      have hlj := rds_len j x l b hr
      have HR := hid hr; clear hr
      have hbs := hb.size
      have hbl := hs.lenI
      have HBL := hid hbl; clear hbl
      by_cases hlt : 0 < n'
      · obtain ⟨mm, k, e, hti⟩ : ∃ m k e, tint b = (m, k, e) := ⟨_, _, _, rfl⟩
        have htf := tint_facts b hbm
        rw [hti] at htf
        dsimp only at htf
        have HI := hid hti; clear hti
        rcases htf with ⟨he0, h1, h2, h3, h4, h5, _⟩ | ⟨he1, h2, h3⟩
        · subst he0
          rw [HBL.out] at h3
          have hnc := hs.nc
          have hcm := hs.cm
          unfold maxLen at hcm
          obtain ⟨b1, off1, _, rfl, _, _⟩ := hs.elemI hlt
          have HR2 := hid (show rds (j + 1) x = some (l ++ [mm], b.drop k) by rw [rds_succ HR.out, HI.out]; simp)
          have HL := hid hlj; clear hlj
          by_cases hck : c' = k
          · have hn' : n' = k := by omega
            subst hck
            subst hn'
            go_wp2_with (first
              | (go_at_call 26; refine (rtint_any _ _ _ b _ (hs.ext hb) hbm).mono ?_; rintro e w3 ⟨rfl, hb3⟩; rw [HI.out]; dsimp only; have hsz3 := hb3.size; have hown3 := own_ext hown hb3; clear hown)
              | (at_builtin; refine wpList_append_own _ rfl _ _ 35 rfl w1.heap.size 3 i0 (.int .i64 0) 1 8 Try.underlying35 hi hz0 hz1 hz2 rfl (by decide) _ _ _ rfl (hown3.alloc _) ⟨w3.heap.size, 0, none⟩ 1 1 _ rfl rfl (cell_one_new _ _ _) (one_int _ _) (by unfold maxLen; omega) (by omega) (by simp; omega) ?_; intro v4 w4 hown4 hg4 _))
            go_roundw
            case rel =>
              refine ⟨j + 1, l ++ [mm], b.drop n', some ⟨b1, off1, none⟩, 0, 0, HR2.out, rfl, ?_, by rw [List.map_append]; exact hown4, by omega, below_append ((hb.trans (hb3.mono hbs)).alloc (by omega) _) hg4 (hown3.alloc _) (Nat.le_refl _) (by simp; omega)⟩
              rw [List.drop_of_length_le (by rw [HBL.out]; omega)]
              exact SlA.zero _ _ _ _ (Nat.zero_le _)
            case measure => simp [slLen]; omega
          · have hs2 := cut_mid hs (l := k) (k := n' - k) (by omega) (some ⟨b1, off1 + k, none⟩) (fun _ => by simp [add_lit])
            rw [List.take_of_length_le (by rw [List.length_drop, List.length_map, HBL.out]; omega), ← List.map_drop] at hs2
            have HS3 := hid hs2; clear hs2
            go_wp2_with (first
              | (go_at_call 26; refine (rtint_any _ _ _ b _ (hs.ext hb) hbm).mono ?_; rintro e w3 ⟨rfl, hb3⟩; rw [HI.out]; dsimp only; have hsz3 := hb3.size; have hown3 := own_ext hown hb3; clear hown)
              | (at_builtin; refine wpList_append_own _ rfl _ _ 35 rfl w1.heap.size 3 i0 (.int .i64 0) 1 8 Try.underlying35 hi hz0 hz1 hz2 rfl (by decide) _ _ _ rfl (hown3.alloc _) ⟨w3.heap.size, 0, none⟩ 1 1 _ rfl rfl (cell_one_new _ _ _) (one_int _ _) (by unfold maxLen; omega) (by omega) (by simp; omega) ?_; intro v4 w4 hown4 hg4 _))
            go_roundw
            case rel =>
              exact ⟨j + 1, l ++ [mm], b.drop k, some ⟨b1, off1 + k, none⟩, n' - k, c' - k, HR2.out, rfl, HS3.out, by rw [List.map_append]; exact hown4, by omega, below_append ((hb.trans (hb3.mono hbs)).alloc (by omega) _) hg4 (hown3.alloc _) (Nat.le_refl _) (by simp; omega)⟩
            case measure => simp [slLen]; omega
        · have hno : reqAt t = none := by
            have hr8 : rds (j + 1) x = none := by rw [rds_succ HR.out, HI.out]; dsimp only; rw [if_neg (by omega)]
            unfold reqAt
            rw [HT.out]
            rcases hr7 : rds 7 x with _ | ⟨l7, b7⟩
            · simp
            · rcases b7 with _ | ⟨z, b7⟩
              · exfalso
                have hn8 : rds 8 x = none := by rw [rds_succ hr7]; simp [tint]
                rcases Nat.lt_or_ge j 7 with hj | hj
                · have := rds_none hr8 (by omega : j + 1 ≤ 7); rw [hr7] at this; cases this
                · rcases Nat.lt_or_ge 7 j with hj2 | hj2
                  · have := rds_none hn8 (by omega : 8 ≤ j); rw [HR.out] at this; cases this
                  · have : j = 7 := by omega
                    subst this
                    have h1 := HR.out
                    rw [hr7] at h1
                    injection h1 with h1
                    injection h1 with _ h1
                    have h2 := HBL.out
                    rw [← h1] at h2
                    simp at h2
                    omega
              · simp
          have HN := hid hno; clear hno
          have hene : (e != 0) = true := by simp; omega
          clear he1
          go_wp2_with (go_at_call 26; refine (rtint_any _ _ _ b _ (hs.ext hb) hbm).mono ?_; rintro e w3 ⟨rfl, hb3⟩; rw [HI.out]; dsimp only; have hbw3 := (hb.trans (hb3.mono hbs)); have hblkW : Blk w3 w.heap.size 23 [.int .i64 0, .int .i64 0, .int .i64 0, .int .i64 0, .int .i64 0, .int .i64 0, .int .i64 0] := hblk.below hbw3 (by omega); have hc0 : w3.cell? ⟨w.heap.size, 0, none⟩ = some (.int .i64 0) := hblkW.cell 0; have hc1 : w3.cell? ⟨w.heap.size, 1, none⟩ = some (.int .i64 0) := hblkW.cell 1; have hc2 : w3.cell? ⟨w.heap.size, 2, none⟩ = some (.int .i64 0) := hblkW.cell 2; have hc3 : w3.cell? ⟨w.heap.size, 3, none⟩ = some (.int .i64 0) := hblkW.cell 3; have hc4 : w3.cell? ⟨w.heap.size, 4, none⟩ = some (.int .i64 0) := hblkW.cell 4; have hc5 : w3.cell? ⟨w.heap.size, 5, none⟩ = some (.int .i64 0) := hblkW.cell 5; have hc6 : w3.cell? ⟨w.heap.size, 6, none⟩ = some (.int .i64 0) := hblkW.cell 6; have hfr := fun i => hblkW.frozen i)
          have hb5 : Below w.heap.size w w3 := HBW.out.trans (hbw3.mono (by omega))
          exact one_ret rfl rfl rfl (blk7 hblkW rfl _ _ _ _ _ _ _) (tells_no HN.out (below7 hb5 (Nat.le_refl _) _ _ _ _ _ _ _))
      · have hn0 : n' = 0 := by omega
        have hb0 : b = [] := by have := HBL.out; rw [hn0] at this; exact List.length_eq_zero_iff.1 this
        subst hn0
        have hblkW : Blk wr w.heap.size 23 [.int .i64 0, .int .i64 0, .int .i64 0, .int .i64 0, .int .i64 0, .int .i64 0, .int .i64 0] := hblk.below hb (by omega)
        have hc0 : wr.cell? ⟨w.heap.size, 0, none⟩ = some (.int .i64 0) := hblkW.cell 0; have hc1 : wr.cell? ⟨w.heap.size, 1, none⟩ = some (.int .i64 0) := hblkW.cell 1; have hc2 : wr.cell? ⟨w.heap.size, 2, none⟩ = some (.int .i64 0) := hblkW.cell 2; have hc3 : wr.cell? ⟨w.heap.size, 3, none⟩ = some (.int .i64 0) := hblkW.cell 3; have hc4 : wr.cell? ⟨w.heap.size, 4, none⟩ = some (.int .i64 0) := hblkW.cell 4; have hc5 : wr.cell? ⟨w.heap.size, 5, none⟩ = some (.int .i64 0) := hblkW.cell 5; have hc6 : wr.cell? ⟨w.heap.size, 6, none⟩ = some (.int .i64 0) := hblkW.cell 6; have hfr := fun i => hblkW.frozen i
        have hb5 : Below w.heap.size w wr := HBW.out.trans (hb.mono (by omega))
        obtain ⟨A8, c8, rfl⟩ := own_shape hown
        by_cases hj7 : j = 7
        · subst hj7
          obtain ⟨y0, y1, y2, y3, y4, y5, y6, rfl⟩ := seven hlj
          clear hlj
          have HN := hid (show reqAt t = if 1 ≤ y0 ∧ y0 ≤ 6 then some ([y0, y1, y2, y3, y4, y5, y6], m) else none by unfold reqAt; rw [HT.out, HR.out, hb0]; simp)
          clear hb0
          obtain ⟨g8, cap8, hv8, hbg8, hlt8⟩ := hown.form (by decide)
          injection hv8 with hA8 hn8 hc8
          subst hA8; subst hc8
          have q0 : wr.cell? ⟨g8, 0, none⟩ = some (.int .i64 y0) := hown.cellAt 0 (by decide)
          have q1 : wr.cell? ⟨g8, 1, none⟩ = some (.int .i64 y1) := hown.cellAt 1 (by decide)
          have q2 : wr.cell? ⟨g8, 2, none⟩ = some (.int .i64 y2) := hown.cellAt 2 (by decide)
          have q3 : wr.cell? ⟨g8, 3, none⟩ = some (.int .i64 y3) := hown.cellAt 3 (by decide)
          have q4 : wr.cell? ⟨g8, 4, none⟩ = some (.int .i64 y4) := hown.cellAt 4 (by decide)
          have q5 : wr.cell? ⟨g8, 5, none⟩ = some (.int .i64 y5) := hown.cellAt 5 (by decide)
          have q6 : wr.cell? ⟨g8, 6, none⟩ = some (.int .i64 y6) := hown.cellAt 6 (by decide)
          clear hown hs
          by_cases h1 : y0 < 1
          · have hd1 : decide (y0 < 1) = true := by simpa using h1
            rw [show (if 1 ≤ y0 ∧ y0 ≤ 6 then some ([y0, y1, y2, y3, y4, y5, y6], m) else none) = none from if_neg (by omega)] at HN
            go_wp2
            exact one_ret rfl rfl rfl (blk7 hblkW rfl _ _ _ _ _ _ _) (tells_no HN.out (below7 hb5 (Nat.le_refl _) _ _ _ _ _ _ _))
          · by_cases h2 : 6 < y0
            · have hd1 : decide (y0 < 1) = false := by simpa using h1
              have hd2 : decide (6 < y0) = true := by simpa using h2
              rw [show (if 1 ≤ y0 ∧ y0 ≤ 6 then some ([y0, y1, y2, y3, y4, y5, y6], m) else none) = none from if_neg (by omega)] at HN
              go_wp2
              exact one_ret rfl rfl rfl (blk7 hblkW rfl _ _ _ _ _ _ _) (tells_no HN.out (below7 hb5 (Nat.le_refl _) _ _ _ _ _ _ _))
            · have hd1 : decide (y0 < 1) = false := by simpa using h1
              have hd2 : decide (6 < y0) = false := by simpa using h2
              rw [show (if 1 ≤ y0 ∧ y0 ≤ 6 then some ([y0, y1, y2, y3, y4, y5, y6], m) else none) = some ([y0, y1, y2, y3, y4, y5, y6], m) from if_pos (by omega)] at HN
              go_wp2
              have hne : w.heap.size ≠ g8 := by omega
              go_region_held3 (fun w' => w'.cell? ⟨g8, 0, none⟩ = some (.int .i64 y0) ∧ w'.cell? ⟨g8, 1, none⟩ = some (.int .i64 y1) ∧ w'.cell? ⟨g8, 2, none⟩ = some (.int .i64 y2) ∧ w'.cell? ⟨g8, 3, none⟩ = some (.int .i64 y3) ∧ w'.cell? ⟨g8, 4, none⟩ = some (.int .i64 y4) ∧ w'.cell? ⟨g8, 5, none⟩ = some (.int .i64 y5) ∧ w'.cell? ⟨g8, 6, none⟩ = some (.int .i64 y6)) (go_keep) (fail)
              go_wp2
              have hB7 := (blk7 hblkW rfl (.int .i64 y0) (.int .i64 y1) (.int .i64 y2) (.int .i64 y3) (.int .i64 y4) (.int .i64 y5) (.int .i64 y6)).drew
              have hT7 := tells_yes HN.out (below7 hb5 (Nat.le_refl _) (.int .i64 y0) (.int .i64 y1) (.int .i64 y2) (.int .i64 y3) (.int .i64 y4) (.int .i64 y5) (.int .i64 y6)).drew
              exact one_ret rfl rfl rfl hB7 hT7
        · have hno : reqAt t = none := by
            have hq := rds_end (by rw [← hb0]; exact HR.out) hj7
            unfold reqAt
            rw [HT.out]
            rcases hr7 : rds 7 x with _ | ⟨l7, b7⟩
            · simp
            · have := hq _ hr7
              rcases b7 with _ | ⟨z, b7⟩
              · exact absurd rfl this
              · simp
          have HN := hid hno; clear hno hb0
          have hd : ((j : Int) != 7) = true := by simp; omega
          clear hj7 hown hs
          go_wp2
          exact one_ret rfl rfl rfl (blk7 hblkW rfl _ _ _ _ _ _ _) (tells_no HN.out (below7 hb5 (Nat.le_refl _) _ _ _ _ _ _ _))
  · have hno : reqAt t = none := by unfold reqAt; rw [HT.out]; simp [he]
    have HN := hid hno; clear hno
    have hene : (e != 0) = true := by simpa using he
    clear he
    go_enter Try.func19, Try.ntmps19
    go_wp2_with (go_at_call 25; refine (rtbytes_any _ n c t _ (h.alloc _) hl (by omega)).mono ?_; rintro e w1 ⟨v, rfl, hown1, hb1⟩; rw [HT.out] at hown1 ⊢; dsimp only at hown1 ⊢; have hblkW : Blk w1 w.heap.size 23 [.int .i64 0, .int .i64 0, .int .i64 0, .int .i64 0, .int .i64 0, .int .i64 0, .int .i64 0] := (Blk.new w 23 [.int .i64 0, .int .i64 0, .int .i64 0, .int .i64 0, .int .i64 0, .int .i64 0, .int .i64 0]).below hb1 (by simp); have hc0 : w1.cell? ⟨w.heap.size, 0, none⟩ = some (.int .i64 0) := hblkW.cell 0; have hc1 : w1.cell? ⟨w.heap.size, 1, none⟩ = some (.int .i64 0) := hblkW.cell 1; have hc2 : w1.cell? ⟨w.heap.size, 2, none⟩ = some (.int .i64 0) := hblkW.cell 2; have hc3 : w1.cell? ⟨w.heap.size, 3, none⟩ = some (.int .i64 0) := hblkW.cell 3; have hc4 : w1.cell? ⟨w.heap.size, 4, none⟩ = some (.int .i64 0) := hblkW.cell 4; have hc5 : w1.cell? ⟨w.heap.size, 5, none⟩ = some (.int .i64 0) := hblkW.cell 5; have hc6 : w1.cell? ⟨w.heap.size, 6, none⟩ = some (.int .i64 0) := hblkW.cell 6; have hfr := fun i => hblkW.frozen i; clear hown1)
    have hb : Below w.heap.size w w1 := ((Below.refl _ _).alloc (Nat.le_refl _) _).trans (hb1.mono (by simp))
    exact one_ret rfl rfl rfl (blk7 hblkW rfl _ _ _ _ _ _ _) (tells_no HN.out (below7 hb (Nat.le_refl _) _ _ _ _ _ _ _))

end Go.Proofs.Ytdleikgcgbokmaa
