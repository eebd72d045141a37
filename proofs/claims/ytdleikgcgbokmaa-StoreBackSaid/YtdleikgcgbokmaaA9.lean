/- One record read, by the program. -/
import Derived.Test.YtdleikgcgbokmaaA8
import Derived.Deep.RegionWith
namespace Go.Proofs.Ytdleikgcgbokmaa
open Go.RowKit Go.KK
set_option linter.unusedVariables false
set_option linter.unusedSimpArgs false

/-- j numbers read, and what is left. -/
def rds : Nat → List Int → Option (List Int × List Int)
  | 0, x => some ([], x)
  | j+1, x => (rds j x).bind fun p => if (tint p.2).2.2 = 0 then some (p.1 ++ [(tint p.2).1], p.2.drop (tint p.2).2.1) else none
theorem rds_succ {j : Nat} {x l b : List Int} (h : rds j x = some (l, b)) : rds (j + 1) x = if (tint b).2.2 = 0 then some (l ++ [(tint b).1], b.drop (tint b).2.1) else none := by
  rw [rds, h]; rfl
theorem rds_len : ∀ (j : Nat) (x l b : List Int), rds j x = some (l, b) → l.length = j
  | 0, x, l, b, h => by simp [rds] at h; simp [← h.1]
  | j+1, x, l, b, h => by
    rw [rds] at h
    rcases hr : rds j x with _ | ⟨l', b'⟩
    · rw [hr] at h; cases h
    · rw [hr] at h
      have ih := rds_len j x l' b' hr
      simp only [Option.bind_some] at h
      split at h
      · simp only [Option.some.injEq, Prod.mk.injEq] at h
        rw [← h.1, List.length_append, ih]; rfl
      · cases h
theorem rds_none : ∀ {j k : Nat} {x : List Int}, rds j x = none → j ≤ k → rds k x = none
  | j, 0, x, h, hjk => by have : j = 0 := by omega
                          subst this; exact h
  | j, k+1, x, h, hjk => by
    rcases Nat.lt_or_ge j (k + 1) with hlt | hge
    · rw [rds, rds_none h (by omega : j ≤ k)]; rfl
    · have : j = k + 1 := by omega
      subst this; exact h
theorem rds_mem : ∀ (j : Nat) (x l b : List Int), rds j x = some (l, b) → ∀ y ∈ b, y ∈ x
  | 0, x, l, b, h => by simp [rds] at h; intro y hy; rw [h.2]; exact hy
  | j+1, x, l, b, h => by
    rw [rds] at h
    rcases hr : rds j x with _ | ⟨l', b'⟩
    · rw [hr] at h; cases h
    · rw [hr] at h
      have ih := rds_mem j x l' b' hr
      simp only [Option.bind_some] at h
      split at h
      · simp only [Option.some.injEq, Prod.mk.injEq] at h
        intro y hy
        rw [← h.2] at hy
        exact ih y (List.mem_of_mem_drop hy)
      · cases h

/-- The request at a tape's beginning, and how many bytes its record has. -/
def reqAt (t : List Int) : Option (List Int × Nat) :=
  if (tbytes t).2.2 ≠ 0 then none
  else match rds 7 (tbytes t).1 with
    | some (l, []) => if 1 ≤ l.headD 0 ∧ l.headD 0 ≤ 6 then some (l, (tbytes t).2.1) else none
    | _ => none

/-- What first and one tell of a tape: is there one, and which. -/
def Tells (t : List Int) (w : World) (e : Ending) (w' : World) : Prop :=
  ∃ y0 y1 y2 y3 y4 y5 y6 n : Int, e = .returned (.tuple #[.agg #[.int .i64 y0, .int .i64 y1, .int .i64 y2, .int .i64 y3, .int .i64 y4, .int .i64 y5, .int .i64 y6], .int .i64 n, .bool (reqAt t).isSome]) ∧
    (∀ l m, reqAt t = some (l, m) → l = [y0, y1, y2, y3, y4, y5, y6] ∧ n = m) ∧ Below w.heap.size w w'

/-- The numbers read so far, and zeros. -/
def pad7 (l : List Int) : List Int := l ++ List.replicate (7 - l.length) 0
theorem pad7_len (l : List Int) (h : l.length ≤ 7) : (pad7 l).length = 7 := by simp [pad7]; omega
theorem pad7_set (l : List Int) (x : Int) (h : l.length < 7) : (pad7 l).set l.length x = pad7 (l ++ [x]) := by
  unfold pad7
  rw [List.set_append_right _ _ (Nat.le_refl _), Nat.sub_self]
  obtain ⟨k, hk⟩ : ∃ k, 7 - l.length = k + 1 := ⟨6 - l.length, by omega⟩
  have hk2 : 7 - (l ++ [x]).length = k := by rw [List.length_append, List.length_singleton]; omega
  rw [hk, hk2, List.replicate_succ, List.set_cons_zero, List.append_assoc]
  rfl
theorem pad7_get (l : List Int) (j : Nat) (hj : l.length = j) (h : j < 7) : (pad7 l)[j]? = some 0 := by
  unfold pad7
  rw [List.getElem?_append_right (by omega), List.getElem?_replicate, if_pos (by omega)]
theorem seven {l : List Int} (h : l.length = 7) : ∃ y0 y1 y2 y3 y4 y5 y6, l = [y0, y1, y2, y3, y4, y5, y6] := by
  match l, h with
  | [y0, y1, y2, y3, y4, y5, y6], _ => exact ⟨_, _, _, _, _, _, _, rfl⟩

/-- A block of the call's own, whole. -/
def Blk (w : World) (g : Nat) (t : TypeId) (cs : List Value) : Prop := w.heap[g]? = some (.cells cs.toArray t (0, 0))
theorem Blk.cell {w : World} {g : Nat} {t : TypeId} {cs : List Value} (h : Blk w g t cs) (i : Nat) : w.cell? ⟨g, i, none⟩ = cs[i]? := by
  rw [cell_of_row w g i _ t (0, 0) h]; simp
theorem Blk.frozen {w : World} {g : Nat} {t : TypeId} {cs : List Value} (h : Blk w g t cs) (i : Nat) : w.frozen? ⟨g, i, none⟩ = false := frozen_of_row w g i _ t h
theorem Blk.set_ {w : World} {g : Nat} {t : TypeId} {cs : List Value} (h : Blk w g t cs) (i : Nat) (u : Value) : Blk (w.setCell ⟨g, i, none⟩ u) g t (cs.set i u) := by
  have := heap_setCell_same w g i _ t u h
  unfold Blk
  rw [this]; simp
theorem Blk.below {w w' : World} {B g : Nat} {t : TypeId} {cs : List Value} (h : Blk w g t cs) (hb : Below B w w') (hg : g < B) : Blk w' g t cs := (hb.block g hg).trans h
theorem Blk.new (w : World) (t : TypeId) (cs : List Value) : Blk (w.alloc (.cells cs.toArray t)) w.heap.size t cs := heap_alloc_new w _
theorem Blk.lt {w : World} {g : Nat} {t : TypeId} {cs : List Value} (h : Blk w g t cs) : g < w.heap.size := by
  rcases Nat.lt_or_ge g w.heap.size with hlt | hge
  · exact hlt
  · unfold Blk at h; rw [Array.getElem?_eq_none hge] at h; cases h
/-- What lies apart from a block that is written reads on. -/
theorem sla_setCell {w : World} {size : Nat} {A : Option Addr} {n c : Nat} {xs : List Value} (h : SlA w size A n c xs) (g i : Nat) (u : Value) (hne : ∀ b off, A = some ⟨b, off, none⟩ → b ≠ g) : SlA (w.setCell ⟨g, i, none⟩ u) size A n c xs :=
  ⟨h.nc, h.cm, h.len, fun j x hj => by
    obtain ⟨b, off, e, hc⟩ := h.cells j x hj
    refine ⟨b, off, e, ?_⟩
    rw [World.cell?_setCell_other w _ _ _ (fun e' => hne b off e (by injection e' with e1; exact e1.symm))]
    exact hc⟩

set_option maxHeartbeats 2000000 in
theorem first_any (A : Option Addr) (n c : Nat) (t : List Int) (w : World) (h : SlA w 1 A n c (t.map (.int .u8))) (hl : ∀ x ∈ t, 0 ≤ x ∧ x < 256) (hn47 : n ≤ 140737488355328) :
    Calls Try.prog 18 #[.slice A n c] w (Tells t w) := by
  obtain ⟨x, m, e, ht⟩ : ∃ x m e, tbytes t = (x, m, e) := ⟨_, _, _, rfl⟩
  have HT := hid ht; clear ht
  by_cases he : e = 0
  · subst he
    go_enter Try.func18, Try.ntmps18
    go_wp2_with (first
      | (go_at_call 23; refine (tbytes_any _ n c t _ (h.alloc _) hl hn47).mono ?_; rintro e w1 ⟨v, rfl, hown1, hb1⟩; rw [HT.out] at hown1 ⊢; dsimp only at hown1 ⊢; have hsz1 := hb1.size; simp only [World.size_alloc] at hsz1)
      | (go_at_call 13; refine (fields_any w.heap.size _ (by omega)).mono ?_; rintro e w2 ⟨rfl, hb2⟩; have hsz2 := hb2.size))
    have hblk : Blk w2 w.heap.size 23 ((pad7 []).map (Value.int .i64)) := ((Blk.new w 23 ((pad7 []).map (Value.int .i64))).below hb1 (by simp)).below hb2 (by omega)
    have hbw : Below w.heap.size w w2 := (((Below.refl _ _).alloc (Nat.le_refl _) _).trans (hb1.mono (by simp))).trans (hb2.mono (by omega))
    have hap : ∀ A' c', v = .slice A' x.length c' → ∀ b off, A' = some ⟨b, off, none⟩ → b ≠ w.heap.size := by
      rintro A' c' rfl b off rfl
      have := (hown1.lt b rfl).1
      simp at this
      omega
    have hown2 := own_ext hown1 hb2
    obtain ⟨A1, c1, rfl, hs1⟩ := SlA.owned hown2
    have hap1 := hap A1 c1 rfl
    have hxm : ∀ y ∈ x, 0 ≤ y ∧ y < 256 := by
      intro y hy
      have := HT.out
      unfold tbytes at this
      split at this
      · injection this with e1 _; rw [← e1] at hy; cases hy
      · split at this
        · injection this with e1 _; rw [← e1] at hy; cases hy
        · injection this with e1 _; rw [← e1] at hy; exact hl y (List.mem_of_mem_drop (List.mem_of_mem_take hy))
    clear hown1 hown2 hap
    have HBW := hid hbw; clear hbw hb1 hb2
    go_loopw [3, 5, 8, 9, 10, 11, 22] (fun s3 s _ _ _ _ i wr => ∃ (j : Nat) (l b : List Int) (A' : Option Addr) (n' c' : Nat), s3 = .int .i64 m ∧ j ≤ 7 ∧ i = .int .i64 j ∧ rds j x = some (l, b) ∧ s = .slice A' n' c' ∧ SlA wr 1 A' n' c' (b.map (.int .u8)) ∧ (∀ b off, A' = some ⟨b, off, none⟩ → b ≠ w.heap.size) ∧ Blk wr w.heap.size 23 ((pad7 l).map (Value.int .i64)) ∧ Below w.heap.size w wr) (fun _ _ _ _ _ _ i _ => 7 - (intOf i).toNat)
    case atStart => exact ⟨0, [], x, A1, x.length, c1, rfl, by omega, by simp, rfl, rfl, hs1, hap1, hblk, HBW.out⟩
    case round =>
      clear hs1 hap1 hblk
      obtain ⟨j, l, b, A', n', c', hs3, hj, hi', hr, hs', hs, hap, hblk, hb⟩ := hrel
      subst hi'; subst hs'; subst hs3
      have hbm : ∀ y ∈ b, 0 ≤ y ∧ y < 256 := fun y hy => hxm y (rds_mem j x l b hr y hy)
      have hlj := rds_len j x l b hr
      have HR := hid hr; clear hr
      by_cases hlt : j < 7
      · have hpi := ptr_index w.heap.size j hlt
        obtain ⟨mm, k, e, hti⟩ : ∃ m k e, tint b = (m, k, e) := ⟨_, _, _, rfl⟩
        have htf := tint_facts b hbm
        rw [hti] at htf
        dsimp only at htf
        have HI := hid hti; clear hti
        have hbl := hs.lenI
        rcases htf with ⟨he0, h1, h2, h3, h4, h5, _⟩ | ⟨he1, h2, h3⟩
        · subst he0
          have hnc := hs.nc
          have hcm := hs.cm
          unfold maxLen at hcm
          have hkn : k ≤ n' := by omega
          obtain ⟨b1, off1, _, rfl, _, _⟩ := hs.elemI (show 0 < n' by omega)
          have hne := hap b1 off1 rfl
          have hcell : wr.cell? ⟨w.heap.size, j, none⟩ = some (.int .i64 0) := by
            rw [hblk.cell j, List.getElem?_map, pad7_get l j hlj hlt]
            rfl
          have hfr := hblk.frozen j
          have HR2 := hid (show rds (j + 1) x = some (l ++ [mm], b.drop k) by rw [rds_succ HR.out, HI.out]; simp)
          have HL := hid hlj; clear hlj
          have hblk2 : ∀ nq, Blk ((wr.setCell ⟨w.heap.size, j, none⟩ (.int .i64 mm)).drewN nq) w.heap.size 23 ((pad7 (l ++ [mm])).map (Value.int .i64)) := fun nq => by
            have := hblk.set_ j (.int .i64 mm)
            rw [← pad7_set l mm (by rw [HL.out]; exact hlt), HL.out, List.map_set]
            exact this
          have HB2 := hid hblk2; clear hblk2
          by_cases hck : c' = k
          · have hn' : n' = k := by omega
            subst hck
            subst hn'
            go_wp2_with (go_at_call 24; refine (tint_any _ _ _ b _ hs hbm).mono ?_; rintro e w3 ⟨rfl, rfl⟩; rw [HI.out]; dsimp only)
            go_region
            go_wp2
            go_roundw
            case rel =>
              refine ⟨j + 1, l ++ [mm], b.drop n', some ⟨b1, off1, none⟩, 0, 0, rfl, by omega, by go_num, HR2.out, rfl, ?_, hap, HB2.out 1, (hb.setCell (Nat.le_refl _) _).drew⟩
              rw [List.drop_of_length_le (by omega)]
              exact SlA.zero _ _ _ _ (Nat.zero_le _)
            case measure => simp [intOf]; omega
          · have hs2 := cut_mid hs (l := k) (k := n' - k) (by omega) (some ⟨b1, off1 + k, none⟩) (fun _ => by simp [add_lit])
            rw [List.take_of_length_le (by rw [List.length_drop, List.length_map]; omega), ← List.map_drop] at hs2
            have hs3 := (sla_setCell hs2 w.heap.size j (.int .i64 mm) (fun b off e => by injection e with e; injection e with e1 e2; omega)).drew
            have HS3 := hid hs3; clear hs3 hs2
            go_wp2_with (go_at_call 24; refine (tint_any _ _ _ b _ hs hbm).mono ?_; rintro e w3 ⟨rfl, rfl⟩; rw [HI.out]; dsimp only)
            go_region
            go_wp2
            go_roundw
            case rel =>
              exact ⟨j + 1, l ++ [mm], b.drop k, some ⟨b1, off1 + k, none⟩, n' - k, c' - k, rfl, by omega, by go_num, HR2.out, rfl, HS3.out, (fun b off e => by injection e with e; injection e with e1 e2; omega), HB2.out 1, (hb.setCell (Nat.le_refl _) _).drew⟩
            case measure => simp [intOf]; omega
        · have hno : reqAt t = none := by
            have hr8 : rds (j + 1) x = none := by rw [rds_succ HR.out, HI.out]; dsimp only; rw [if_neg (by omega)]
            have hr7 : rds 7 x = none := rds_none hr8 (by omega)
            unfold reqAt
            rw [HT.out]
            simp [hr7]
          have HN := hid hno; clear hno
          obtain ⟨y0, y1, y2, y3, y4, y5, y6, hy⟩ := seven (pad7_len l (by omega))
          rw [hy] at hblk
          have hc0 : wr.cell? ⟨w.heap.size, 0, none⟩ = some (.int .i64 y0) := hblk.cell 0
          have hc1 : wr.cell? ⟨w.heap.size, 1, none⟩ = some (.int .i64 y1) := hblk.cell 1
          have hc2 : wr.cell? ⟨w.heap.size, 2, none⟩ = some (.int .i64 y2) := hblk.cell 2
          have hc3 : wr.cell? ⟨w.heap.size, 3, none⟩ = some (.int .i64 y3) := hblk.cell 3
          have hc4 : wr.cell? ⟨w.heap.size, 4, none⟩ = some (.int .i64 y4) := hblk.cell 4
          have hc5 : wr.cell? ⟨w.heap.size, 5, none⟩ = some (.int .i64 y5) := hblk.cell 5
          have hc6 : wr.cell? ⟨w.heap.size, 6, none⟩ = some (.int .i64 y6) := hblk.cell 6
          have hfr := fun i => hblk.frozen i
          clear hy
          have hene : (e != 0) = true := by simp; omega
          clear he1
          go_wp2_with (go_at_call 24; refine (tint_any _ _ _ b _ hs hbm).mono ?_; rintro e w3 ⟨rfl, rfl⟩; rw [HI.out]; dsimp only)
          have hB := ((((((hblk.set_ 0 (.int .i64 y0)).set_ 1 (.int .i64 y1)).set_ 2 (.int .i64 y2)).set_ 3 (.int .i64 y3)).set_ 4 (.int .i64 y4)).set_ 5 (.int .i64 y5)).set_ 6 (.int .i64 y6)
          have d0 := hB.cell 0
          have d1 := hB.cell 1
          have d2 := hB.cell 2
          have d3 := hB.cell 3
          have d4 := hB.cell 4
          have d5 := hB.cell 5
          have d6 := hB.cell 6
          simp only [List.map_cons, List.map_nil, List.set_cons_zero, List.set_cons_succ, List.getElem?_cons_zero, List.getElem?_cons_succ] at d0 d1 d2 d3 d4 d5 d6
          refine bodyPost_ret (v := .tuple #[.agg #[.int .i64 y0, .int .i64 y1, .int .i64 y2, .int .i64 y3, .int .i64 y4, .int .i64 y5, .int .i64 y6], .int .i64 0, .bool false]) (by simp [results, Try.results18, go_sem, d0, d1, d2, d3, d4, d5, d6]) rfl ⟨y0, y1, y2, y3, y4, y5, y6, 0, ?_, ?_, ?_⟩
          · rw [HN.out]; rfl
          · intro l m h; rw [HN.out] at h; cases h
          · exact ((((((hb.setCell (Nat.le_refl _) _).setCell (Nat.le_refl _) _).setCell (Nat.le_refl _) _).setCell (Nat.le_refl _) _).setCell (Nat.le_refl _) _).setCell (Nat.le_refl _) _).setCell (Nat.le_refl _) _
      · have hj7 : j = 7 := by omega
        subst hj7
        obtain ⟨y0, y1, y2, y3, y4, y5, y6, rfl⟩ := seven hlj
        have hblk2 : Blk wr w.heap.size 23 [.int .i64 y0, .int .i64 y1, .int .i64 y2, .int .i64 y3, .int .i64 y4, .int .i64 y5, .int .i64 y6] := hblk
        have hc0 : wr.cell? ⟨w.heap.size, 0, none⟩ = some (.int .i64 y0) := hblk.cell 0
        have hc1 : wr.cell? ⟨w.heap.size, 1, none⟩ = some (.int .i64 y1) := hblk.cell 1
        have hc2 : wr.cell? ⟨w.heap.size, 2, none⟩ = some (.int .i64 y2) := hblk.cell 2
        have hc3 : wr.cell? ⟨w.heap.size, 3, none⟩ = some (.int .i64 y3) := hblk.cell 3
        have hc4 : wr.cell? ⟨w.heap.size, 4, none⟩ = some (.int .i64 y4) := hblk.cell 4
        have hc5 : wr.cell? ⟨w.heap.size, 5, none⟩ = some (.int .i64 y5) := hblk.cell 5
        have hc6 : wr.cell? ⟨w.heap.size, 6, none⟩ = some (.int .i64 y6) := hblk.cell 6
        have hfr := fun i => hblk.frozen i
        clear hlj
        by_cases hz : n' = 0
        · have hd : ((n' : Int) == 0) = true := by simp [hz]
          have hb0 : b = [] := by have := hs.lenI; rw [hz] at this; exact List.length_eq_zero_iff.1 this
          clear hz
          have hlt := hblk.lt
          have hg7 := HR.out
          have HN := hid (show reqAt t = if 1 ≤ y0 ∧ y0 ≤ 6 then some ([y0, y1, y2, y3, y4, y5, y6], m) else none by unfold reqAt; rw [HT.out, hg7, hb0]; simp)
          clear hb0 hg7
          go_wp2
          go_region_with (go_at_call 12; refine (good_any _ _ _ _ _ _ _ _).mono ?_; rintro e w4 ⟨rfl, hb4⟩; have e0 := (hb4.cell (p := ⟨w.heap.size, 0, none⟩) hlt).trans hc0; have e1 := (hb4.cell (p := ⟨w.heap.size, 1, none⟩) hlt).trans hc1; have e2 := (hb4.cell (p := ⟨w.heap.size, 2, none⟩) hlt).trans hc2; have e3 := (hb4.cell (p := ⟨w.heap.size, 3, none⟩) hlt).trans hc3; have e4 := (hb4.cell (p := ⟨w.heap.size, 4, none⟩) hlt).trans hc4; have e5 := (hb4.cell (p := ⟨w.heap.size, 5, none⟩) hlt).trans hc5; have e6 := (hb4.cell (p := ⟨w.heap.size, 6, none⟩) hlt).trans hc6; have f0 := fun i => (hb4.frozen (p := ⟨w.heap.size, i, none⟩) hlt).trans (hfr i))
          all_goals
            have hblk4 : Blk w4 w.heap.size 23 [.int .i64 y0, .int .i64 y1, .int .i64 y2, .int .i64 y3, .int .i64 y4, .int .i64 y5, .int .i64 y6] := Blk.below (w := wr.drew) hblk2 hb4 hlt
            have hB := ((((((hblk4.set_ 0 (.int .i64 y0)).set_ 1 (.int .i64 y1)).set_ 2 (.int .i64 y2)).set_ 3 (.int .i64 y3)).set_ 4 (.int .i64 y4)).set_ 5 (.int .i64 y5)).set_ 6 (.int .i64 y6)
            have d0 := hB.cell 0
            have d1 := hB.cell 1
            have d2 := hB.cell 2
            have d3 := hB.cell 3
            have d4 := hB.cell 4
            have d5 := hB.cell 5
            have d6 := hB.cell 6
            simp only [List.set_cons_zero, List.set_cons_succ, List.getElem?_cons_zero, List.getElem?_cons_succ] at d0 d1 d2 d3 d4 d5 d6
            have hb5 : Below w.heap.size w w4 := hb.drew.trans (hb4.mono (Nat.le_of_lt hlt))
            have HB5 := hid ((((((((hb5.setCell (p := ⟨w.heap.size, 0, none⟩) (Nat.le_refl _) (.int .i64 y0)).setCell (p := ⟨w.heap.size, 1, none⟩) (Nat.le_refl _) (.int .i64 y1)).setCell (p := ⟨w.heap.size, 2, none⟩) (Nat.le_refl _) (.int .i64 y2)).setCell (p := ⟨w.heap.size, 3, none⟩) (Nat.le_refl _) (.int .i64 y3)).setCell (p := ⟨w.heap.size, 4, none⟩) (Nat.le_refl _) (.int .i64 y4)).setCell (p := ⟨w.heap.size, 5, none⟩) (Nat.le_refl _) (.int .i64 y5)).setCell (p := ⟨w.heap.size, 6, none⟩) (Nat.le_refl _) (.int .i64 y6)))
            clear hb4 hb5 e0 e1 e2 e3 e4 e5 e6 f0 hB hblk4
            go_wp2
            refine bodyPost_ret (v := .tuple #[.agg #[.int .i64 y0, .int .i64 y1, .int .i64 y2, .int .i64 y3, .int .i64 y4, .int .i64 y5, .int .i64 y6], .int .i64 m, .bool (decide (1 ≤ y0) && decide (y0 ≤ 6))]) (by simp [results, Try.results18, go_sem, d0, d1, d2, d3, d4, d5, d6]) rfl ⟨y0, y1, y2, y3, y4, y5, y6, m, ?_, ?_, HB5.out⟩
            · rw [HN.out]; by_cases h1 : 1 ≤ y0 <;> by_cases h2 : y0 ≤ 6 <;> simp [h1, h2]
            · intro l m h
              rw [HN.out] at h
              split at h
              · injection h with h; injection h with h1 h2; exact ⟨h1.symm, by rw [h2]⟩
              · cases h
        · have hd : ((n' : Int) == 0) = false := by simpa using hz
          have hb0 : b ≠ [] := by rintro rfl; exact hz (by have := hs.lenI; simpa using this.symm)
          have HN := hid (show reqAt t = none by
            obtain ⟨z, b, rfl⟩ := List.exists_cons_of_ne_nil hb0
            unfold reqAt; rw [HT.out, HR.out]; simp)
          clear hb0 hz
          go_wp2
          go_region
          go_wp2
          have hB := ((((((hblk2.set_ 0 (.int .i64 y0)).set_ 1 (.int .i64 y1)).set_ 2 (.int .i64 y2)).set_ 3 (.int .i64 y3)).set_ 4 (.int .i64 y4)).set_ 5 (.int .i64 y5)).set_ 6 (.int .i64 y6)
          have d0 := hB.cell 0
          have d1 := hB.cell 1
          have d2 := hB.cell 2
          have d3 := hB.cell 3
          have d4 := hB.cell 4
          have d5 := hB.cell 5
          have d6 := hB.cell 6
          simp only [List.set_cons_zero, List.set_cons_succ, List.getElem?_cons_zero, List.getElem?_cons_succ] at d0 d1 d2 d3 d4 d5 d6
          refine bodyPost_ret (v := .tuple #[.agg #[.int .i64 y0, .int .i64 y1, .int .i64 y2, .int .i64 y3, .int .i64 y4, .int .i64 y5, .int .i64 y6], .int .i64 m, .bool false]) (by simp [results, Try.results18, go_sem, d0, d1, d2, d3, d4, d5, d6]) rfl ⟨y0, y1, y2, y3, y4, y5, y6, m, ?_, ?_, ?_⟩
          · rw [HN.out]; rfl
          · intro l m h; rw [HN.out] at h; cases h
          · exact (((((((hb.setCell (Nat.le_refl _) _).setCell (Nat.le_refl _) _).setCell (Nat.le_refl _) _).setCell (Nat.le_refl _) _).setCell (Nat.le_refl _) _).setCell (Nat.le_refl _) _).setCell (Nat.le_refl _) _).drew
  · have hno : reqAt t = none := by unfold reqAt; rw [HT.out]; simp [he]
    have HN := hid hno; clear hno
    have hene : (e != 0) = true := by simpa using he
    clear he
    go_enter Try.func18, Try.ntmps18
    go_wp2_with (go_at_call 23; refine (tbytes_any _ n c t _ (h.alloc _) hl hn47).mono ?_; rintro e w1 ⟨v, rfl, hown1, hb1⟩; rw [HT.out] at hown1 ⊢; dsimp only at hown1 ⊢; have hblk : Blk w1 w.heap.size 23 [.int .i64 0, .int .i64 0, .int .i64 0, .int .i64 0, .int .i64 0, .int .i64 0, .int .i64 0] := (Blk.new w 23 [.int .i64 0, .int .i64 0, .int .i64 0, .int .i64 0, .int .i64 0, .int .i64 0, .int .i64 0]).below hb1 (by simp); have hc0 : w1.cell? ⟨w.heap.size, 0, none⟩ = some (.int .i64 0) := hblk.cell 0; have hc1 : w1.cell? ⟨w.heap.size, 1, none⟩ = some (.int .i64 0) := hblk.cell 1; have hc2 : w1.cell? ⟨w.heap.size, 2, none⟩ = some (.int .i64 0) := hblk.cell 2; have hc3 : w1.cell? ⟨w.heap.size, 3, none⟩ = some (.int .i64 0) := hblk.cell 3; have hc4 : w1.cell? ⟨w.heap.size, 4, none⟩ = some (.int .i64 0) := hblk.cell 4; have hc5 : w1.cell? ⟨w.heap.size, 5, none⟩ = some (.int .i64 0) := hblk.cell 5; have hc6 : w1.cell? ⟨w.heap.size, 6, none⟩ = some (.int .i64 0) := hblk.cell 6; have hfr := fun i => hblk.frozen i; clear hown1)
    have hB := ((((((hblk.set_ 0 (.int .i64 0)).set_ 1 (.int .i64 0)).set_ 2 (.int .i64 0)).set_ 3 (.int .i64 0)).set_ 4 (.int .i64 0)).set_ 5 (.int .i64 0)).set_ 6 (.int .i64 0)
    have d0 := hB.cell 0
    have d1 := hB.cell 1
    have d2 := hB.cell 2
    have d3 := hB.cell 3
    have d4 := hB.cell 4
    have d5 := hB.cell 5
    have d6 := hB.cell 6
    simp only [List.set_cons_zero, List.set_cons_succ, List.getElem?_cons_zero, List.getElem?_cons_succ] at d0 d1 d2 d3 d4 d5 d6
    have hb : Below w.heap.size w w1 := ((Below.refl _ _).alloc (Nat.le_refl _) _).trans (hb1.mono (by simp))
    refine bodyPost_ret (v := .tuple #[.agg #[.int .i64 0, .int .i64 0, .int .i64 0, .int .i64 0, .int .i64 0, .int .i64 0, .int .i64 0], .int .i64 0, .bool false]) (by simp [results, Try.results18, go_sem, d0, d1, d2, d3, d4, d5, d6]) rfl ⟨0, 0, 0, 0, 0, 0, 0, 0, ?_, ?_, ?_⟩
    · rw [HN.out]; rfl
    · intro l m h; rw [HN.out] at h; cases h
    · exact ((((((hb.setCell (Nat.le_refl _) _).setCell (Nat.le_refl _) _).setCell (Nat.le_refl _) _).setCell (Nat.le_refl _) _).setCell (Nat.le_refl _) _).setCell (Nat.le_refl _) _).setCell (Nat.le_refl _) _

end Go.Proofs.Ytdleikgcgbokmaa
