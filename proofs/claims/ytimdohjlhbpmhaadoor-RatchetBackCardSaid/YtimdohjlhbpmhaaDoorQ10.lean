/- the reference of layer 7: Add. -/
import Derived.Test.YtimdohjlhbpmhaaDoorP4
namespace Go.Proofs.YtimdohjlhbpmhaaDoor
open Go.RowKit Go.KK Go.Shelf
set_option linter.unusedVariables false
set_option linter.unusedSimpArgs false

theorem radd_no1 (A : Option Addr) (n c : Nat) (xs : List TN) (k i e s h : Int) (B : Option Addr) (m d : Nat) (w : World) (ht : Tr w A n c xs) (hnm : n ≤ 600) (hu : Shorts xs) (hw : WfT xs) (hc : chkB xs = false) :
    Calls Tryd.prog 12 #[.slice A n c, .agg #[.int .i64 k, .int .i64 i, .int .i64 e, .int .i64 s, .int .i64 h, .slice B m d]] w fun r w' => r = .returned (.tuple #[.slice none 0 0, .int .i64 0, .int .i64 1]) ∧ Below w.heap.size w w' := by
  have he : chkE xs = 1 := by unfold chkE; rw [hc]; rfl
  have hb0 : Below w.heap.size w (w.alloc (.cells #[.int .i64 k, .int .i64 i, .int .i64 e, .int .i64 s, .int .i64 h, .slice B m d] 25)) := (Below.refl _ _).alloc (Nat.le_refl _) _
  have HU := hid hu; have H := hid (ht.ext hb0); have HW := hid hw
  clear hu ht hc hw
  go_enter Tryd.func12, Tryd.ntmps12
  go_wp2_with (go_at_call 21; refine (rchk_any _ n c xs _ H.out hnm HU.out HW.out).mono ?_; rintro e1 w1 ⟨rfl, hb1⟩; rw [he]; have HB := hid hb1; clear hb1)
  go_ret3
  exact ⟨rfl, (below_new (Below.refl _ _) (Nat.le_refl _) HB.out).1⟩
theorem radd_no2 (A : Option Addr) (n c : Nat) (xs : List TN) (k i e s h : Int) (B : Option Addr) (m d : Nat) (w : World) (ht : Tr w A n c xs) (hnm : n ≤ 600) (hu : Shorts xs) (hw : WfT xs) (hc : chkB xs = true) (hl : (k == 1 && (m : Int) == 0) = false) :
    Calls Tryd.prog 12 #[.slice A n c, .agg #[.int .i64 k, .int .i64 i, .int .i64 e, .int .i64 s, .int .i64 h, .slice B m d]] w fun r w' => r = .returned (.tuple #[.slice none 0 0, .int .i64 0, .int .i64 1]) ∧ Below w.heap.size w w' := by
  have he : chkE xs = 0 := by unfold chkE; rw [hc]; rfl
  have hb0 : Below w.heap.size w (w.alloc (.cells #[.int .i64 k, .int .i64 i, .int .i64 e, .int .i64 s, .int .i64 h, .slice B m d] 25)) := (Below.refl _ _).alloc (Nat.le_refl _) _
  have HU := hid hu; have H := hid (ht.ext hb0); have HL := hid hl; have HW := hid hw
  clear hu ht hc hl hw
  go_enter Tryd.func12, Tryd.ntmps12
  go_wp2_with (first
    | (go_at_call 21; refine (rchk_any _ n c xs _ H.out hnm HU.out HW.out).mono ?_; rintro e1 w1 ⟨rfl, hb1⟩; rw [he]; have k20 := new_cell hb1 0; have k21 := new_cell hb1 1; have k22 := new_cell hb1 2; have k23 := new_cell hb1 3; have k24 := new_cell hb1 4; have k25 := new_cell hb1 5; have HB := hid (below_new (Below.refl _ _) (Nat.le_refl _) hb1).1; clear hb1)
    | (go_at_call 41; refine (rleaf_any _ _ _ _ _ _ _ _ _).mono ?_; rintro e2 w2 ⟨rfl, hb2⟩; rw [HL.out]; have HB2 := hid (HB.out.trans (hb2.mono HB.out.size)); clear hb2))
  go_ret3
  exact ⟨rfl, HB2.out⟩

/-- Lists that rise. -/
def Asc (B : Nat) (xs : List TN) : Prop := ∀ (j : Nat) x, xs[j]? = some x → x.u.Pairwise (· < ·) ∧ x.u.length ≤ B
theorem chk_asc {xs : List TN} {B : Nat} (h : chkB xs = true) (hB : ∀ (j : Nat) x, xs[j]? = some x → x.u.length ≤ B) : Asc B xs := by
  intro j x hx
  refine ⟨?_, hB j x hx⟩
  by_cases hk : x.k = 2
  · exact (chk_par h hx hk).2.2.2.1
  · rw [chk_bare h j x hx hk]; exact List.Pairwise.nil
/-- A number is in no list, but at the places that were gone by. -/
def Freshed (i : Int) (path : List Int) (xs : List TN) : Prop := ∀ (j : Nat) x, xs[j]? = some x → ((j : Int) ∉ path) → i ∉ x.u
theorem chk_fresh {xs : List TN} {i : Int} (h : chkB xs = true) (hi : pres xs i = false) : Freshed i [] xs := by
  intro j x hx _ hm
  by_cases hk : x.k = 2
  · have := (chk_par h hx hk).2.2.2.2 i hm
    unfold oneB at this
    simp only [Bool.and_eq_true] at this
    rw [hi] at this
    exact absurd this.1.2 (by decide)
  · rw [chk_bare h j x hx hk] at hm; cases hm
theorem insL_strict {u : List Int} (h : u.Pairwise (· < ·)) {i : Int} (hi : i ∉ u) : (insL u (lessN u i) i).Pairwise (· < ·) := by
  obtain ⟨h1, h2⟩ := lessN_take (h.imp fun h => Int.le_of_lt h) i
  unfold insL
  have hp : (u.take (lessN u i) ++ u.drop (lessN u i)).Pairwise (· < ·) := by rw [List.take_append_drop]; exact h
  rw [List.pairwise_append] at hp ⊢
  refine ⟨hp.1, List.pairwise_cons.2 ⟨fun y hy => ?_, hp.2.1⟩, fun a ha b hb => ?_⟩
  · have := h2 y hy
    have hne : y ≠ i := fun e => hi (e ▸ List.mem_of_mem_drop hy)
    omega
  · rcases List.mem_cons.1 hb with rfl | hb
    · exact h1 a ha
    · exact hp.2.2 a ha b hb
theorem Asc.add {B : Nat} {xs : List TN} {i : Int} {j : Nat} {x : TN} (h : Asc B xs) (hx : xs[j]? = some x) (hi : i ∉ x.u) : Asc (B + 1) (xs.set j (addN i x)) := by
  intro k y hy
  rcases set_get hy with ⟨rfl, rfl⟩ | ⟨_, hy'⟩
  · obtain ⟨h1, h2⟩ := h k x hx
    unfold addN
    split
    · exact ⟨insL_strict h1 hi, by show (insL _ _ _).length ≤ _; rw [insL_len _ _ _ (lessN_le _ _)]; omega⟩
    · exact ⟨h1, by omega⟩
  · obtain ⟨h1, h2⟩ := h k y hy'
    exact ⟨h1, by omega⟩
theorem Freshed.add {i : Int} {path : List Int} {xs : List TN} {j : Nat} (h : Freshed i path xs) (y : TN) : Freshed i (path ++ [(j : Int)]) (xs.set j y) := by
  intro k x hx hk
  simp only [List.mem_append, List.mem_singleton, not_or] at hk
  rcases set_get hx with ⟨rfl, _⟩ | ⟨_, hx'⟩
  · exact absurd rfl hk.2
  · exact h k x hx' hk.1
theorem pathF_lvl {n : Int} (hf : fullN n = true) : ∀ (f : Nat) (x : Int), 0 ≤ x → x < 2 * n - 1 → (∀ y ∈ pathF f x n, lvl x < lvl y) ∧ (pathF f x n).Nodup
  | 0, _, _, _ => by simp [pathF]
  | f + 1, x, h0, h1 => by
    rw [pathF]
    split
    · simp
    · rename_i hne
      obtain ⟨a, b, c⟩ := up_in hf h0 h1 hne
      obtain ⟨i1, i2⟩ := pathF_lvl hf f (upV x) a b
      refine ⟨fun y hy => ?_, List.nodup_cons.2 ⟨fun hm => ?_, i2⟩⟩
      · rcases List.mem_cons.1 hy with rfl | hy
        · omega
        · have := i1 y hy; omega
      · have := i1 _ hm; omega
theorem path_nodup {x n : Int} (hf : fullN n = true) (h0 : 0 ≤ x) (h1 : x < 2 * n - 1) : (pathL x n).Nodup := (pathF_lvl hf 9 x h0 h1).2
theorem nodup_take {l : List Int} {k : Nat} {y : Int} (h : l.Nodup) (hk : l[k]? = some y) : y ∉ l.take k := by
  intro hm
  obtain ⟨hlt, e⟩ := List.getElem?_eq_some_iff.1 hk
  obtain ⟨i, hi, e2⟩ := List.mem_take_iff_getElem.1 hm
  have := List.pairwise_iff_getElem.1 h i k (by omega) hlt (by omega)
  exact this (e2.trans e.symm)
theorem grow_asc {xs : List TN} {B : Nat} (h : Asc B xs) (k : Nat) : Asc B (xs ++ List.replicate k zeroN) := by
  intro j x hx
  by_cases hj : j < xs.length
  · rw [List.getElem?_append_left hj] at hx; exact h j x hx
  · rw [List.getElem?_append_right (by omega), List.getElem?_replicate] at hx
    split at hx
    · injection hx with hx; subst hx; exact ⟨List.Pairwise.nil, by simp [zeroN]⟩
    · cases hx
theorem grow_fresh {xs : List TN} {i : Int} (h : Freshed i [] xs) (k : Nat) : Freshed i [] (xs ++ List.replicate k zeroN) := by
  intro j x hx hp
  by_cases hj : j < xs.length
  · rw [List.getElem?_append_left hj] at hx; exact h j x hx hp
  · rw [List.getElem?_append_right (by omega), List.getElem?_replicate] at hx
    split at hx
    · injection hx with hx; subst hx; simp [zeroN]
    · cases hx
theorem set_asc {xs : List TN} {B : Nat} (h : Asc B xs) (j : Nat) {y : TN} (hy : y.u = []) : Asc B (xs.set j y) := by
  intro k x hx
  rcases set_get hx with ⟨rfl, rfl⟩ | ⟨_, hx'⟩
  · rw [hy]; exact ⟨List.Pairwise.nil, by simp⟩
  · exact h k x hx'
theorem set_fresh {xs : List TN} {i : Int} (h : Freshed i [] xs) (j : Nat) {y : TN} (hy : y.u = []) : Freshed i [] (xs.set j y) := by
  intro k x hx hp
  rcases set_get hx with ⟨rfl, rfl⟩ | ⟨_, hx'⟩
  · rw [hy]; simp
  · exact h k x hx' hp
theorem step19 {w w1 w2 w3 : World} {base g cap : Nat} {xs : List TN} {qs : List Value} {j : Nat} {x : TN} {p q : Value} {u : List Int} (h : TrW w base g cap xs qs) (hbase : base ≤ w.heap.size) (hx : xs[j]? = some x) (hp : qs[j]? = some p) (hk : x.k = 2) (hb1 : Below w.heap.size w w1) (hg2 : w1.grownBy w2 p.ownBlock) (hb3 : Below w2.heap.size w2 w3)
    (hq : w3.ownsRow w2.heap.size 3 1 q u.length (u.map (.int .i64))) :
    TrW (w3.setCell ⟨g, j * 6 + 5, none⟩ q) base g cap (xs.set j { x with u := u }) (qs.set j q) ∧ Keeps w (w3.setCell ⟨g, j * 6 + 5, none⟩ q) g xs (xs.set j { x with u := u }) qs (qs.set j q) := by
  have H1 := h.ext hb1
  have z1 := hb1.size
  have z2 := hg2.size
  have z3 := hb3.size
  have hgl := h.lt
  have hpg := ((h.own j x p hx hp).1 hk).2
  have hqg : q.ownBlock ≠ some g := fun e => by have := (hq.lt g e).1; omega
  have g1 := grown_setCell (World.grownBy.refl w3 (some g)) (p := ⟨g, j * 6 + 5, none⟩) rfl q
  have r3 : w3.ownsRow base 25 6 (.slice (some ⟨g, 0, none⟩) xs.length cap) xs.length (ncs xs qs) := own_ext (H1.row.kept hg2 (.inr fun e => hpg e.symm)) hb3
  refine ⟨h.put' (fun i y r hij hy hr hk2 => ?_) (r3.stored (j * 6 + 5) q).1 (ncs_set1 (d := 5) h.ql hx hp (by omega) q rfl) ⟨fun _ => ⟨(own_mono hq (by omega)).kept g1 (.inr hqg), hqg⟩, fun hh => absurd hk hh⟩ (fun _ b hb i y r hy hr hij hk2 e => ?_), fun b hb => ⟨⟨?_, hb.ne, fun k y r hy hr hk2 => ?_⟩, ?_⟩⟩
  · obtain ⟨o1, o2⟩ := (H1.own i y r hy hr).1 hk2
    have hne : r.ownBlock = none ∨ r.ownBlock ≠ p.ownBlock := by
      rcases hb : r.ownBlock with _ | b
      · exact .inl rfl
      · exact .inr fun e => hij (h.apart i j y x r p b hy hx hr hp hk2 hk hb e.symm)
    exact (own_ext (o1.kept hg2 hne) hb3).kept g1 (.inr o2)
  · have h1 := (((h.own i y r hy hr).1 hk2).1.lt b e).2
    have h2 := (hq.lt b hb).1
    omega
  · have := hb.lt; simp; omega
  · rcases set_get hr with ⟨rfl, rfl⟩ | ⟨hne, hr'⟩
    · intro e
      have h2 := (hq.lt b e).1
      have := hb.lt
      omega
    · rcases set_get hy with ⟨hh, _⟩ | ⟨_, hy'⟩
      · exact absurd hh hne
      · exact hb.far k y r hy' hr' hk2
  · have hlt := hb.lt
    rw [Below.heap_setCell w3 ⟨g, j * 6 + 5, none⟩ q b hb.ne, hb3.block b (by omega), hg2.block b (by omega) (fun e => hb.far j x p hx hp hk e.symm), hb1.block b hlt]
theorem set_same {α : Type} {l : List α} {j : Nat} {x : α} (h : l[j]? = some x) : l.set j x = l := by
  obtain ⟨hj, e⟩ := List.getElem?_eq_some_iff.1 h
  exact List.ext_getElem? fun t => by
    by_cases ht : t = j
    · subst ht; rw [List.getElem?_set_self hj, h]
    · rw [List.getElem?_set_ne (by omega)]
theorem sla_snoc {w : World} {base : Nat} {e : TypeId} {A : Option Addr} {n c : Nat} {u : List Int} {x : Int} (h : w.ownsRow base e 1 (.slice A n c) n (u.map (Value.int .i64) ++ [Value.int .i64 x])) : SlA w 1 A n c ((u ++ [x]).map (.int .i64)) := by
  have := (SlA.of_own h).2
  rwa [List.map_append]
set_option maxHeartbeats 4000000 in
theorem radd_go (b0 o0 n c : Nat) (xs : List TN) (i e s h : Int) (B : Option Addr) (d : Nat) (w : World) (ht : Tr w (some ⟨b0, o0, none⟩) n c xs) (hnm : n ≤ 600) (hu : Shorts xs) (hw : WfT xs) (hba : Bare xs) (hasc : Asc 1000 xs) (hc : chkB xs = true) (hd : d ≤ maxLen) :
    Calls Tryd.prog 12 #[.slice (some ⟨b0, o0, none⟩) n c, .agg #[.int .i64 1, .int .i64 i, .int .i64 e, .int .i64 s, .int .i64 h, .slice B 0 d]] w (AddP w xs ⟨1, i, e, s, h, []⟩) := by
  have he : chkE xs = 0 := by unfold chkE; rw [hc]; rfl
  have hb0 : Below w.heap.size w (w.alloc (.cells #[.int .i64 1, .int .i64 i, .int .i64 e, .int .i64 s, .int .i64 h, .slice B 0 d] 25)) := (Below.refl _ _).alloc (Nat.le_refl _) _
  have HU := hid hu; have H := hid (ht.ext hb0); have HBA := hid hba; have HASC := hid hasc; have HW := hid hw
  have HF := hid (chk_full hc)
  have HCK := hid hc
  obtain rfl := ht.len
  have hN : lvN xs.length ≤ 301 := by unfold lvN; omega
  have hN1 := fullN_le HF.out.1
  have hn2a : xs.length + 1 ≤ 2 * lvN xs.length := by have := HF.out.2.1; omega
  have hn2b : 2 * lvN xs.length ≤ xs.length + 1 := by have := HF.out.2.1; omega
  have hN2 : lvN xs.length ≤ 256 := by omega
  have hN3 : 1 ≤ lvN xs.length := by omega
  have hxl0 : 0 < xs.length := by omega
  have HR := hid (show rlv xs.length = lvN xs.length by unfold rlv; rw [HF.out.1, HF.out.2.1]; simp)
  obtain ⟨i0, hi0, hy0, hy1, hy2⟩ := info_parts Tryd.infoInt
  obtain ⟨i1, hi1, hz0, hz1, hz2⟩ := info_parts Tryd.infoTN
  clear hu ht hc hba hb0 hasc hw hN1
  go_enter Tryd.func12, Tryd.ntmps12
  go_wp2_with (first
    | (go_at_call 21; refine (rchk_any _ _ c xs _ H.out hnm HU.out HW.out).mono ?_; rintro e1 w1 ⟨rfl, hb1⟩; rw [he]; have k20 := new_cell hb1 0; have k21 := new_cell hb1 1; have k22 := new_cell hb1 2; have k23 := new_cell hb1 3; have k24 := new_cell hb1 4; have k25 := new_cell hb1 5; have H1 := hid (H.out.ext hb1); have HX1 := hid ((hb1.block w.heap.size (by rw [World.size_alloc]; omega)).trans (heap_alloc_new w _)); have HB := hid (below_new (Below.refl _ _) (Nat.le_refl _) hb1); clear hb1)
    | (go_at_call 41; refine (rleaf_any _ _ _ _ _ _ _ _ _).mono ?_; rintro e2 w2 ⟨rfl, hb2⟩; have HX2 := hid ((hb2.block w.heap.size (by have := HB.out.2; omega)).trans HX1.out); have H2 := hid (H1.out.ext hb2); have HB2 := hid (HB.out.1.trans (hb2.mono HB.out.1.size)); have hzz2 := Nat.le_trans HB.out.2 hb2.size; clear hb2)
    | (go_at_call 42; refine (rleavesT_any _ _ c _ hnm).mono ?_; rintro e w' ⟨rfl, hw'⟩; subst w'; rw [HR.out])
    | (go_at_call 10; refine (copy_any _ _ c xs _ H2.out hnm HU.out).mono ?_; rintro e3 w3 ⟨v3, qs, rfl, hcp3, hb3⟩; have HX3 := hid ((hb3.block w.heap.size (by omega)).trans HX2.out); have HB3 := hid (HB2.out.trans (hb3.mono HB2.out.size)); have H3 := hid (H2.out.ext hb3); have hzz3 := hb3.size; obtain ⟨g, cap, rfl, htr3⟩ := hcp3.trw HBA.out hxl0; have HT3 := hid (htr3.mono (show w.heap.size ≤ _ by omega)); have hg3 := htr3.lt; clear hcp3 hb3 htr3))
  go_loop [9] (fun v => ∃ j : Nat, v = .int .i64 j ∧ j ≤ lvN xs.length ∧ Hid (∀ k, k < j → pres xs (k : Int) = true)) (fun v => lvN xs.length - (intOf v).toNat)
  case atStart => exact ⟨0, rfl, by omega, hid (fun k hk => by omega)⟩
  case round =>
    obtain ⟨j, hv, hj, HJ⟩ := hrel
    subst hv
    rcases hp : pres xs (j : Int) with _ | _
    · have HFR := hid (freeN_is HJ.out hp hj)
      have HFS := hid (chk_fresh HCK.out hp)
      obtain ⟨Y, hY⟩ : ∃ Y : Nat, Y = 2 * j := ⟨_, rfl⟩
      have hy : 2 * (j : Int) = (Y : Int) := by omega
      have HY := hid hY
      by_cases hjl : j = lvN xs.length
      · have hjl' : ((j : Int) == (lvN xs.length : Int)) = true := beq_iff_eq.2 (by omega)
        have hnlt : ¬ ((j : Int) < (lvN xs.length : Int)) := by omega
        have HJL := hid hjl
        have hja : j ≤ lvN xs.length := by omega
        have hjb : lvN xs.length ≤ j := by omega
        clear hjl
        by_cases h256 : j = 256
        · have h256' : ((lvN xs.length : Int) == 256) = true := beq_iff_eq.2 (by omega)
          have H256 := hid h256
          clear h256 hY
          go_wp2
          go_ret3
          exact .inl ⟨HFR.out.trans H256.out, HJL.out.symm.trans H256.out, rfl, HB3.out⟩
        · have h256' : ((lvN xs.length : Int) == 256) = false := beq_eq_false_iff_ne.2 (by omega)
          have hj128 : j ≤ 128 := by have h1 := of_decide_eq_true HF.out.1; have h2 := HJL.out; omega
          have HN256 := hid h256; clear h256
          have hYa : Y ≤ 2 * j := by omega
          have hYb : 2 * j ≤ Y := by omega
          have hy2m : (lvN xs.length : Int) * 2 = (Y : Int) := by omega
          have hy2n : 2 * (lvN xs.length : Int) = (Y : Int) := by omega
          clear hY
          obtain ⟨G, CAP, W, hrun, hown', hgr, hg'⟩ := run_append_zeros_own (P := Tryd.prog) w3 w.heap.size 22 3 22 25 i1 _ .i64 .i64 6 Tryd.underlying22 Tryd.underlying3 hi1 hz0 hz1 rfl (by decide) (by decide) g xs.length cap _ HT3.out.row Y (by omega) (by rw [hz2]; decide) (by omega) (by omega) HB3.out.size
          rw [zeros_nodes] at hown'
          have HRUN := hid hrun
          have HTW := hid (HT3.out.more hgr hg' hown')
          have HBW := hid (HB3.out.grown hgr HB3.out.size (fun k hk => by injection hk with hk; rw [← hk]; exact HT3.out.lt.1))
          have HXW := hid ((hgr.block w.heap.size (by omega) (fun e => by injection e with e; omega)).trans HX3.out)
          clear hrun hown' hgr hg'
          have HYL := hid (show (xs ++ List.replicate Y zeroN).length = xs.length + Y by simp)
          have HLV := hid (show lvN (xs.length + Y) = Y by unfold lvN; omega)
          have h2j : Y < (xs ++ List.replicate Y zeroN).length := by rw [HYL.out]; omega
          have hYn : Y < 2 * Y - 1 := by omega
          have HFY := hid (show fullN (Y : Int) = true by have := fullN_dbl (j := j) (by rw [HJL.out]; exact HF.out.1) HN256.out; rwa [show 2 * j = Y by omega] at this)
          have HASY := hid (grow_asc HASC.out Y)
          have HFSY := hid (grow_fresh HFS.out Y)
          have hyn : (xs ++ List.replicate Y zeroN).length ≤ 600 := by rw [HYL.out]; omega
          have hYN : 2 * Y ≤ (xs ++ List.replicate Y zeroN).length + 1 := by rw [HYL.out]; omega
          have HAL := hid (show addL xs ⟨1, i, e, s, h, []⟩ = updAll (addN (j : Int)) ((xs ++ List.replicate Y zeroN).set Y ⟨1, i, e, s, h, []⟩) (pathL (Y : Int) (Y : Int)) by unfold addL growL; rw [HFR.out, if_pos HJL.out, show 2 * j = Y by omega, HYL.out, HLV.out, hy])
          obtain ⟨x6, q6, hx6, hq6, c0, c1, c2, c3, c4, c5, f0, f1, f2, f3, f4, f5⟩ := HTW.out.six h2j
          have HND := hid (HTW.out.node h2j ⟨1, i, e, s, h, []⟩ B d (show (1 : Int) ≠ 2 by decide) rfl hd)
          have hgb := HTW.out.lt.1
          have HBN := hid ((((((HBW.out.setCell (p := ⟨G, Y * 6, none⟩) hgb (.int .i64 1)).setCell (p := ⟨G, Y * 6 + 1, none⟩) hgb (.int .i64 i)).setCell (p := ⟨G, Y * 6 + 2, none⟩) hgb (.int .i64 e)).setCell (p := ⟨G, Y * 6 + 3, none⟩) hgb (.int .i64 s)).setCell (p := ⟨G, Y * 6 + 4, none⟩) hgb (.int .i64 h)).setCell (p := ⟨G, Y * 6 + 5, none⟩) hgb (.slice B 0 d))
          have hbx0 := cell_of_row W w.heap.size 0 _ 25 (0, 0) HXW.out
          have hbx1 := cell_of_row W w.heap.size 1 _ 25 (0, 0) HXW.out
          have hbx2 := cell_of_row W w.heap.size 2 _ 25 (0, 0) HXW.out
          have hbx3 := cell_of_row W w.heap.size 3 _ 25 (0, 0) HXW.out
          have hbx4 := cell_of_row W w.heap.size 4 _ 25 (0, 0) HXW.out
          have hbx5 := cell_of_row W w.heap.size 5 _ 25 (0, 0) HXW.out
          have HA1 := hid (set_asc HASY.out Y (y := ⟨1, i, e, s, h, []⟩) rfl)
          have HF1 := hid (set_fresh HFSY.out Y (y := ⟨1, i, e, s, h, []⟩) rfl)
          have HSL := hid (show ((xs ++ List.replicate Y zeroN).set Y ⟨1, i, e, s, h, []⟩).length = (xs ++ List.replicate Y zeroN).length by rw [List.length_set])
          clear hx6 hq6
          go_wp2_with (first
            | (at_builtin; refine Lib.wpList_append_run _ rfl _ _ 22 3 rfl _ _ rfl rfl _ _ HRUN.out ?_)
            | (go_at_call 43; refine (rpath_any Y Y _ HFY.out hYn).mono ?_; rintro e5 w5 ⟨v5, rfl, hown5, hb5⟩; have HP5 := hid hown5; have HT5 := hid (HND.out.ext hb5); have HB5 := hid (HBN.out.trans (hb5.mono HBN.out.size)); obtain ⟨A5, c5', rfl, hs5⟩ := SlA.owned hown5; have HS5 := hid hs5; have HPB := hid hb5; clear hown5 hb5 hs5))
          have HI := hid (@path_in (Y : Int) (Y : Nat) HFY.out (by omega) (by omega))
          have HND2 := hid (@path_nodup (Y : Int) (Y : Nat) HFY.out (by omega) (by omega))
          have hpl := pathL_le (Y : Int) (Y : Nat)
          have HFAR := hid (show ∀ b o, A5 = some ⟨b, o, none⟩ → Far w5 G ((xs ++ List.replicate Y zeroN).set Y ⟨1, i, e, s, h, []⟩) _ b from fun b o e => by
            subst e
            have hh := HP5.out.lt b rfl
            exact Far.new HND.out hh.1 hh.2)
          generalize hPL : pathL (Y : Int) (Y : Nat) = PL at *
          have HPL := hid hPL; clear hPL
          generalize hYS : (xs ++ List.replicate Y zeroN).set Y ⟨1, i, e, s, h, []⟩ = YS at *
          have HYS := hid hYS; clear hYS
          generalize hQS : qs ++ List.replicate Y (Value.slice none 0 0) = QS0 at *
          clear hQS
          generalize QS0.set Y (Value.slice B 0 d) = QS at *
          have hYSl : YS.length = (xs ++ List.replicate Y zeroN).length := HSL.out
          have HYSL := hid hYSl
          have hYSn : YS.length ≤ 600 := by omega
          have hYSk : 2 * (Y : Int) - 1 ≤ (YS.length : Int) := by omega
          clear hYSl
          go_loopw [65] (fun i' wr => ∃ (k : Nat) (rs : List Value), i' = .int .i64 k ∧ k ≤ PL.length ∧ TrW wr w.heap.size G CAP (updAll (addN (j : Int)) YS (PL.take k)) rs ∧ Keeps w5 wr G YS (updAll (addN (j : Int)) YS (PL.take k)) QS rs ∧ Asc (1000 + k) (updAll (addN (j : Int)) YS (PL.take k)) ∧ Freshed (j : Int) (PL.take k) (updAll (addN (j : Int)) YS (PL.take k)) ∧ Below w.heap.size w wr) (fun i' _ => PL.length - (intOf i').toNat)
          case atStart => exact ⟨0, QS, rfl, by omega, HT5.out, Keeps.refl _ _ _ _, HA1.out, HF1.out, HB5.out⟩
          case round =>
            obtain ⟨k, rs, hi', hk, htr, hkp, has, hfs, hbr⟩ := hrel
            subst hi'
            have HTR := hid htr; have HKP := hid hkp; have HAS := hid has; have HFS2 := hid hfs; have HBR := hid hbr
            have hbrz := hbr.size
            clear htr hkp has hfs hbr
            by_cases hlk : k < PL.length
            · obtain ⟨b5, o5, y, rfl, hy5, hcy⟩ := HS5.out.elemI hlk
              have hcy2 := (World.cell?_of_block (a := ⟨b5, o5 + k, none⟩) (HKP.out b5 (HFAR.out b5 o5 rfl)).2).trans hcy
              obtain ⟨y0, y1⟩ := HI.out y (List.mem_of_getElem? hy5)
              obtain ⟨yn, rfl⟩ := Int.eq_ofNat_of_zero_le y0
              have hyn2 : yn < YS.length := by omega
              have hyn3 : yn < xs.length + Y := by have := HYSL.out; have := HYL.out; omega
              have HTK := hid (take_get hy5)
              have HNI := hid (nodup_take HND2.out hy5)
              clear hy5 hcy y0 y1
              have hlen := updAll_len (addN (j : Int)) (PL.take k) YS
              have hyl : yn < (updAll (addN (j : Int)) YS (PL.take k)).length := by rw [hlen]; exact hyn2
              have HUL := hid hlen
              obtain ⟨x, p, hx, hp5, e0, e1', e2', e3', e4', e5', g0, g1', g2', g3', g4', g5'⟩ := HTR.out.six hyl
              have HX := hid hx; have HP6 := hid hp5
              obtain ⟨has1, has2⟩ := HAS.out yn x hx
              have HS1 := hid has1
              have HNU := hid (HFS2.out yn x hx HNI.out)
              have HN := hid (show updAll (addN (j : Int)) YS (PL.take (k + 1)) = (updAll (addN (j : Int)) YS (PL.take k)).set yn (addN (j : Int) x) by rw [HTK.out, updAll_snoc, Int.toNat_natCast, upd_at hx])
              have HA2 := hid (HAS.out.add hx HNU.out)
              have HF2 := hid (show Freshed (j : Int) (PL.take (k + 1)) ((updAll (addN (j : Int)) YS (PL.take k)).set yn (addN (j : Int) x)) by rw [HTK.out]; exact HFS2.out.add _)
              clear has1 hlen hyl
              by_cases hk2 : x.k = 2
              · have hk2' : (x.k == 2) = true := beq_iff_eq.2 hk2
                obtain ⟨o1, o2⟩ := (HTR.out.own yn x p hx hp5).1 hk2
                have hpne := o2
                obtain ⟨Ap, cp, rfl⟩ := own_shape o1
                have HOW := hid (o1.alloc (.cells #[.int .i64 j] 3))
                have hlit := SlA.lit1 (w := wr) (T := 3) (.int .i64 (j : Int))
                have HAD := hid (show addN (j : Int) x = { x with u := insL x.u (lessN x.u j) j } by unfold addN; rw [if_pos hk2])
                have HRI := hid (risL_add HS1.out HNU.out)
                have HK2 := hid hk2; have HPN := hid hpne
                have hglt := HTR.out.lt.2
                have HAL1 := hid (show Below wr.heap.size wr (wr.alloc (.cells #[.int .i64 j] 3)) from (Below.refl _ _).alloc (Nat.le_refl _) _)
                have hk1 : (wr.alloc (.cells #[.int .i64 j] 3)).cell? ⟨G, yn * 6 + 5, none⟩ = some (.slice Ap x.u.length cp) := (HAL1.out.cell (p := ⟨G, yn * 6 + 5, none⟩) hglt).trans e5'
                have hf1 : (wr.alloc (.cells #[.int .i64 j] 3)).frozen? ⟨G, yn * 6 + 5, none⟩ = false := (HAL1.out.frozen (p := ⟨G, yn * 6 + 5, none⟩) hglt).trans g5'
                have HKC := hid hk1; have HFC := hid hf1
                have HZ1 := hid (show w.heap.size ≤ (wr.alloc (.cells #[.int .i64 j] 3)).heap.size by rw [World.size_alloc]; omega)
                have HGZ := hid (show G < (wr.alloc (.cells #[.int .i64 j] 3)).heap.size by rw [World.size_alloc]; omega)
                have hm63 : x.u.length + 1 ≤ maxLen := by unfold maxLen; omega
                have hmb : (x.u.length + 1) * 8 ≤ 140737488355328 := by omega
                have hlu : (x.u ++ [(j : Int)]).length ≤ 100000 := by simp; omega
                clear hx hp5 hk2 o1 o2 hpne hk1 hf1
                go_wp2_with (first
                  | (at_builtin; refine wpList_append_sl _ rfl _ _ 23 rfl w.heap.size 3 i0 (.int .i64 0) 1 8 Tryd.underlying23 hi0 hy0 hy1 hy2 rfl (by decide) _ x.u.length _ rfl HOW.out _ 1 1 _ rfl hlit (one_int _ _) hm63 hmb HZ1.out ?_; intro v7 w7 own7 gr7 _; have HG7 := hid gr7; have hk7 : w7.cell? ⟨G, yn * 6 + 5, none⟩ = some (.slice Ap x.u.length cp) := gr7.cell HKC.out (fun e => HPN.out e.symm); have hf7 : w7.frozen? ⟨G, yn * 6 + 5, none⟩ = false := (gr7.frozen_far ⟨G, yn * 6 + 5, none⟩ HGZ.out (fun e => HPN.out e.symm)).trans HFC.out; obtain ⟨A7, c7, rfl⟩ := own_shape own7; have HS7 := hid (sla_snoc own7); have hz7 := hid (Nat.lt_of_lt_of_le HGZ.out gr7.size); have HO7 := hid (below_append (HBR.out.alloc hbrz _) gr7 HOW.out (Nat.le_refl _) HZ1.out); clear own7 gr7)
                  | (go_at_call 44; refine (rising_any A7 _ c7 (x.u ++ [(j : Int)]) _ HS7.out (by simp; omega)).mono ?_; rintro e8 w8 ⟨v8, rfl, own8, hb8⟩; have hk8 : w8.cell? ⟨G, yn * 6 + 5, none⟩ = some (.slice Ap x.u.length cp) := (hb8.cell (p := ⟨G, yn * 6 + 5, none⟩) hz7.out).trans hk7; have hf8 : w8.frozen? ⟨G, yn * 6 + 5, none⟩ = false := (hb8.frozen (p := ⟨G, yn * 6 + 5, none⟩) hz7.out).trans hf7; have HO8 := hid own8; have HB8 := hid hb8; obtain ⟨A8, c8, rfl⟩ := own_shape own8; clear own8 hb8))
                go_roundw
                case rel =>
                  have ho := HO8.out
                  rw [HRI.out] at ho
                  obtain ⟨s1, s2⟩ := step19 HTR.out hbrz HX.out HP6.out HK2.out HAL1.out HG7.out HB8.out ho
                  rw [← HAD.out] at s1 s2
                  refine ⟨k + 1, _, by go_num, by omega, by rw [HN.out]; rw [← HRI.out] at s1; exact s1, by rw [HN.out]; rw [← HRI.out] at s2; exact HKP.out.trans s2, by rw [HN.out]; exact HA2.out, by rw [HN.out]; exact HF2.out, (HO7.out.trans (HB8.out.mono HO7.out.size)).setCell HTR.out.lt.1 _⟩
                case measure => simp [intOf]; omega
              · have hk2' : (x.k == 2) = false := beq_eq_false_iff_ne.2 hk2
                have HAD := hid (show addN (j : Int) x = x by unfold addN; rw [if_neg hk2])
                have HSS := hid (set_same hx)
                clear hx hp5 hk2
                go_wp2
                go_roundw
                case rel => exact ⟨k + 1, rs, by go_num, by omega, by rw [HN.out, HAD.out, HSS.out]; exact HTR.out, by rw [HN.out, HAD.out, HSS.out]; exact HKP.out, by rw [HN.out]; exact HA2.out, by rw [HN.out]; exact HF2.out, HBR.out⟩
                case measure => simp [intOf]; omega
            · have HJ2 := hid (show PL.take k = PL from List.take_of_length_le (by omega))
              go_wp2
              go_ret3
              refine .inr ⟨fun hh => absurd hh.1 (by rw [HFR.out]; omega), G, CAP, rs, ?_, ?_, HBR.out⟩
              · rw [HFR.out, HAL.out, updAll_len, HYSL.out, HYL.out]; rfl
              · rw [HAL.out]
                have := HTR.out
                rw [HJ2.out] at this
                exact this
      · have hjl' : ((j : Int) == (lvN xs.length : Int)) = false := beq_eq_false_iff_ne.2 (by omega)
        have hlt : j < lvN xs.length := by omega
        have hlt' : (j : Int) < (lvN xs.length : Int) := by omega
        have HNE := hid hjl
        have hYa : Y ≤ 2 * j := by omega
        have hYb : 2 * j ≤ Y := by omega
        clear hjl hY
        obtain ⟨bb, oo, q0, A', c', eA, hq0, d0, -, -, -, -, -, -⟩ := H3.out.at (show Y < xs.length by omega)
        injection eA with eA; injection eA with eA eB; subst eA; subst eB
        have hk0 : (q0.k == 1) = false := by
          have := pres_nat hlt
          rw [hp, ← HY.out] at this
          unfold kd at this
          rw [hq0] at this
          exact this.symm
        clear hq0
        have HTW := HT3; have HBW := HB3; have HXW := HX3
        obtain ⟨W, rfl⟩ : ∃ W : World, W = w3 := ⟨_, rfl⟩
        have h2j : Y < xs.length := by omega
        have hYn : Y < 2 * lvN xs.length - 1 := by omega
        have HFY := hid HF.out.1
        have HASY := HASC
        have HFSY := HFS
        have hyn := hnm
        have hYN : 2 * lvN xs.length ≤ xs.length + 1 := by omega
        have HAL := hid (show addL xs ⟨1, i, e, s, h, []⟩ = updAll (addN (j : Int)) (xs.set Y ⟨1, i, e, s, h, []⟩) (pathL (Y : Int) (lvN xs.length)) by unfold addL growL; rw [HFR.out, if_neg HNE.out, show 2 * j = Y by omega, hy])
        obtain ⟨x6, q6, hx6, hq6, c0, c1, c2, c3, c4, c5, f0, f1, f2, f3, f4, f5⟩ := HTW.out.six h2j
        have HND := hid (HTW.out.node h2j ⟨1, i, e, s, h, []⟩ B d (show (1 : Int) ≠ 2 by decide) rfl hd)
        have hgb := HTW.out.lt.1
        have HBN := hid ((((((HBW.out.setCell (p := ⟨g, Y * 6, none⟩) hgb (.int .i64 1)).setCell (p := ⟨g, Y * 6 + 1, none⟩) hgb (.int .i64 i)).setCell (p := ⟨g, Y * 6 + 2, none⟩) hgb (.int .i64 e)).setCell (p := ⟨g, Y * 6 + 3, none⟩) hgb (.int .i64 s)).setCell (p := ⟨g, Y * 6 + 4, none⟩) hgb (.int .i64 h)).setCell (p := ⟨g, Y * 6 + 5, none⟩) hgb (.slice B 0 d))
        have hbx0 := cell_of_row W w.heap.size 0 _ 25 (0, 0) HXW.out
        have hbx1 := cell_of_row W w.heap.size 1 _ 25 (0, 0) HXW.out
        have hbx2 := cell_of_row W w.heap.size 2 _ 25 (0, 0) HXW.out
        have hbx3 := cell_of_row W w.heap.size 3 _ 25 (0, 0) HXW.out
        have hbx4 := cell_of_row W w.heap.size 4 _ 25 (0, 0) HXW.out
        have hbx5 := cell_of_row W w.heap.size 5 _ 25 (0, 0) HXW.out
        have HA1 := hid (set_asc HASY.out Y (y := ⟨1, i, e, s, h, []⟩) rfl)
        have HF1 := hid (set_fresh HFSY.out Y (y := ⟨1, i, e, s, h, []⟩) rfl)
        have HSL := hid (show ((xs).set Y ⟨1, i, e, s, h, []⟩).length = (xs).length by rw [List.length_set])
        clear hx6 hq6
        go_wp2_with (first
          | (go_at_call 43; refine (rpath_any Y (lvN xs.length) _ HFY.out hYn).mono ?_; rintro e5 w5 ⟨v5, rfl, hown5, hb5⟩; have HP5 := hid hown5; have HT5 := hid (HND.out.ext hb5); have HB5 := hid (HBN.out.trans (hb5.mono HBN.out.size)); obtain ⟨A5, c5', rfl, hs5⟩ := SlA.owned hown5; have HS5 := hid hs5; have HPB := hid hb5; clear hown5 hb5 hs5))
        have HI := hid (@path_in (Y : Int) ((lvN xs.length) : Nat) HFY.out (by omega) (by omega))
        have HND2 := hid (@path_nodup (Y : Int) ((lvN xs.length) : Nat) HFY.out (by omega) (by omega))
        have hpl := pathL_le (Y : Int) ((lvN xs.length) : Nat)
        have HFAR := hid (show ∀ b o, A5 = some ⟨b, o, none⟩ → Far w5 g ((xs).set Y ⟨1, i, e, s, h, []⟩) _ b from fun b o e => by
          subst e
          have hh := HP5.out.lt b rfl
          exact Far.new HND.out hh.1 hh.2)
        generalize hPL : pathL (Y : Int) ((lvN xs.length) : Nat) = PL at *
        have HPL := hid hPL; clear hPL
        generalize hYS : (xs).set Y ⟨1, i, e, s, h, []⟩ = YS at *
        have HYS := hid hYS; clear hYS
        generalize hQS : qs = QS0 at *
        clear hQS
        generalize QS0.set Y (Value.slice B 0 d) = QS at *
        have hYSl : YS.length = (xs).length := HSL.out
        have HYSL := hid hYSl
        have hYSn : YS.length ≤ 600 := by omega
        have hYSk : 2 * ((lvN xs.length) : Int) - 1 ≤ (YS.length : Int) := by omega
        clear hYSl
        go_loopw [65] (fun i' wr => ∃ (k : Nat) (rs : List Value), i' = .int .i64 k ∧ k ≤ PL.length ∧ TrW wr w.heap.size g cap (updAll (addN (j : Int)) YS (PL.take k)) rs ∧ Keeps w5 wr g YS (updAll (addN (j : Int)) YS (PL.take k)) QS rs ∧ Asc (1000 + k) (updAll (addN (j : Int)) YS (PL.take k)) ∧ Freshed (j : Int) (PL.take k) (updAll (addN (j : Int)) YS (PL.take k)) ∧ Below w.heap.size w wr) (fun i' _ => PL.length - (intOf i').toNat)
        case atStart => exact ⟨0, QS, rfl, by omega, HT5.out, Keeps.refl _ _ _ _, HA1.out, HF1.out, HB5.out⟩
        case round =>
          obtain ⟨k, rs, hi', hk, htr, hkp, has, hfs, hbr⟩ := hrel
          subst hi'
          have HTR := hid htr; have HKP := hid hkp; have HAS := hid has; have HFS2 := hid hfs; have HBR := hid hbr
          have hbrz := hbr.size
          clear htr hkp has hfs hbr
          by_cases hlk : k < PL.length
          · obtain ⟨b5, o5, y, rfl, hy5, hcy⟩ := HS5.out.elemI hlk
            have hcy2 := (World.cell?_of_block (a := ⟨b5, o5 + k, none⟩) (HKP.out b5 (HFAR.out b5 o5 rfl)).2).trans hcy
            obtain ⟨y0, y1⟩ := HI.out y (List.mem_of_getElem? hy5)
            obtain ⟨yn, rfl⟩ := Int.eq_ofNat_of_zero_le y0
            have hyn2 : yn < YS.length := by omega
            have hyn3 : yn < xs.length := by have := HYSL.out; omega
            have HTK := hid (take_get hy5)
            have HNI := hid (nodup_take HND2.out hy5)
            clear hy5 hcy y0 y1
            have hlen := updAll_len (addN (j : Int)) (PL.take k) YS
            have hyl : yn < (updAll (addN (j : Int)) YS (PL.take k)).length := by rw [hlen]; exact hyn2
            have HUL := hid hlen
            obtain ⟨x, p, hx, hp5, e0, e1', e2', e3', e4', e5', g0, g1', g2', g3', g4', g5'⟩ := HTR.out.six hyl
            have HX := hid hx; have HP6 := hid hp5
            obtain ⟨has1, has2⟩ := HAS.out yn x hx
            have HS1 := hid has1
            have HNU := hid (HFS2.out yn x hx HNI.out)
            have HN := hid (show updAll (addN (j : Int)) YS (PL.take (k + 1)) = (updAll (addN (j : Int)) YS (PL.take k)).set yn (addN (j : Int) x) by rw [HTK.out, updAll_snoc, Int.toNat_natCast, upd_at hx])
            have HA2 := hid (HAS.out.add hx HNU.out)
            have HF2 := hid (show Freshed (j : Int) (PL.take (k + 1)) ((updAll (addN (j : Int)) YS (PL.take k)).set yn (addN (j : Int) x)) by rw [HTK.out]; exact HFS2.out.add _)
            clear has1 hlen hyl
            by_cases hk2 : x.k = 2
            · have hk2' : (x.k == 2) = true := beq_iff_eq.2 hk2
              obtain ⟨o1, o2⟩ := (HTR.out.own yn x p hx hp5).1 hk2
              have hpne := o2
              obtain ⟨Ap, cp, rfl⟩ := own_shape o1
              have HOW := hid (o1.alloc (.cells #[.int .i64 j] 3))
              have hlit := SlA.lit1 (w := wr) (T := 3) (.int .i64 (j : Int))
              have HAD := hid (show addN (j : Int) x = { x with u := insL x.u (lessN x.u j) j } by unfold addN; rw [if_pos hk2])
              have HRI := hid (risL_add HS1.out HNU.out)
              have HK2 := hid hk2; have HPN := hid hpne
              have hglt := HTR.out.lt.2
              have HAL1 := hid (show Below wr.heap.size wr (wr.alloc (.cells #[.int .i64 j] 3)) from (Below.refl _ _).alloc (Nat.le_refl _) _)
              have hk1 : (wr.alloc (.cells #[.int .i64 j] 3)).cell? ⟨g, yn * 6 + 5, none⟩ = some (.slice Ap x.u.length cp) := (HAL1.out.cell (p := ⟨g, yn * 6 + 5, none⟩) hglt).trans e5'
              have hf1 : (wr.alloc (.cells #[.int .i64 j] 3)).frozen? ⟨g, yn * 6 + 5, none⟩ = false := (HAL1.out.frozen (p := ⟨g, yn * 6 + 5, none⟩) hglt).trans g5'
              have HKC := hid hk1; have HFC := hid hf1
              have HZ1 := hid (show w.heap.size ≤ (wr.alloc (.cells #[.int .i64 j] 3)).heap.size by rw [World.size_alloc]; omega)
              have HGZ := hid (show g < (wr.alloc (.cells #[.int .i64 j] 3)).heap.size by rw [World.size_alloc]; omega)
              have hm63 : x.u.length + 1 ≤ maxLen := by unfold maxLen; omega
              have hmb : (x.u.length + 1) * 8 ≤ 140737488355328 := by omega
              have hlu : (x.u ++ [(j : Int)]).length ≤ 100000 := by simp; omega
              clear hx hp5 hk2 o1 o2 hpne hk1 hf1
              go_wp2_with (first
                | (at_builtin; refine wpList_append_sl _ rfl _ _ 23 rfl w.heap.size 3 i0 (.int .i64 0) 1 8 Tryd.underlying23 hi0 hy0 hy1 hy2 rfl (by decide) _ x.u.length _ rfl HOW.out _ 1 1 _ rfl hlit (one_int _ _) hm63 hmb HZ1.out ?_; intro v7 w7 own7 gr7 _; have HG7 := hid gr7; have hk7 : w7.cell? ⟨g, yn * 6 + 5, none⟩ = some (.slice Ap x.u.length cp) := gr7.cell HKC.out (fun e => HPN.out e.symm); have hf7 : w7.frozen? ⟨g, yn * 6 + 5, none⟩ = false := (gr7.frozen_far ⟨g, yn * 6 + 5, none⟩ HGZ.out (fun e => HPN.out e.symm)).trans HFC.out; obtain ⟨A7, c7, rfl⟩ := own_shape own7; have HS7 := hid (sla_snoc own7); have hz7 := hid (Nat.lt_of_lt_of_le HGZ.out gr7.size); have HO7 := hid (below_append (HBR.out.alloc hbrz _) gr7 HOW.out (Nat.le_refl _) HZ1.out); clear own7 gr7)
                | (go_at_call 44; refine (rising_any A7 _ c7 (x.u ++ [(j : Int)]) _ HS7.out (by simp; omega)).mono ?_; rintro e8 w8 ⟨v8, rfl, own8, hb8⟩; have hk8 : w8.cell? ⟨g, yn * 6 + 5, none⟩ = some (.slice Ap x.u.length cp) := (hb8.cell (p := ⟨g, yn * 6 + 5, none⟩) hz7.out).trans hk7; have hf8 : w8.frozen? ⟨g, yn * 6 + 5, none⟩ = false := (hb8.frozen (p := ⟨g, yn * 6 + 5, none⟩) hz7.out).trans hf7; have HO8 := hid own8; have HB8 := hid hb8; obtain ⟨A8, c8, rfl⟩ := own_shape own8; clear own8 hb8))
              go_roundw
              case rel =>
                have ho := HO8.out
                rw [HRI.out] at ho
                obtain ⟨s1, s2⟩ := step19 HTR.out hbrz HX.out HP6.out HK2.out HAL1.out HG7.out HB8.out ho
                rw [← HAD.out] at s1 s2
                refine ⟨k + 1, _, by go_num, by omega, by rw [HN.out]; rw [← HRI.out] at s1; exact s1, by rw [HN.out]; rw [← HRI.out] at s2; exact HKP.out.trans s2, by rw [HN.out]; exact HA2.out, by rw [HN.out]; exact HF2.out, (HO7.out.trans (HB8.out.mono HO7.out.size)).setCell HTR.out.lt.1 _⟩
              case measure => simp [intOf]; omega
            · have hk2' : (x.k == 2) = false := beq_eq_false_iff_ne.2 hk2
              have HAD := hid (show addN (j : Int) x = x by unfold addN; rw [if_neg hk2])
              have HSS := hid (set_same hx)
              clear hx hp5 hk2
              go_wp2
              go_roundw
              case rel => exact ⟨k + 1, rs, by go_num, by omega, by rw [HN.out, HAD.out, HSS.out]; exact HTR.out, by rw [HN.out, HAD.out, HSS.out]; exact HKP.out, by rw [HN.out]; exact HA2.out, by rw [HN.out]; exact HF2.out, HBR.out⟩
              case measure => simp [intOf]; omega
          · have HJ2 := hid (show PL.take k = PL from List.take_of_length_le (by omega))
            go_wp2
            go_ret3
            refine .inr ⟨fun hh => absurd hh.1 (by rw [HFR.out]; omega), g, cap, rs, ?_, ?_, HBR.out⟩
            · rw [HFR.out, HAL.out, updAll_len, HYSL.out]; rfl
            · rw [HAL.out]
              have := HTR.out
              rw [HJ2.out] at this
              exact this
    · have hjl : j < lvN xs.length := by have := (pres_in hp).2; omega
      obtain ⟨Y, hY⟩ : ∃ Y : Nat, Y = 2 * j := ⟨_, rfl⟩
      have hy : 2 * (j : Int) = (Y : Int) := by omega
      obtain ⟨bb, oo, q0, A', c', eA, hq0, d0, -, -, -, -, -, -⟩ := H3.out.at (show Y < xs.length by omega)
      injection eA with eA; injection eA with eA eB; subst eA; subst eB
      have hk0 : (q0.k == 1) = true := by
        have := pres_nat hjl
        rw [hp, ← hY] at this
        unfold kd at this
        rw [hq0] at this
        exact this.symm
      have HP := hid hp
      clear hq0 hY
      go_wp2
      go_round
      case rel => exact ⟨j + 1, by go_num, by omega, hid (fun k hk => by
        by_cases hkj : k < j
        · exact HJ.out k hkj
        · rw [show k = j by omega]; exact HP.out)⟩
      case measure => simp [intOf]; omega
end Go.Proofs.YtimdohjlhbpmhaaDoor
