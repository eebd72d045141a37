/- slices.Insert of one number into a row of the call's own. -/
import Derived.Test.YtanakgbhmmemoaaDoorS1
import Derived.Test.YtanakgbhmmemoaaDoorK1
import Derived.Maps.Range
namespace Go.KK
open Go.RowKit
set_option linter.unusedVariables false
set_option linter.unusedSimpArgs false

/-- A list with another one stored over it. -/
def setL (L : List Value) : Nat → List Value → List Value
  | _, [] => L
  | o, v :: r => setL (L.set o v) (o + 1) r
theorem setL_len : ∀ (vs : List Value) (o : Nat) (L : List Value), (setL L o vs).length = L.length
  | [], _, _ => rfl
  | v :: r, o, L => by rw [setL, setL_len r]; simp
theorem setL_get : ∀ (vs : List Value) (o : Nat) (L : List Value) (j : Nat), o + vs.length ≤ L.length → (setL L o vs)[j]? = if o ≤ j ∧ j < o + vs.length then vs[j - o]? else L[j]?
  | [], o, L, j, h => by
    rw [setL, if_neg (show ¬ (o ≤ j ∧ j < o + ([] : List Value).length) by rw [List.length_nil]; omega)]
  | v :: r, o, L, j, h => by
    have h' : o + (r.length + 1) ≤ L.length := by simpa using h
    rw [setL, setL_get r (o + 1) (L.set o v) j (by simp; omega), List.length_cons]
    by_cases h1 : j = o
    · subst h1
      rw [if_neg (by omega), if_pos (by omega), List.getElem?_set_self (by omega), Nat.sub_self]; rfl
    · by_cases h2 : o ≤ j ∧ j < o + (r.length + 1)
      · rw [if_pos (by omega), if_pos h2, show j - o = (j - (o + 1)) + 1 by omega, List.getElem?_cons_succ]
      · rw [if_neg (by omega), if_neg h2, List.getElem?_set_ne (by omega)]

section
variable {w : World} {base : Nat} {e : TypeId} {g n cap : Nat} {xs : List Value}
theorem own_full (h : w.ownsRow base e 1 (.slice (some ⟨g, 0, none⟩) n cap) n xs) : ∃ L : List Value, w.ownsRow base e 1 (.slice (some ⟨g, 0, none⟩) cap cap) cap L ∧ L.length = cap ∧ L.take n = xs ∧ n ≤ cap ∧ cap ≤ maxLen := by
  rcases h.2 with ⟨h', _⟩ | ⟨g', cap', cur, h', hb, hg, hnc, hcm, hcs, htake⟩
  · simp at h'
  · simp only [Value.slice.injEq, Option.some.injEq, Addr.mk.injEq, and_true, true_and] at h'
    obtain ⟨rfl, rfl⟩ := h'
    have hl : cur.toList.length = cap := by simpa using hcs
    exact ⟨cur.toList, ⟨by rw [hl]; omega, .inr ⟨g, cap, cur, rfl, hb, hg, Nat.le_refl _, hcm, hcs, List.take_of_length_le (by omega)⟩⟩, hl, by rw [← htake]; simp, hnc, hcm⟩
theorem own_part {L : List Value} (h : w.ownsRow base e 1 (.slice (some ⟨g, 0, none⟩) cap cap) cap L) (hn : n ≤ cap) : w.ownsRow base e 1 (.slice (some ⟨g, 0, none⟩) n cap) n (L.take n) := by
  rcases h.2 with ⟨h', _⟩ | ⟨g', cap', cur, h', hb, hg, hnc, hcm, hcs, htake⟩
  · simp at h'
  · simp only [Value.slice.injEq, Option.some.injEq, Addr.mk.injEq, and_true, true_and] at h'
    obtain ⟨rfl, rfl⟩ := h'
    have hl : cur.toList.length = cap := by simpa using hcs
    have hL : L = cur.toList := by rw [← htake]; exact List.take_of_length_le (by omega)
    subst hL
    exact ⟨by rw [List.length_take, hl, Nat.min_eq_left hn]; omega, .inr ⟨g, cap, cur, rfl, hb, hg, hn, hcm, hcs, by rw [Nat.mul_one]⟩⟩
theorem own_made {cur : Array Value} (hb : base ≤ w.heap.size) (hm : cap ≤ maxLen) (hs : cur.size = cap) :
    (w.alloc (.cells cur e)).ownsRow base e 1 (.slice (some ⟨w.heap.size, 0, none⟩) cap cap) cap cur.toList :=
  ⟨by simpa using hs, .inr ⟨w.heap.size, cap, cur, rfl, hb, heap_alloc_new w _, Nat.le_refl _, hm, by omega, List.take_of_length_le (by simpa using by omega)⟩⟩
theorem own_setCells : ∀ (vs : List Value) (o : Nat) (w : World) (L : List Value), w.ownsRow base e 1 (.slice (some ⟨g, 0, none⟩) n cap) n L → (w.setCells g o vs).ownsRow base e 1 (.slice (some ⟨g, 0, none⟩) n cap) n (setL L o vs)
  | [], _, _, _, h => h
  | v :: r, o, w, L, h => by
    rw [World.setCells, setL]
    exact own_setCells r (o + 1) _ _ (h.stored o v).1
end
theorem grown_setCells {a : World} {g : Nat} : ∀ (vs : List Value) (o : Nat) (w : World), a.grownBy w (some g) → a.grownBy (w.setCells g o vs) (some g)
  | [], _, _, h => h
  | v :: r, o, w, h => by
    rw [World.setCells]
    exact grown_setCells r (o + 1) _ ⟨h.os, h.tape, h.output, by simpa [World.setCell] using h.size, fun i hi hne => (Below.heap_setCell w ⟨g, o, none⟩ v i (by rintro rfl; exact hne rfl)).trans (h.block i hi hne)⟩
theorem grown_drew {a w : World} {r : Option Nat} (h : a.grownBy w r) : a.grownBy w.drew r := ⟨h.os, h.tape, h.output, h.size, h.block⟩
theorem grown_drewN {a w : World} {r : Option Nat} (h : a.grownBy w r) (k : Nat) : a.grownBy (w.drewN k) r := ⟨h.os, h.tape, h.output, h.size, h.block⟩
theorem grown_undrew {a w : World} {r : Option Nat} (h : a.drew.grownBy w r) : a.grownBy w r := ⟨h.os, h.tape, h.output, h.size, h.block⟩
theorem below_grown {a w : World} (h : a.grownBy w none) : Below a.heap.size a w := ⟨h.os, h.tape, h.output, h.size, fun i hi => h.block i hi (by simp)⟩

/-- A number put in at its place. -/
def insL (u : List Int) (i : Nat) (x : Int) : List Int := u.take i ++ x :: u.drop i
theorem insL_len (u : List Int) (i : Nat) (x : Int) (h : i ≤ u.length) : (insL u i x).length = u.length + 1 := by
  unfold insL; simp; omega
theorem insL_get {u : List Int} {i : Nat} (x : Int) (h : i ≤ u.length) (j : Nat) : ((insL u i x).map (Value.int .i64))[j]? = if j < i then (u.map (Value.int .i64))[j]? else if j = i then some (Value.int .i64 x) else (u.map (Value.int .i64))[j - 1]? := by
  unfold insL
  rw [List.map_append, List.map_cons, List.map_take, List.map_drop]
  have hl : ((u.map (Value.int .i64)).take i).length = i := by simp; omega
  by_cases h1 : j < i
  · rw [if_pos h1, List.getElem?_append_left (by omega), List.getElem?_take, if_pos h1]
  · rw [if_neg h1, List.getElem?_append_right (by omega), hl]
    by_cases h2 : j = i
    · subst h2; simp
    · rw [if_neg h2, show j - i = (j - 1 - i) + 1 by omega, List.getElem?_cons_succ, List.getElem?_drop, show i + (j - 1 - i) = j - 1 by omega]

end Go.KK
namespace Go.Proofs
open Go.Shelf Go.RowKit Go.KK
theorem zero_size (n : Nat) : (Builtin.zeroCells (Value.int .i64 0).cells n).size = n := by rw [size_zeroCells]; show n * 1 = n; omega
set_option maxHeartbeats 1000000 in
/-- Insert of one number into a row of the call's own. -/
theorem Tryd.insert_own (base : Nat) (q : Value) (u : List Int) (i : Nat) (x : Int) (vb : Nat) (T : TypeId) (w : World) (h : w.ownsRow base 3 1 q u.length (u.map (.int .i64))) (hi : i ≤ u.length) (hbig : u.length ≤ 2147483648)
    (hv : w.heap[vb]? = some (.cells #[.int .i64 x] T (0, 0))) (hne : q.ownBlock ≠ some vb) (hbase : base ≤ w.heap.size) :
    Calls Tryd.prog 50 #[q, .int .i64 i, .slice (some ⟨vb, 0, none⟩) 1 1] w fun e w' => ∃ q', e = .returned q' ∧ w'.ownsRow base 3 1 q' (u.length + 1) ((insL u i x).map (.int .i64)) ∧ w.grownBy w' q.ownBlock ∧ (q'.ownBlock = q.ownBlock ∨ q'.ownBlock = some w.heap.size) := by
  have hvs : ∀ (j : Nat) v, [Value.int .i64 x][j]? = some v → w.cell? ⟨vb, 0 + j, none⟩ = some v := by
    intro j v hj
    rcases j with _ | j
    · rw [cell_of_row w vb _ _ T (0, 0) hv]; simpa using hj
    · simp at hj
  have h1v : ∀ v ∈ [Value.int .i64 x], v.oneCell' = true := one_int _ x
  have hil := insL_len u i x hi
  have gl : ∀ L : List Value, L.length = u.length + 1 → (∀ j, j < u.length + 1 → L[j]? = ((insL u i x).map (Value.int .i64))[j]?) → L = (insL u i x).map (Value.int .i64) := by
    intro L hL hg
    apply List.ext_getElem?
    intro j
    by_cases hj : j < u.length + 1
    · exact hg j hj
    · rw [List.getElem?_eq_none (by omega), List.getElem?_eq_none (by simp; omega)]
  -- a new row
  have newrow : ∀ (W : World) (L : List Value) (cap : Nat), W.ownsRow base 3 1 (.slice (some ⟨w.heap.size, 0, none⟩) cap cap) cap L → u.length + 1 ≤ cap → L.take (u.length + 1) = (insL u i x).map (Value.int .i64) → W.ownsRow base 3 1 (.slice (some ⟨w.heap.size, 0, none⟩) (u.length + 1) cap) (u.length + 1) ((insL u i x).map (.int .i64)) := by
    intro W L cap ho hc hl
    rw [← hl]
    exact own_part ho hc
  have endgrow : ∀ (b : Option Addr) (c : Nat), q = .slice b u.length c → i = u.length → u.length ≤ c → c < u.length + 1 → (b = none → u.length = 0) → (∀ a, b = some a → ∀ (j : Nat) v, (u.map (Value.int .i64))[j]? = some v → w.cell? (a.add j) = some v) →
      Calls Tryd.prog 50 #[q, .int .i64 i, .slice (some ⟨vb, 0, none⟩) 1 1] w fun e w' => ∃ q', e = .returned q' ∧ w'.ownsRow base 3 1 q' (u.length + 1) ((insL u i x).map (.int .i64)) ∧ w.grownBy w' q.ownBlock ∧ (q'.ownBlock = q.ownBlock ∨ q'.ownBlock = some w.heap.size) := by
    intro b c hq hiu hc1 hc2 hnil hcs
    have hg1 := grownCap_ge w (u.length + 1) c 3
    have hg2 := grownCap_le_maxLen w (u.length + 1) c 3 (by unfold maxLen; omega)
    have key := Any2.slices_Insert_int_end_grow Tryd.lays2n21 b u.length c vb 0 1 1 (u.map (.int .i64)) [.int .i64 x] w (by omega) hc1 hc2 (by omega) (by simp) rfl hnil hcs hvs h1v
    rw [hq, hiu]
    refine key.mono ?_
    rintro e w' ⟨rfl, rfl⟩
    refine ⟨_, rfl, ?_, grown_undrew (World.grownBy_alloc w.drew _ _), .inr rfl⟩
    have hsz : ((u.map (Value.int .i64) ++ [Value.int .i64 x]).toArray ++ Builtin.zeroCells (Value.int .i64 0).cells (grownCap w (u.length + 1) c 3 - (u.length + 1))).size = grownCap w (u.length + 1) c 3 := by
      rw [Array.size_append, zero_size]; simp; omega
    have ho := own_made (w := w.drew) (base := base) (e := 3) (cap := grownCap w (u.length + 1) c 3) hbase hg2 hsz
    have := own_part ho hg1
    have ht : (((u.map (Value.int .i64) ++ [Value.int .i64 x]).toArray ++ Builtin.zeroCells (Value.int .i64 0).cells (grownCap w (u.length + 1) c 3 - (u.length + 1))).toList).take (u.length + 1) = (insL u u.length x).map (Value.int .i64) := by
      rw [Array.toList_append, List.take_append_of_le_length (by simp), List.take_of_length_le (by simp)]
      simp [insL]
    rw [ht] at this
    exact this
  rcases h.2 with ⟨hq, hn0⟩ | ⟨g, cap, cur, hq, hb, hg, hnc, hcm, hcs, htake⟩
  · refine endgrow none 0 (by rw [hq, hn0]) (by omega) (by omega) (by omega) (fun _ => hn0) (fun a ha => by cases ha)
  · have hown := h
    rw [hq] at hown
    have hcells : ∀ (j : Nat) v, (u.map (Value.int .i64))[j]? = some v → w.cell? ⟨g, 0 + j, none⟩ = some v := by
      intro j v hj
      have hju : j < u.length := by
        rcases Nat.lt_or_ge j u.length with hh | hh
        · exact hh
        · rw [List.getElem?_eq_none (by simpa using hh)] at hj; cases hj
      rw [Nat.zero_add, hown.cellAt j (by omega)]; exact hj
    obtain ⟨L, hL1, hL2, hL3, hL4, hL5⟩ := own_full hown
    have hLg : ∀ j, j < u.length → L[j]? = (u.map (Value.int .i64))[j]? := by
      intro j hj
      rw [← hL3, List.getElem?_take, if_pos hj]
    have hgl : g < w.heap.size := (Array.getElem?_eq_some_iff.1 hg).1
    by_cases hroom : u.length + 1 ≤ cap
    · have hsp : ∀ j, j < u.length + 1 → (w.cell? ⟨g, 0 + j, none⟩).isSome = true := by
        intro j hj
        rw [Nat.zero_add, cell_of_row w g j cur 3 (0, 0) hg, Array.getElem?_eq_getElem (by omega)]; rfl
      have hfz : ∀ j, w.frozen? ⟨g, j, none⟩ = false := fun j => frozen_of_row w g j cur 3 hg
      by_cases hin : i < u.length
      · have hgv : vb ≠ g := fun e => hne (by rw [hq, e]; rfl)
        have hsa : w.shape? vb = some (T, 1) := by unfold World.shape?; rw [hv]; rfl
        have hsb : w.shape? g = some (3, cap) := by unfold World.shape?; rw [hg]; simp [hcs]
        have key := Any2.slices_Insert_int_shift Tryd.lays2n21 g 0 u.length cap i vb 0 1 1 (u.map (.int .i64)) [.int .i64 x] w hin (by omega) hroom hcm hgv (by simp) rfl hcells hsp (fun j _ => hfz _) hvs (ints_one _ _) h1v T 3 1 cap hsa hsb (by omega) (frozen_of_row w vb _ _ T hv) (frozen_of_row w vb _ _ T hv)
        rw [hq]
        refine key.mono ?_
        rintro e w' ⟨rfl, rfl⟩
        refine ⟨_, rfl, ?_, grown_setCells _ _ _ (grown_setCells _ _ _ (grown_drew (World.grownBy.refl _ _))), .inl rfl⟩
        have ho := own_setCells [.int .i64 x] (0 + i) _ _ (own_setCells ((u.map (.int .i64)).drop i) (0 + (i + 1)) _ _ (show w.drew.ownsRow base 3 1 _ cap L from hL1))
        have := own_part ho hroom
        have ht : (setL (setL L (0 + (i + 1)) ((u.map (Value.int .i64)).drop i)) (0 + i) [.int .i64 x]).take (u.length + 1) = (insL u i x).map (Value.int .i64) := by
          refine gl _ (by simp [setL_len]; omega) fun j hj => ?_
          rw [List.getElem?_take, if_pos hj, setL_get _ _ _ _ (by rw [setL_len]; simp; omega), setL_get _ _ _ _ (by simp; omega), insL_get x hi]
          by_cases c1 : j < i
          · rw [if_neg (by simp; omega), if_neg (by simp; omega), if_pos c1, hLg j (by omega)]
          · by_cases c2 : j = i
            · subst c2
              rw [if_pos (by simp), if_neg c1, if_pos rfl]; simp
            · rw [if_neg (by simp; omega), if_pos (by simp; omega), if_neg c1, if_neg c2, List.getElem?_drop, show i + (j - (0 + (i + 1))) = j - 1 by omega]
        rw [ht] at this
        exact this
      · have hiu : i = u.length := by omega
        have key := Any2.slices_Insert_int_end_room Tryd.lays2n21 g 0 u.length cap vb 0 1 1 [.int .i64 x] w (by omega) hroom hcm rfl (fun j hj => by rw [Nat.zero_add]; have := hsp (u.length + j) (by omega); rwa [Nat.zero_add] at this) (fun j _ => hfz _) hvs h1v
        rw [hq, hiu]
        refine key.mono ?_
        rintro e w' ⟨rfl, rfl⟩
        refine ⟨_, rfl, ?_, grown_setCells _ _ _ (World.grownBy.refl _ _), .inl rfl⟩
        have ho := own_setCells [.int .i64 x] (0 + u.length) _ _ hL1
        have := own_part ho hroom
        have ht : (setL L (0 + u.length) [.int .i64 x]).take (u.length + 1) = (insL u u.length x).map (Value.int .i64) := by
          rw [hiu] at gl
          refine gl _ (by simp [setL_len]; omega) fun j hj => ?_
          rw [List.getElem?_take, if_pos hj, setL_get _ _ _ _ (by simp; omega), insL_get x (Nat.le_refl _)]
          by_cases c1 : j < u.length
          · rw [if_neg (by simp; omega), if_pos c1, hLg j (by omega)]
          · have : j = u.length := by omega
            subst this
            rw [if_pos (by simp), if_neg c1, if_pos rfl]; simp
        rw [ht] at this
        exact this
    · by_cases hin : i < u.length
      · have hg1 := grownCap_ge w (u.length + 1) cap 3
        have hg2 := grownCap_le_maxLen w (u.length + 1) cap 3 (by unfold maxLen; omega)
        have key := Any2.slices_Insert_int_grow Tryd.lays2n21 g 0 u.length cap i vb 0 1 1 (u.map (.int .i64)) [.int .i64 x] w hin (by omega) hnc (by omega) (by omega) (by simp) rfl hcells hvs (ints_one _ _) h1v
        rw [hq]
        refine key.mono ?_
        rintro e w' ⟨rfl, rfl⟩
        have hsz : (((u.map (Value.int .i64)).take i).toArray ++ Builtin.zeroCells (Value.int .i64 0).cells (u.length + 1 - i) ++ Builtin.zeroCells (Value.int .i64 0).cells (grownCap w (u.length + 1) cap 3 - (u.length + 1))).size = grownCap w (u.length + 1) cap 3 := by
          rw [Array.size_append, Array.size_append, zero_size, zero_size]; simp; omega
        have ho := own_made (w := w) (base := base) (e := 3) (cap := grownCap w (u.length + 1) cap 3) hbase hg2 hsz
        have ho2 := own_setCells ((u.map (.int .i64)).drop i) (i + 1) _ _ (show (((w.alloc _).drew.setCells w.heap.size i [Value.int .i64 x]).drew).ownsRow base 3 1 _ _ _ from own_setCells [.int .i64 x] i _ _ (show (w.alloc _).drew.ownsRow base 3 1 _ _ _ from ho))
        have := own_part ho2 hg1
        refine ⟨_, rfl, ?_, ?_, .inr rfl⟩
        · have ht : (setL (setL (((u.map (Value.int .i64)).take i).toArray ++ Builtin.zeroCells (Value.int .i64 0).cells (u.length + 1 - i) ++ Builtin.zeroCells (Value.int .i64 0).cells (grownCap w (u.length + 1) cap 3 - (u.length + 1))).toList i [.int .i64 x]) (i + 1) ((u.map (Value.int .i64)).drop i)).take (u.length + 1) = (insL u i x).map (Value.int .i64) := by
            have hsl := hsz
            rw [← Array.length_toList] at hsl
            refine gl _ (by rw [List.length_take, setL_len, setL_len, hsl]; omega) fun j hj => ?_
            rw [List.getElem?_take, if_pos hj, setL_get _ _ _ _ (by rw [setL_len, hsl]; simp; omega), setL_get _ _ _ _ (by rw [hsl]; simp; omega), insL_get x hi]
            by_cases c1 : j < i
            · rw [if_neg (by simp; omega), if_neg (by simp; omega), if_pos c1, Array.toList_append, Array.toList_append, List.append_assoc, List.getElem?_append_left (by simp; omega)]
              show ((u.map (Value.int .i64)).take i)[j]? = _
              rw [List.getElem?_take, if_pos c1]
            · by_cases c2 : j = i
              · subst c2
                rw [if_neg (by omega), if_pos (by simp), if_neg c1, if_pos rfl, Nat.sub_self]; rfl
              · rw [if_pos (by simp; omega), if_neg c1, if_neg c2, List.getElem?_drop, show i + (j - (i + 1)) = j - 1 by omega]
          rw [ht] at this
          exact this
        · have g1 : ∀ W : World, w.grownBy W none → w.grownBy W (some g) := fun W hW => ⟨hW.os, hW.tape, hW.output, hW.size, fun k hk _ => hW.block k hk (by simp)⟩
          refine g1 _ ?_
          have far : ∀ (vs : List Value) (o : Nat) (W : World), w.grownBy W none → w.grownBy (W.setCells w.heap.size o vs) none := by
            intro vs
            induction vs with
            | nil => intro o W hW; exact hW
            | cons v r ih =>
              intro o W hW
              rw [World.setCells]
              exact ih _ _ ⟨hW.os, hW.tape, hW.output, by simpa [World.setCell] using hW.size, fun k hk hn => (Below.heap_setCell W ⟨w.heap.size, o, none⟩ v k (show k ≠ w.heap.size by omega)).trans (hW.block k hk hn)⟩
          exact far _ _ _ (grown_drew (far _ _ _ (grown_drew (World.grownBy_alloc w _ none))))
      · refine endgrow (some ⟨g, 0, none⟩) cap hq (by omega) hnc (by omega) (fun e => by cases e) (fun a ha j v hj => ?_)
        injection ha with ha
        subst ha
        rw [add_lit]
        exact hcells j v hj
end Go.Proofs
