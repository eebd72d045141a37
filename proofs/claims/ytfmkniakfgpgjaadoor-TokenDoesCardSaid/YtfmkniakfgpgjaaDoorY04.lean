import Derived.Test.YtfmkniakfgpgjaaDoorY03
import Derived.Test.YtfmkniakfgpgjaaDoorY01
import Derived.Maps.Range
import Derived.Test.YtfmkniakfgpgjaaDoorY02
/- slices.Insert of one number into a row of the call's own. -/
namespace Go.KK
open Go.RowKit
set_option linter.unusedVariables false
set_option linter.unusedSimpArgs false

/-- A list with another one stored over it. -/
def setL (L : List Value) : Nat → List Value → List Value
  | _, [] => L
  | o, v :: r => setL (L.set o v) (o + 1) r
theorem setL_len : ∀ (vs : List Value) (o : Nat) (L : List Value), (setL L o vs).length = L.length
  | [], _, _ => rfl
  | v :: r, o, L => by rw [setL, setL_len r]; simp
theorem setL_get : ∀ (vs : List Value) (o : Nat) (L : List Value) (j : Nat), o + vs.length ≤ L.length → (setL L o vs)[j]? = if o ≤ j ∧ j < o + vs.length then vs[j - o]? else L[j]?
  | [], o, L, j, h => by
    rw [setL, if_neg (show ¬ (o ≤ j ∧ j < o + ([] : List Value).length) by rw [List.length_nil]; omega)]
  | v :: r, o, L, j, h => by
    have h' : o + (r.length + 1) ≤ L.length := by simpa using h
    rw [setL, setL_get r (o + 1) (L.set o v) j (by simp; omega), List.length_cons]
    by_cases h1 : j = o
    · subst h1
      rw [if_neg (by omega), if_pos (by omega), List.getElem?_set_self (by omega), Nat.sub_self]; rfl
    · by_cases h2 : o ≤ j ∧ j < o + (r.length + 1)
      · rw [if_pos (by omega), if_pos h2, show j - o = (j - (o + 1)) + 1 by omega, List.getElem?_cons_succ]
      · rw [if_neg (by omega), if_neg h2, List.getElem?_set_ne (by omega)]

section
variable {w : World} {base : Nat} {e : TypeId} {g n cap : Nat} {xs : List Value}
theorem own_full (h : w.ownsRow base e 1 (.slice (some ⟨g, 0, none⟩) n cap) n xs) : ∃ L : List Value, w.ownsRow base e 1 (.slice (some ⟨g, 0, none⟩) cap cap) cap L ∧ L.length = cap ∧ L.take n = xs ∧ n ≤ cap ∧ cap ≤ maxLen := by
  rcases h.2 with ⟨h', _⟩ | ⟨g', cap', cur, h', hb, hg, hnc, hcm, hcs, htake⟩
  · simp at h'
  · simp only [Value.slice.injEq, Option.some.injEq, Addr.mk.injEq, and_true, true_and] at h'
    obtain ⟨rfl, rfl⟩ := h'
    have hl : cur.toList.length = cap := by simpa using hcs
    exact ⟨cur.toList, ⟨by rw [hl]; omega, .inr ⟨g, cap, cur, rfl, hb, hg, Nat.le_refl _, hcm, hcs, List.take_of_length_le (by omega)⟩⟩, hl, by rw [← htake]; simp, hnc, hcm⟩
theorem own_part {L : List Value} (h : w.ownsRow base e 1 (.slice (some ⟨g, 0, none⟩) cap cap) cap L) (hn : n ≤ cap) : w.ownsRow base e 1 (.slice (some ⟨g, 0, none⟩) n cap) n (L.take n) := by
  rcases h.2 with ⟨h', _⟩ | ⟨g', cap', cur, h', hb, hg, hnc, hcm, hcs, htake⟩
  · simp at h'
  · simp only [Value.slice.injEq, Option.some.injEq, Addr.mk.injEq, and_true, true_and] at h'
    obtain ⟨rfl, rfl⟩ := h'
    have hl : cur.toList.length = cap := by simpa using hcs
    have hL : L = cur.toList := by rw [← htake]; exact List.take_of_length_le (by omega)
    subst hL
    exact ⟨by rw [List.length_take, hl, Nat.min_eq_left hn]; omega, .inr ⟨g, cap, cur, rfl, hb, hg, hn, hcm, hcs, by rw [Nat.mul_one]⟩⟩
theorem own_made {cur : Array Value} (hb : base ≤ w.heap.size) (hm : cap ≤ maxLen) (hs : cur.size = cap) :
    (w.alloc (.cells cur e)).ownsRow base e 1 (.slice (some ⟨w.heap.size, 0, none⟩) cap cap) cap cur.toList :=
  ⟨by simpa using hs, .inr ⟨w.heap.size, cap, cur, rfl, hb, heap_alloc_new w _, Nat.le_refl _, hm, by omega, List.take_of_length_le (by simpa using by omega)⟩⟩
theorem own_setCells : ∀ (vs : List Value) (o : Nat) (w : World) (L : List Value), w.ownsRow base e 1 (.slice (some ⟨g, 0, none⟩) n cap) n L → (w.setCells g o vs).ownsRow base e 1 (.slice (some ⟨g, 0, none⟩) n cap) n (setL L o vs)
  | [], _, _, _, h => h
  | v :: r, o, w, L, h => by
    rw [World.setCells, setL]
    exact own_setCells r (o + 1) _ _ (h.stored o v).1
end
theorem grown_setCells {a : World} {g : Nat} : ∀ (vs : List Value) (o : Nat) (w : World), a.grownBy w (some g) → a.grownBy (w.setCells g o vs) (some g)
  | [], _, _, h => h
  | v :: r, o, w, h => by
    rw [World.setCells]
    exact grown_setCells r (o + 1) _ ⟨h.os, h.tape, h.output, by simpa [World.setCell] using h.size, fun i hi hne => (Below.heap_setCell w ⟨g, o, none⟩ v i (by rintro rfl; exact hne rfl)).trans (h.block i hi hne)⟩
theorem grown_drew {a w : World} {r : Option Nat} (h : a.grownBy w r) : a.grownBy w.drew r := ⟨h.os, h.tape, h.output, h.size, h.block⟩
theorem grown_undrew {a w : World} {r : Option Nat} (h : a.drew.grownBy w r) : a.grownBy w r := ⟨h.os, h.tape, h.output, h.size, h.block⟩
theorem below_grown {a w : World} (h : a.grownBy w none) : Below a.heap.size a w := ⟨h.os, h.tape, h.output, h.size, fun i hi => h.block i hi (by simp)⟩

/-- A number put in at its place. -/
def insL (u : List Int) (i : Nat) (x : Int) : List Int := u.take i ++ x :: u.drop i
theorem insL_len (u : List Int) (i : Nat) (x : Int) (h : i ≤ u.length) : (insL u i x).length = u.length + 1 := by
  unfold insL; simp; omega
theorem insL_get {u : List Int} {i : Nat} (x : Int) (h : i ≤ u.length) (j : Nat) : ((insL u i x).map (Value.int .i64))[j]? = if j < i then (u.map (Value.int .i64))[j]? else if j = i then some (Value.int .i64 x) else (u.map (Value.int .i64))[j - 1]? := by
  unfold insL
  rw [List.map_append, List.map_cons, List.map_take, List.map_drop]
  have hl : ((u.map (Value.int .i64)).take i).length = i := by simp; omega
  by_cases h1 : j < i
  · rw [if_pos h1, List.getElem?_append_left (by omega), List.getElem?_take, if_pos h1]
  · rw [if_neg h1, List.getElem?_append_right (by omega), hl]
    by_cases h2 : j = i
    · subst h2; simp
    · rw [if_neg h2, show j - i = (j - 1 - i) + 1 by omega, List.getElem?_cons_succ, List.getElem?_drop, show i + (j - 1 - i) = j - 1 by omega]

end Go.KK
namespace Go.Proofs
open Go.Shelf Go.RowKit Go.KK
theorem zero_size (n : Nat) : (Builtin.zeroCells (Value.int .i64 0).cells n).size = n := by rw [size_zeroCells]; show n * 1 = n; omega
set_option maxHeartbeats 1000000 in
/-- Insert of one number into a row of the call's own. -/
theorem Tryd.insert_own (base : Nat) (q : Value) (u : List Int) (i : Nat) (x : Int) (vb : Nat) (T : TypeId) (w : World) (h : w.ownsRow base 3 1 q u.length (u.map (.int .i64))) (hi : i ≤ u.length) (hbig : u.length ≤ 2147483648)
    (hv : w.heap[vb]? = some (.cells #[.int .i64 x] T (0, 0))) (hne : q.ownBlock ≠ some vb) (hbase : base ≤ w.heap.size) :
    Calls Tryd.prog 43 #[q, .int .i64 i, .slice (some ⟨vb, 0, none⟩) 1 1] w fun e w' => ∃ q', e = .returned q' ∧ w'.ownsRow base 3 1 q' (u.length + 1) ((insL u i x).map (.int .i64)) ∧ w.grownBy w' q.ownBlock ∧ (q'.ownBlock = q.ownBlock ∨ q'.ownBlock = some w.heap.size) := by
  have hvs : ∀ (j : Nat) v, [Value.int .i64 x][j]? = some v → w.cell? ⟨vb, 0 + j, none⟩ = some v := by
    intro j v hj
    rcases j with _ | j
    · rw [cell_of_row w vb _ _ T (0, 0) hv]; simpa using hj
    · simp at hj
  have h1v : ∀ v ∈ [Value.int .i64 x], v.oneCell' = true := one_int _ x
  have hil := insL_len u i x hi
  have gl : ∀ L : List Value, L.length = u.length + 1 → (∀ j, j < u.length + 1 → L[j]? = ((insL u i x).map (Value.int .i64))[j]?) → L = (insL u i x).map (Value.int .i64) := by
    intro L hL hg
    apply List.ext_getElem?
    intro j
    by_cases hj : j < u.length + 1
    · exact hg j hj
    · rw [List.getElem?_eq_none (by omega), List.getElem?_eq_none (by simp; omega)]
  -- a new row
  have newrow : ∀ (W : World) (L : List Value) (cap : Nat), W.ownsRow base 3 1 (.slice (some ⟨w.heap.size, 0, none⟩) cap cap) cap L → u.length + 1 ≤ cap → L.take (u.length + 1) = (insL u i x).map (Value.int .i64) → W.ownsRow base 3 1 (.slice (some ⟨w.heap.size, 0, none⟩) (u.length + 1) cap) (u.length + 1) ((insL u i x).map (.int .i64)) := by
    intro W L cap ho hc hl
    rw [← hl]
    exact own_part ho hc
  have endgrow : ∀ (b : Option Addr) (c : Nat), q = .slice b u.length c → i = u.length → u.length ≤ c → c < u.length + 1 → (b = none → u.length = 0) → (∀ a, b = some a → ∀ (j : Nat) v, (u.map (Value.int .i64))[j]? = some v → w.cell? (a.add j) = some v) →
      Calls Tryd.prog 43 #[q, .int .i64 i, .slice (some ⟨vb, 0, none⟩) 1 1] w fun e w' => ∃ q', e = .returned q' ∧ w'.ownsRow base 3 1 q' (u.length + 1) ((insL u i x).map (.int .i64)) ∧ w.grownBy w' q.ownBlock ∧ (q'.ownBlock = q.ownBlock ∨ q'.ownBlock = some w.heap.size) := by
    intro b c hq hiu hc1 hc2 hnil hcs
    have hg1 := grownCap_ge w (u.length + 1) c 3
    have hg2 := grownCap_le_maxLen w (u.length + 1) c 3 (by unfold maxLen; omega)
    have key := Any2.slices_Insert_int_end_grow Tryd.lays2n21 b u.length c vb 0 1 1 (u.map (.int .i64)) [.int .i64 x] w (by omega) hc1 hc2 (by omega) (by simp) rfl hnil hcs hvs h1v
    rw [hq, hiu]
    refine key.mono ?_
    rintro e w' ⟨rfl, rfl⟩
    refine ⟨_, rfl, ?_, grown_undrew (World.grownBy_alloc w.drew _ _), .inr rfl⟩
    have hsz : ((u.map (Value.int .i64) ++ [Value.int .i64 x]).toArray ++ Builtin.zeroCells (Value.int .i64 0).cells (grownCap w (u.length + 1) c 3 - (u.length + 1))).size = grownCap w (u.length + 1) c 3 := by
      rw [Array.size_append, zero_size]; simp; omega
    have ho := own_made (w := w.drew) (base := base) (e := 3) (cap := grownCap w (u.length + 1) c 3) hbase hg2 hsz
    have := own_part ho hg1
    have ht : (((u.map (Value.int .i64) ++ [Value.int .i64 x]).toArray ++ Builtin.zeroCells (Value.int .i64 0).cells (grownCap w (u.length + 1) c 3 - (u.length + 1))).toList).take (u.length + 1) = (insL u u.length x).map (Value.int .i64) := by
      rw [Array.toList_append, List.take_append_of_le_length (by simp), List.take_of_length_le (by simp)]
      simp [insL]
    rw [ht] at this
    exact this
  rcases h.2 with ⟨hq, hn0⟩ | ⟨g, cap, cur, hq, hb, hg, hnc, hcm, hcs, htake⟩
  · refine endgrow none 0 (by rw [hq, hn0]) (by omega) (by omega) (by omega) (fun _ => hn0) (fun a ha => by cases ha)
  · have hown := h
    rw [hq] at hown
    have hcells : ∀ (j : Nat) v, (u.map (Value.int .i64))[j]? = some v → w.cell? ⟨g, 0 + j, none⟩ = some v := by
      intro j v hj
      have hju : j < u.length := by
        rcases Nat.lt_or_ge j u.length with hh | hh
        · exact hh
        · rw [List.getElem?_eq_none (by simpa using hh)] at hj; cases hj
      rw [Nat.zero_add, hown.cellAt j (by omega)]; exact hj
    obtain ⟨L, hL1, hL2, hL3, hL4, hL5⟩ := own_full hown
    have hLg : ∀ j, j < u.length → L[j]? = (u.map (Value.int .i64))[j]? := by
      intro j hj
      rw [← hL3, List.getElem?_take, if_pos hj]
    have hgl : g < w.heap.size := (Array.getElem?_eq_some_iff.1 hg).1
    by_cases hroom : u.length + 1 ≤ cap
    · have hsp : ∀ j, j < u.length + 1 → (w.cell? ⟨g, 0 + j, none⟩).isSome = true := by
        intro j hj
        rw [Nat.zero_add, cell_of_row w g j cur 3 (0, 0) hg, Array.getElem?_eq_getElem (by omega)]; rfl
      have hfz : ∀ j, w.frozen? ⟨g, j, none⟩ = false := fun j => frozen_of_row w g j cur 3 hg
      by_cases hin : i < u.length
      · have hgv : vb ≠ g := fun e => hne (by rw [hq, e]; rfl)
        have hsa : w.shape? vb = some (T, 1) := by unfold World.shape?; rw [hv]; rfl
        have hsb : w.shape? g = some (3, cap) := by unfold World.shape?; rw [hg]; simp [hcs]
        have key := Any2.slices_Insert_int_shift Tryd.lays2n21 g 0 u.length cap i vb 0 1 1 (u.map (.int .i64)) [.int .i64 x] w hin (by omega) hroom hcm hgv (by simp) rfl hcells hsp (fun j _ => hfz _) hvs (ints_one _ _) h1v T 3 1 cap hsa hsb (by omega) (frozen_of_row w vb _ _ T hv) (frozen_of_row w vb _ _ T hv)
        rw [hq]
        refine key.mono ?_
        rintro e w' ⟨rfl, rfl⟩
        refine ⟨_, rfl, ?_, grown_setCells _ _ _ (grown_setCells _ _ _ (grown_drew (World.grownBy.refl _ _))), .inl rfl⟩
        have ho := own_setCells [.int .i64 x] (0 + i) _ _ (own_setCells ((u.map (.int .i64)).drop i) (0 + (i + 1)) _ _ (show w.drew.ownsRow base 3 1 _ cap L from hL1))
        have := own_part ho hroom
        have ht : (setL (setL L (0 + (i + 1)) ((u.map (Value.int .i64)).drop i)) (0 + i) [.int .i64 x]).take (u.length + 1) = (insL u i x).map (Value.int .i64) := by
          refine gl _ (by simp [setL_len]; omega) fun j hj => ?_
          rw [List.getElem?_take, if_pos hj, setL_get _ _ _ _ (by rw [setL_len]; simp; omega), setL_get _ _ _ _ (by simp; omega), insL_get x hi]
          by_cases c1 : j < i
          · rw [if_neg (by simp; omega), if_neg (by simp; omega), if_pos c1, hLg j (by omega)]
          · by_cases c2 : j = i
            · subst c2
              rw [if_pos (by simp), if_neg c1, if_pos rfl]; simp
            · rw [if_neg (by simp; omega), if_pos (by simp; omega), if_neg c1, if_neg c2, List.getElem?_drop, show i + (j - (0 + (i + 1))) = j - 1 by omega]
        rw [ht] at this
        exact this
      · have hiu : i = u.length := by omega
        have key := Any2.slices_Insert_int_end_room Tryd.lays2n21 g 0 u.length cap vb 0 1 1 [.int .i64 x] w (by omega) hroom hcm rfl (fun j hj => by rw [Nat.zero_add]; have := hsp (u.length + j) (by omega); rwa [Nat.zero_add] at this) (fun j _ => hfz _) hvs h1v
        rw [hq, hiu]
        refine key.mono ?_
        rintro e w' ⟨rfl, rfl⟩
        refine ⟨_, rfl, ?_, grown_setCells _ _ _ (World.grownBy.refl _ _), .inl rfl⟩
        have ho := own_setCells [.int .i64 x] (0 + u.length) _ _ hL1
        have := own_part ho hroom
        have ht : (setL L (0 + u.length) [.int .i64 x]).take (u.length + 1) = (insL u u.length x).map (Value.int .i64) := by
          rw [hiu] at gl
          refine gl _ (by simp [setL_len]; omega) fun j hj => ?_
          rw [List.getElem?_take, if_pos hj, setL_get _ _ _ _ (by simp; omega), insL_get x (Nat.le_refl _)]
          by_cases c1 : j < u.length
          · rw [if_neg (by simp; omega), if_pos c1, hLg j (by omega)]
          · have : j = u.length := by omega
            subst this
            rw [if_pos (by simp), if_neg c1, if_pos rfl]; simp
        rw [ht] at this
        exact this
    · by_cases hin : i < u.length
      · have hg1 := grownCap_ge w (u.length + 1) cap 3
        have hg2 := grownCap_le_maxLen w (u.length + 1) cap 3 (by unfold maxLen; omega)
        have key := Any2.slices_Insert_int_grow Tryd.lays2n21 g 0 u.length cap i vb 0 1 1 (u.map (.int .i64)) [.int .i64 x] w hin (by omega) hnc (by omega) (by omega) (by simp) rfl hcells hvs (ints_one _ _) h1v
        rw [hq]
        refine key.mono ?_
        rintro e w' ⟨rfl, rfl⟩
        have hsz : (((u.map (Value.int .i64)).take i).toArray ++ Builtin.zeroCells (Value.int .i64 0).cells (u.length + 1 - i) ++ Builtin.zeroCells (Value.int .i64 0).cells (grownCap w (u.length + 1) cap 3 - (u.length + 1))).size = grownCap w (u.length + 1) cap 3 := by
          rw [Array.size_append, Array.size_append, zero_size, zero_size]; simp; omega
        have ho := own_made (w := w) (base := base) (e := 3) (cap := grownCap w (u.length + 1) cap 3) hbase hg2 hsz
        have ho2 := own_setCells ((u.map (.int .i64)).drop i) (i + 1) _ _ (show (((w.alloc _).drew.setCells w.heap.size i [Value.int .i64 x]).drew).ownsRow base 3 1 _ _ _ from own_setCells [.int .i64 x] i _ _ (show (w.alloc _).drew.ownsRow base 3 1 _ _ _ from ho))
        have := own_part ho2 hg1
        refine ⟨_, rfl, ?_, ?_, .inr rfl⟩
        · have ht : (setL (setL (((u.map (Value.int .i64)).take i).toArray ++ Builtin.zeroCells (Value.int .i64 0).cells (u.length + 1 - i) ++ Builtin.zeroCells (Value.int .i64 0).cells (grownCap w (u.length + 1) cap 3 - (u.length + 1))).toList i [.int .i64 x]) (i + 1) ((u.map (Value.int .i64)).drop i)).take (u.length + 1) = (insL u i x).map (Value.int .i64) := by
            have hsl := hsz
            rw [← Array.length_toList] at hsl
            refine gl _ (by rw [List.length_take, setL_len, setL_len, hsl]; omega) fun j hj => ?_
            rw [List.getElem?_take, if_pos hj, setL_get _ _ _ _ (by rw [setL_len, hsl]; simp; omega), setL_get _ _ _ _ (by rw [hsl]; simp; omega), insL_get x hi]
            by_cases c1 : j < i
            · rw [if_neg (by simp; omega), if_neg (by simp; omega), if_pos c1, Array.toList_append, Array.toList_append, List.append_assoc, List.getElem?_append_left (by simp; omega)]
              show ((u.map (Value.int .i64)).take i)[j]? = _
              rw [List.getElem?_take, if_pos c1]
            · by_cases c2 : j = i
              · subst c2
                rw [if_neg (by omega), if_pos (by simp), if_neg c1, if_pos rfl, Nat.sub_self]; rfl
              · rw [if_pos (by simp; omega), if_neg c1, if_neg c2, List.getElem?_drop, show i + (j - (i + 1)) = j - 1 by omega]
          rw [ht] at this
          exact this
        · have g1 : ∀ W : World, w.grownBy W none → w.grownBy W (some g) := fun W hW => ⟨hW.os, hW.tape, hW.output, hW.size, fun k hk _ => hW.block k hk (by simp)⟩
          refine g1 _ ?_
          have far : ∀ (vs : List Value) (o : Nat) (W : World), w.grownBy W none → w.grownBy (W.setCells w.heap.size o vs) none := by
            intro vs
            induction vs with
            | nil => intro o W hW; exact hW
            | cons v r ih =>
              intro o W hW
              rw [World.setCells]
              exact ih _ _ ⟨hW.os, hW.tape, hW.output, by simpa [World.setCell] using hW.size, fun k hk hn => (Below.heap_setCell W ⟨w.heap.size, o, none⟩ v k (show k ≠ w.heap.size by omega)).trans (hW.block k hk hn)⟩
          exact far _ _ _ (grown_drew (far _ _ _ (grown_drew (World.grownBy_alloc w _ none))))
      · refine endgrow (some ⟨g, 0, none⟩) cap hq (by omega) hnc (by omega) (fun e => by cases e) (fun a ha j v hj => ?_)
        injection ha with ha
        subst ha
        rw [add_lit]
        exact hcells j v hj
end Go.Proofs

/- the document's term: a node is made. -/
namespace Go.KK
open Go.RowKit Go.Maps
set_option linter.unusedVariables false
set_option linter.unusedSimpArgs false
end Go.KK
namespace Go.Proofs.YtfmkniakfgpgjaaDoor
open Go.RowKit Go.KK Go.Shelf Go.Maps Go.ChangeMaps

/-- What a call that makes a node leaves. -/
def MakR (w : World) (Z : Nat → Prop) (st mp : Nat) (xs : List ND) (w' : World) : Prop := ∃ Z' v' qs', ArR w' Z' st mp v' xs qs' ∧ Turn Z w w' ∧ ∀ b, Z' b → Z b ∨ w.heap.size ≤ b
theorem makR_below {w w' : World} {Z : Nat → Prop} {st mp : Nat} {v : Value} {xs : List ND} {qs : List Value} (h : ArR w Z st mp v xs qs) (hb : Below w.heap.size w w') : MakR w Z st mp xs w' :=
  ⟨Z, v, qs, h.ext hb, .of_below hb, fun _ h => .inl h⟩
theorem rmake_done {w W W1 w4 w6 : World} {Z : Nat → Prop} {st mp : Nat} {v v4 q : Value} {xs : List ND} {qs : List Value} {x : ND} {D : MD} {b2 : Nat} (h : ArR w Z st mp v xs qs) (hB : Below w.heap.size w W) (hb1 : ∀ b, b < W.heap.size → W1.heap[b]? = W.heap[b]?) (hs1 : W.heap.size ≤ W1.heap.size)
    (hot : W1.os = W.os ∧ W1.tape = W.tape ∧ W1.output = W.output)
    (hq : W.ownsRow b2 3 1 q x.l.length (x.l.map (.int .i64))) (hb2 : w.heap.size < b2) (hg4 : W1.grownBy w4 v.ownBlock) (h4 : w4.ownsRow 0 60 4 v4 (xs.length + 1) (nds xs qs ++ x.cells q)) (hl4 : v4.ownBlock = v.ownBlock ∨ v4.ownBlock = some W1.heap.size)
    (hbx : w4.heap[st]? = some (.cells #[v, .map (some mp)] 78 (0, 0))) (hm : w6.ownsMap Tryd.prog 9 (plainElem Tryd.prog 3) mp (xs.length + 1) D) (hmo : MapOk keyR (xs ++ [x]) D) (hok : Okay (xs ++ [x]))
    (hg6 : (w4.setCell ⟨st, 0, none⟩ v4).grownBy w6 (some mp)) : MakR w Z st mp (xs ++ [x]) w6 := by
  have hzl := h.zlt
  have l1 := hzl _ h.zst
  have l2 := hzl _ h.zmp.1
  have hmne := h.zmp.2
  have s1 := hB.size
  have s4 := hg4.size
  have s5 : (w4.setCell ⟨st, 0, none⟩ v4).heap.size = w4.heap.size := by simp
  have s6 := hg6.size
  rw [s5] at s6
  have hne : some st ≠ v.ownBlock := fun e => (h.zv st e.symm).2.1 rfl
  have box6 : w6.heap[st]? = some (.cells #[v4, .map (some mp)] 78 (0, 0)) := by
    rw [hg6.block st (by rw [s5]; omega) (by intro e; injection e with e; exact hmne e.symm), heap_setCell_same w4 st 0 _ _ v4 hbx]
    rfl
  have step : ∀ b, b < w4.heap.size → b ≠ st → b ≠ mp → w6.heap[b]? = w4.heap[b]? := fun b hb h1 h2 => by
    rw [hg6.block b (by rw [s5]; exact hb) (by intro e; injection e with e; exact h2 e), Below.heap_setCell w4 ⟨st, 0, none⟩ v4 b h1]
  have hv4 : v4.ownBlock = v.ownBlock ∨ ∀ b, v4.ownBlock = some b → w.heap.size ≤ b ∧ b < w6.heap.size := by
    rcases hl4 with e | e
    · exact .inl e
    · refine .inr fun b hb => ?_
      have hlt := (h4.lt b hb).2
      rw [e] at hb
      injection hb with hb
      omega
  have vlt : ∀ b, v4.ownBlock = some b → b < w4.heap.size ∧ b ≠ st ∧ b ≠ mp := fun b hb => by
    refine ⟨(h4.lt b hb).2, ?_⟩
    rcases hl4 with e | e
    · have := h.zv b (e ▸ hb); exact ⟨this.2.1, this.2.2⟩
    · rw [e] at hb; injection hb with hb; omega
  have hqk : ∀ b, q.ownBlock = some b → b2 ≤ b ∧ b < W.heap.size ∧ w6.heap[b]? = W.heap[b]? := fun b hb => by
    obtain ⟨q1, q2⟩ := hq.lt b hb
    refine ⟨q1, q2, ?_⟩
    rw [step b (by omega) (by omega) (by omega), hg4.block b (by omega) (fun e => by have := (h.zv b e.symm).1; have := hzl b this; omega), hb1 b q2]
  have hold : ∀ b, b < w.heap.size → b ≠ st → b ≠ mp → v.ownBlock ≠ some b → w6.heap[b]? = w.heap[b]? := fun b hb h1 h2 h3 => by
    rw [step b (by omega) h1 h2, hg4.block b (by omega) (fun e => h3 e.symm), hb1 b (by omega), hB.block b hb]
  have row6 : w6.ownsRow 0 60 4 v4 (xs.length + 1) (nds xs qs ++ x.cells q) := own_block h4 fun b hb => by
    obtain ⟨a1, a2, a3⟩ := vlt b hb
    exact step b a1 a2 a3
  obtain ⟨Aq, cq, hqe, -⟩ := SlA.owned hq
  have hq6 : In1 w6 q x.l := by
    have := own_block hq (w' := w6) fun b hb => (hqk b hb).2.2
    obtain ⟨A', c', e', hs'⟩ := SlA.owned this
    exact ⟨A', c', e', hs'⟩
  have hP := h.push (w' := w6) (v' := v4) (q := q) (x := x) (D := D) hok box6 row6 hv4 hq6 (fun hne' b hb => by
    obtain ⟨a1, a2, a3⟩ := hqk b hb
    refine ⟨by omega, by omega, fun e => ?_⟩
    rcases hl4 with e4 | e4
    · have := (h.zv b (e4 ▸ e)).1; have := hzl b this; omega
    · rw [e4] at e; injection e with e; omega) hm hmo (fun b hz h1 h2 h3 => hold b (hzl b hz) h1 h2 h3) (by omega)
  refine ⟨_, v4, _, hP, ⟨?_, ?_, ?_, by omega, fun b hb hz => hold b hb (fun e => hz (e ▸ h.zst)) (fun e => hz (e ▸ h.zmp.1)) (fun e => hz (h.zv b e).1)⟩, fun b hb => ?_⟩
  · rw [hg6.os, show (w4.setCell ⟨st, 0, none⟩ v4).os = w4.os from (Turn.setCell (F := fun _ => True) (w := w4) (a := ⟨st, 0, none⟩) v4 (.inl trivial)).os, hg4.os, hot.1, hB.os]
  · rw [hg6.tape, show (w4.setCell ⟨st, 0, none⟩ v4).tape = w4.tape from (Turn.setCell (F := fun _ => True) (w := w4) (a := ⟨st, 0, none⟩) v4 (.inl trivial)).tape, hg4.tape, hot.2.1, hB.tape]
  · rw [hg6.output, show (w4.setCell ⟨st, 0, none⟩ v4).output = w4.output from (Turn.setCell (F := fun _ => True) (w := w4) (a := ⟨st, 0, none⟩) v4 (.inl trivial)).output, hg4.output, hot.2.2, hB.output]
  · rcases hb with hb | hb
    · exact .inl hb
    · exact .inr hb.1
section
variable (Z : Nat → Prop) (st mp : Nat) (v : Value) (xs : List ND) (qs : List Value) (x : ND) (A : Option Addr) (c : Nat) (w : World)
set_option maxHeartbeats 1000000 in
theorem rmake_no (h : ArR w Z st mp v xs qs) (hl : SlA w 1 A x.l.length c (x.l.map (.int .i64))) (hm : mayB xs x = false) :
    Calls Tryd.prog 50 #[.pointer (some ⟨st, 0, none⟩), .agg #[.int .i64 x.o, .int .i64 x.n, .string x.s, .slice A x.l.length c]] w fun e w' => e = .returned (.tuple #[.int .i64 0, .int .i64 1]) ∧ Below w.heap.size w w' := by
  have H := hid (Ar.v h); have HS := hid hl; have HM := hid hm
  have B0 := hid (show Below w.heap.size w (w.alloc (.cells #[.int .i64 x.o, .int .i64 x.n, .string x.s, .slice A x.l.length c] 60)) from (Below.refl _ _).alloc (Nat.le_refl _) _)
  clear h hl hm
  go_enter Tryd.func50, Tryd.ntmps50
  go_wp2_with fail
  refine (rmay_any st xs x A c _ (H.out.ext B0.out) (HS.out.ext B0.out)).mono ?_
  rintro e1 w1 ⟨rfl, b1⟩
  rw [HM.out]
  have B1 := hid (B0.out.trans (b1.mono B0.out.size))
  clear b1
  go_wp2_with fail
  go_ret2
  exact ⟨rfl, B1.out⟩
set_option maxHeartbeats 4000000 in
set_option maxRecDepth 20000 in
theorem rmake_yes (h : ArR w Z st mp v xs qs) (hl : SlA w 1 A x.l.length c (x.l.map (.int .i64))) (hm : mayB xs x = true) (hx : NdI x) :
    Calls Tryd.prog 50 #[.pointer (some ⟨st, 0, none⟩), .agg #[.int .i64 x.o, .int .i64 x.n, .string x.s, .slice A x.l.length c]] w fun e w' => e = .returned (.tuple #[.int .i64 (makI xs x), .int .i64 (makE xs x)]) ∧ MakR w Z st mp (makT xs x) w' := by
  have HAR := hid h
  have H := hid (Ar.v h); have HS := hid hl; have HM := hid hm; have HX := hid hx
  have B0 := hid (show Below w.heap.size w (w.alloc (.cells #[.int .i64 x.o, .int .i64 x.n, .string x.s, .slice A x.l.length c] 60)) from (Below.refl _ _).alloc (Nat.le_refl _) _)
  have X0 := hid (show (w.alloc (.cells #[.int .i64 x.o, .int .i64 x.n, .string x.s, .slice A x.l.length c] 60)).ownsRow w.heap.size 60 4 (.slice (some ⟨w.heap.size, 0, none⟩) 1 1) 1 [.int .i64 x.o, .int .i64 x.n, .string x.s, .slice A x.l.length c] from
    ⟨by simp, .inr ⟨w.heap.size, 1, _, rfl, Nat.le_refl _, heap_alloc_new w _, Nat.le_refl _, by decide, rfl, by simp⟩⟩)
  have hsh : x.l.length ≤ 64 ∧ x.s.size ≤ 200 ∧ 0 ≤ x.n ∧ (∀ i ∈ x.l, 0 ≤ i) ∧ 0 ≤ x.o := by
    unfold mayB shB at hm
    simp only [Bool.and_eq_true, decide_eq_true_eq, List.all_eq_true] at hm
    refine ⟨hm.1.1.1.1.1.1.2, hm.1.1.1.1.2, hm.1.1.1.1.1.2, fun i hi => ?_, ?_⟩
    · have := hm.1.2 i hi
      unfold hasB at this
      simp only [Bool.and_eq_true, decide_eq_true_eq] at this
      exact this.1
    · have hlb := hm.1.1.1.1.1.1.1
      unfold lenB at hlb
      by_cases ho : 0 ≤ x.o
      · exact ho
      · have : arN x.o = none := by
          unfold arN
          split <;> first | omega | rfl
        rw [this] at hlb
        simp at hlb
        omega
  obtain ⟨hs64, hs200, hn0, hl0, ho0⟩ := hsh
  have HL0 := hid hl0
  have hlt := (Ar.v h).lt
  obtain ⟨Av, cv, rfl, -⟩ := h.rows
  obtain ⟨i0, hi, hz0, hz1, hz2⟩ := info_parts infoN
  obtain ⟨j0, hj, hy0, hy1, hy2⟩ := info_parts Tryd.infoInt
  clear h hl hm hx hl0
  go_enter Tryd.func50, Tryd.ntmps50
  go_wp2_with fail
  refine (rmay_any st xs x A c _ (H.out.ext B0.out) (HS.out.ext B0.out)).mono ?_
  rintro e1 w1 ⟨rfl, b1⟩
  rw [HM.out]
  have B1 := hid (B0.out.trans (b1.mono B0.out.size))
  have X1 := hid (own_ext X0.out b1)
  clear b1
  obtain ⟨⟨k0, k1, k2, k3⟩, -⟩ := box4 X1.out
  go_wp2_with fail
  refine (text_any x A c _ (HS.out.ext B1.out) hs64 ho0 HX.out.o hn0 HX.out.n HL0.out HX.out.l hs200).mono ?_
  rintro e2 w2 ⟨KS, rfl, hk, b2⟩
  have HK := hid hk
  have B2 := hid (B1.out.trans (b2.mono B1.out.size))
  have X2 := hid (own_ext X1.out b2)
  clear b2 hk k0 k1 k2 k3 hn0 ho0
  have AR2 := hid (HAR.out.ext B2.out)
  obtain ⟨D, hD, hMO⟩ := AR2.out.map
  have HD := hid hD; have HMO := hid hMO
  clear hD hMO
  have s0 : w2.cell? ⟨st, 0, none⟩ = some (.slice Av xs.length cv) := cell_of_row w2 st 0 _ _ (0, 0) AR2.out.box
  have s1 : w2.cell? ⟨st, 1, none⟩ = some (.map (some mp)) := cell_of_row w2 st 1 _ _ (0, 0) AR2.out.box
  have hsz : KS.size ≤ maxLen := by
    have h1 : KS.size = (keyR x).length := by rw [← HK.out]; rfl
    have h2 := itoa_le x.o HX.out.o.1 HX.out.o.2
    have h2' := itoa_le x.n HX.out.n.1 HX.out.n.2
    have h2'' := itoa_le (x.s.size : Nat) (by omega) (by omega)
    have h3 := join_le (l := x.l) HX.out.l
    have h4 : x.s.data.toList.length = x.s.size := rfl
    rw [h1]
    unfold keyR maxLen
    simp only [List.length_append, List.length_cons] at h3 ⊢
    omega
  have hkey : keyOf Tryd.prog 9 (.string KS) = some (.string (keyR x)) := by rw [← HK.out]; exact Go.WideMaps.keyOf_string_mk Tryd.underlying9 hsz
  have HKEY := hid hkey
  clear hkey hsz
  by_cases hx : x ∈ xs
  · have HH := hid (HMO.out.yes hx)
    obtain ⟨e1, e2, e3⟩ := mak_old HM.out hx
    have HI := hid e2; have HE := hid e3; have HTT := hid e1
    have HIX := hid (HMO.out.at' _ x (idxOf_get hx))
    clear hx e1 e2 e3
    go_wp2_with (at_lookup; refine wpList_lookup_own_ok_int _ rfl _ _ 76 rfl 9 3 .i64 lawS Tryd.underlying76 Tryd.underlying3 (zeroI _) mp _ D rfl HD.out _ _ rfl HKEY.out ?_; intro cc hat hwc; rw [HH.out])
    have HCC := hid (show cc = (xs.idxOf x : Nat) by
      rw [HIX.out] at hat
      injection hat with hat
      injection hat with _ hat
      exact hat.symm)
    clear hat hwc
    go_wp2
    go_ret2
    refine ⟨by rw [HI.out, HE.out, HCC.out]; rfl, ?_⟩
    rw [HTT.out]
    exact makR_below HAR.out B2.out
  · have HH := hid (HMO.out.not (fun {_ _} => keyR_inj) hx)
    by_cases hf : 100000 ≤ xs.length
    · have HI := hid (show makI xs x = 0 by unfold makI; rw [HM.out, if_pos rfl, if_neg hx, if_pos hf])
      have HE := hid (show makE xs x = 2 by unfold makE; rw [HM.out, if_pos rfl, if_neg hx, if_pos hf])
      have HTT := hid (show makT xs x = xs by unfold makT; rw [HM.out, if_pos rfl, if_neg hx, if_pos hf])
      have hf' : (100000 : Int) ≤ (xs.length : Int) := by omega
      clear hx hf
      go_wp2_with (at_lookup; refine wpList_lookup_own_ok_int _ rfl _ _ 76 rfl 9 3 .i64 lawS Tryd.underlying76 Tryd.underlying3 (zeroI _) mp _ D rfl HD.out _ _ rfl HKEY.out ?_; intro cc hat hwc; rw [HH.out])
      go_ret2
      refine ⟨by rw [HI.out, HE.out]; rfl, ?_⟩
      rw [HTT.out]
      exact makR_below HAR.out B2.out
    · obtain ⟨e1, e2, e3⟩ := mak_new HM.out hx (by omega)
      have HI := hid e2; have HE := hid e3; have HTT := hid e1; have HNX := hid hx
      have hf' : decide ((100000 : Int) ≤ (xs.length : Int)) = false := decide_eq_false (by omega)
      have HF := hid hf
      clear e1 e2 e3 hx hf
      obtain ⟨⟨k0, k1, k2, k3⟩, f0, f1, f2, f3⟩ := box4 X2.out
      have HSN := hid (HS.out.ext B2.out)
      go_wp2_with (first
        | (at_lookup; refine wpList_lookup_own_ok_int _ rfl _ _ 76 rfl 9 3 .i64 lawS Tryd.underlying76 Tryd.underlying3 (zeroI _) mp _ D rfl HD.out _ _ rfl HKEY.out ?_; intro cc hat hwc; rw [HH.out]; clear hat hwc)
        | (at_builtin; refine wpList_append_new _ rfl _ _ 29 rfl 3 j0 (.int .i64 0) 1 8 Tryd.underlying29 hj hy0 hy1 hy2 rfl (by decide) rfl _ _ _ _ rfl HSN.out (ints_one _ _) (by unfold maxLen; omega) (by omega) ?_; intro q0 w3 oq b3; obtain ⟨Aq, cq, rfl, -⟩ := SlA.owned oq; have X3 := hid (own_ext X2.out b3); have AR3 := hid (AR2.out.ext b3); have B3 := hid (B2.out.trans (b3.mono B2.out.size)); have OQ := hid oq; clear oq b3; obtain ⟨⟨l0, l1, l2, l3⟩, g0, g1, g2, g3⟩ := box4 X3.out))
      have hws : w.heap.size < w2.heap.size := (X2.out.lt w.heap.size rfl).2
      refine forget (R := fun W => ArR W Z st mp (.slice Av xs.length cv) xs qs ∧ W.ownsRow w.heap.size 60 4 (.slice (some ⟨w.heap.size, 0, none⟩) 1 1) 1 (x.cells (.slice Aq x.l.length cq)) ∧ W.ownsRow w2.heap.size 3 1 (.slice Aq x.l.length cq) x.l.length (x.l.map (.int .i64)) ∧ Below w.heap.size w W) ?_ ⟨?_, ?_, ?_, ?_⟩
      rotate_left
      · exact AR3.out.turn (Turn.setCell (F := fun b => b = w.heap.size) (.slice Aq x.l.length cq) (.inl rfl)) (fun b hz e => by have := HAR.out.zlt b hz; omega)
      · exact (X3.out.stored 3 (.slice Aq x.l.length cq)).1
      · exact own_block OQ.out fun b hb => Below.heap_setCell w3 ⟨w.heap.size, 3, none⟩ (.slice Aq x.l.length cq) b (by have := (OQ.out.lt b hb).1; show b ≠ w.heap.size; omega)
      · exact B3.out.setCell (p := ⟨w.heap.size, 3, none⟩) (Nat.le_refl _) _
      rintro W ⟨ra, rx, ro, rb⟩
      have AR4 := hid ra; have X4 := hid rx; have OQ4 := hid ro; have B4 := hid rb
      clear ra rx ro rb k0 k1 k2 k3 f0 f1 f2 f3 s0 s1 X3 AR3 B3 OQ l0 l1 l2 l3 g0 g1 g2 g3
      obtain ⟨⟨k0, k1, k2, k3⟩, -⟩ := box4 X4.out
      have s0 : W.cell? ⟨st, 0, none⟩ = some (.slice Av xs.length cv) := (ar_box AR4.out).cellAt 0 (by decide)
      have fs0 : W.frozen? ⟨st, 0, none⟩ = false := (ar_box AR4.out).frozenAt 0
      have hsW : w.heap.size < W.heap.size := (X4.out.lt w.heap.size rfl).2
      have hrow : ((W.alloc (.cells #[.int .i64 x.o, .int .i64 x.n, .string x.s, .slice Aq x.l.length cq] 60)).drew).ownsRow 0 60 4 (.slice Av xs.length cv) xs.length (nds xs qs) := own_block (AR4.out.row.alloc _) (fun _ _ => rfl)
      have HROW := hid hrow
      have HN1 := hid (show xs.length ≤ 100000 by have := HF.out; omega)
      have hstW : st < W.heap.size := by omega
      have s0' : (W.alloc (.cells #[.int .i64 x.o, .int .i64 x.n, .string x.s, .slice Aq x.l.length cq] 60)).cell? ⟨st, 0, none⟩ = some (.slice Av xs.length cv) := (World.cell?_alloc_old _ _ _ (show st ≠ W.heap.size by omega)).trans s0
      have HBX := hid (show ((W.alloc (.cells #[.int .i64 x.o, .int .i64 x.n, .string x.s, .slice Aq x.l.length cq] 60)).drew).heap[st]? = some (.cells #[.slice Av xs.length cv, .map (some mp)] 78 (0, 0)) from (Below.heap_alloc W _ st hstW).trans AR4.out.box)
      have HNE := hid (show some st ≠ (Value.slice Av xs.length cv).ownBlock from fun e => (AR4.out.zv st e.symm).2.1 rfl)
      clear hrow
      go_region_law (refine step_append_sl _ rfl (.tmp 40) (.tmp 42) 52 rfl 0 60 i0 (.agg #[.int .i64 0, .int .i64 0, .string ⟨#[]⟩, .slice none 0 0]) 4 56 Tryd.underlying52 hi hz0 hz1 hz2 rfl (by decide) (.slice Av xs.length cv) xs.length (nds xs qs) (by rfl) HROW.out (some ⟨W.heap.size, 0, none⟩) 1 1 (x.cells (.slice Aq x.l.length cq)) (by rfl) (lit4 _ _ _ _).drew (one4 _ _ _ _) (by have := HN1.out; unfold maxLen; omega) (by have := HN1.out; omega) (Nat.zero_le _) ?_; intro v4 w4 h4 g4 l4; obtain ⟨A4, c4, rfl, -⟩ := SlA.owned h4; have H4 := hid h4; have G4 := hid g4; have L4 := hid l4; have HB4 := hid ((g4.block st (by simp; omega) HNE.out).trans HBX.out); obtain ⟨s4, s5, f4⟩ := box2 HB4.out; clear h4 g4 l4)
      all_goals
        obtain ⟨D4, hD4, hM4⟩ := AR4.out.map
        have HD5 := hid (map_block (w' := w4.setCell ⟨st, 0, none⟩ (.slice A4 (xs.length + 1) c4)) hD4 (by
          have h1 := AR4.out.zlt _ AR4.out.zmp.1
          have h2 := AR4.out.zmp.2
          rw [Below.heap_setCell w4 ⟨st, 0, none⟩ _ mp h2, G4.out.block mp (by simp; omega) (fun e => (AR4.out.zv mp e.symm).2.2 rfl)]
          exact Below.heap_alloc W _ mp h1))
        have HM4 := hid hM4
        have hb6 := box2 (a := .slice A4 (xs.length + 1) c4) (b := .map (some mp)) (heap_setCell_same w4 st 0 _ _ (.slice A4 (xs.length + 1) c4) HB4.out)
        go_upto_region 11 with fail
        refine forget (R := fun V => (V.cell? ⟨st, 0, none⟩ = some (.slice A4 (xs.length + 1) c4) ∧ V.cell? ⟨st, 1, none⟩ = some (.map (some mp))) ∧ V.drew.ownsMap Tryd.prog 9 (plainElem Tryd.prog 3) mp xs.length D4 ∧ ∀ w6, V.grownBy w6 (some mp) → (w4.setCell ⟨st, 0, none⟩ (.slice A4 (xs.length + 1) c4)).grownBy w6 (some mp)) ?_ ⟨⟨hb6.1, hb6.2.1⟩, map_block HD5.out rfl, fun _ h => h⟩
        clear hD4 hM4 hb6 HD5 s4 s5 f4 s0' s0 fs0 k0 k1 k2 k3
        rintro V ⟨⟨v0, v1⟩, hvm, hvg⟩
        have HVM := hid hvm; have HVG := hid hvg
        clear hvm hvg
        have hsub : IntKind.i64.wrap (xs.length : Int) = (xs.length : Int) := by rw [IntKind.wrap_i64]; have := HN1.out; omega
        have hkk := HKEY.out
        have hnm : xs.length < maxLen := by have := HN1.out; unfold maxLen; omega
        have hpe := plainElem_int (H := Unit) Tryd.underlying3 (WalkArith.wf_i64 (n := (xs.length : Int)) (by have := HN1.out; omega))
        obtain ⟨w6, hrun, hown6, hg6⟩ := HVM.out.update lawS Tryd.underlying76 hnm hkk hpe
        have HO6 := hid hown6; have HG6 := hid hg6
        clear hown6 hg6 hkk hpe hnm
        go_region
        all_goals
          have hok : Okay (xs ++ [x]) := by
            have := okay_mak HAR.out.ok (x := x) (by have := HX.out.n.2; omega)
            rwa [HTT.out] at this
          have HG7 := hid (HVG.out _ (grown_undrew HG6.out))
          have HFIN := hid (rmake_done HAR.out B4.out (W1 := (W.alloc (.cells #[.int .i64 x.o, .int .i64 x.n, .string x.s, .slice Aq x.l.length cq] 60)).drew) (fun b hb => Below.heap_alloc W _ b hb) (by simp) ⟨rfl, rfl, rfl⟩ OQ4.out hws G4.out H4.out L4.out HB4.out HO6.out (mapOk_put HM4.out (fun {_ _} => keyR_inj) HNX.out) hok HG7.out)
          have y0 : w6.cell? ⟨st, 0, none⟩ = some (.slice A4 (xs.length + 1) c4) := by
            rw [World.cell?_of_block (a := ⟨st, 0, none⟩) (HG6.out.block st (block_lt_of_cell v0) (fun e => by injection e with e; exact HAR.out.zmp.2 e.symm))]
            exact v0
          have hn9 : (xs.length : Int) + 1 - 1 = (xs.length : Int) := by omega
          clear hrun v0 v1
          go_wp2
          go_ret2
          refine ⟨by rw [HI.out, HE.out]; rfl, ?_⟩
          rw [HTT.out]
          exact HFIN.out
/-- A node is made, whatever it is. -/
theorem rmake_any (h : ArR w Z st mp v xs qs) (hl : SlA w 1 A x.l.length c (x.l.map (.int .i64))) (hx : NdI x) :
    Calls Tryd.prog 50 #[.pointer (some ⟨st, 0, none⟩), .agg #[.int .i64 x.o, .int .i64 x.n, .string x.s, .slice A x.l.length c]] w fun e w' => e = .returned (.tuple #[.int .i64 (makI xs x), .int .i64 (makE xs x)]) ∧ MakR w Z st mp (makT xs x) w' := by
  rcases hm : mayB xs x with _ | _
  · refine (rmake_no Z st mp v xs qs x A c w h hl hm).mono ?_
    rintro e w' ⟨rfl, hb⟩
    refine ⟨?_, ?_⟩
    · unfold makI makE; rw [hm]; rfl
    · have : makT xs x = xs := by unfold makT; rw [hm]; rfl
      rw [this]
      exact makR_below h hb
  · exact rmake_yes Z st mp v xs qs x A c w h hl hm hx
end
end Go.Proofs.YtfmkniakfgpgjaaDoor

/- crypto: known, Unblind; token: known. -/
namespace Go.Proofs.YtfmkniakfgpgjaaDoor
open Go.RowKit Go.KK Go.Shelf Go.Maps
set_option linter.unusedVariables false
set_option linter.unusedSimpArgs false

theorem nd_at {xs : List ND} {t : Int} (h : hasB xs t = true) : ∃ j : Nat, t = (j : Int) ∧ xs[j]? = some (nodeF xs t) := by
  have hh := h
  unfold hasB at hh
  simp only [Bool.and_eq_true, decide_eq_true_eq] at hh
  obtain ⟨j, rfl⟩ := Int.eq_ofNat_of_zero_le hh.1
  have hj : j < xs.length := by omega
  refine ⟨j, rfl, ?_⟩
  unfold nodeF
  rw [h, if_pos rfl, Int.toNat_natCast, List.getD, List.getElem?_eq_getElem hj]
  rfl
theorem is_has {xs : List ND} {t op : Int} (h : ndIs xs t op = true) : hasB xs t = true ∧ (nodeF xs t).o = op := by
  unfold ndIs nodeE at h
  simp only [Bool.and_eq_true, beq_iff_eq] at h
  rcases hb : hasB xs t with _ | _
  · rw [hb] at h; exact absurd h.1 (by decide)
  · exact ⟨rfl, h.2⟩
theorem is_two {xs : List ND} {t op : Int} (hok : Okay xs) (h : ndIs xs t op = true) (ha : arN op = some 2) : ∃ a b, (nodeF xs t).l = [a, b] ∧ hasB xs a = true ∧ hasB xs b = true := by
  obtain ⟨h1, h2⟩ := is_has h
  obtain ⟨j, rfl, hj⟩ := nd_at h1
  have hm := hok.may j _ hj
  unfold mayB shB lenB at hm
  rw [h2, ha] at hm
  simp only [Bool.and_eq_true, beq_iff_eq, List.all_eq_true] at hm
  have hl := hm.1.1.1.1.1.1.1
  have hp := hm.1.2
  generalize nodeF xs (j : Int) = x at *
  obtain ⟨_, _, _, l⟩ := x
  simp only at hl hp
  rcases l with _ | ⟨a, _ | ⟨b, _ | ⟨c, l⟩⟩⟩
  · cases hl
  · cases hl
  · have up : ∀ i, hasB (xs.take j) i = true → hasB xs i = true := fun i hi => by
      unfold hasB at hi ⊢
      simp only [Bool.and_eq_true, decide_eq_true_eq, List.length_take] at hi ⊢
      omega
    exact ⟨a, b, rfl, up a (hp a (by simp)), up b (hp b (by simp))⟩
  · simp at hl
theorem has_i64 {xs : List ND} {t : Int} (hok : Okay xs) (h : hasB xs t = true) : I64 t := by
  unfold hasB at h
  simp only [Bool.and_eq_true, decide_eq_true_eq] at h
  have := hok.len
  exact ⟨by omega, by omega⟩
section
variable (Z : Nat → Prop) (st : Nat) (xs : List ND) (B : Nat) (w : World)
theorem cknown_any (A : Option Addr) (n c : Nat) (l : List Int) (h : ArV w 85 st xs) (hl : SlA w 1 A n c (l.map (.int .i64))) (hn : n ≤ 2147483648) :
    Calls Tryd.prog 60 #[.pointer (some ⟨st, 0, none⟩), .slice A n c] w fun e w' => e = .returned (.bool (kno xs l)) ∧ w' = w := by
  have H := hid h; have HS := hid hl; have HL := hid hl.lenI
  clear h hl
  unfold kno
  go_enter Tryd.func60, Tryd.ntmps60
  go_wp2
  go_loopw [9] (fun i wr => ∃ j : Nat, i = .int .i64 j ∧ j ≤ n ∧ Hid (l.all (hasB xs) = (l.drop j).all (hasB xs)) ∧ wr = w) (fun i _ => n - (intOf i).toNat)
  case atStart => exact ⟨0, rfl, by omega, hid rfl, rfl⟩
  case round =>
    obtain ⟨j, hi, hj, HJ, hw⟩ := hrel
    subst hi; subst hw
    by_cases hlt : j < n
    · obtain ⟨b1, o, z, rfl, hz, hc⟩ := HS.out.elemI hlt
      have HD := hid (drop_get hz); clear hz
      by_cases hz0 : z < 0
      · have HF := hid (show l.all (hasB xs) = false by
          rw [HJ.out, HD.out, List.all_cons, show hasB xs z = false by unfold hasB; rw [decide_eq_false (by omega : ¬ 0 ≤ z)]; rfl]; rfl)
        go_wp2
        go_ret
        exact ⟨by rw [HF.out]; rfl, rfl⟩
      · by_cases hz1 : (xs.length : Int) ≤ z
        · have HF := hid (show l.all (hasB xs) = false by
            rw [HJ.out, HD.out, List.all_cons, show hasB xs z = false by unfold hasB; rw [decide_eq_false (by omega : ¬ z < (xs.length : Int))]; simp]; rfl)
          go_wp2_with (go_at_call 47; refine (len_any st xs _ H.out).mono ?_; rintro e w' ⟨rfl, hw'⟩; subst hw')
          go_ret
          exact ⟨by rw [HF.out]; rfl, rfl⟩
        · have HF := hid (show l.all (hasB xs) = (l.drop (j + 1)).all (hasB xs) by
            rw [HJ.out, HD.out, List.all_cons, show hasB xs z = true by unfold hasB; rw [decide_eq_true (by omega : z < (xs.length : Int)), decide_eq_true (by omega : 0 ≤ z)]; rfl]; rfl)
          go_wp2_with (go_at_call 47; refine (len_any st xs _ H.out).mono ?_; rintro e w' ⟨rfl, hw'⟩; subst hw')
          go_roundw
          case rel => exact ⟨j + 1, by go_num, by omega, HF, by first | rfl | trivial⟩
          case measure => simp [intOf]; omega
    · have HF := hid (show l.all (hasB xs) = true by rw [HJ.out, List.drop_of_length_le (by have := HL.out; omega)]; rfl)
      go_wp2
      go_ret
      exact ⟨by rw [HF.out]; rfl, rfl⟩
theorem known1_any (b : Nat) (t : Int) (h : ArV w 85 st xs) (hb : w.cell? ⟨b, 0, none⟩ = some (.pointer (some ⟨st, 0, none⟩))) :
    Calls Tryd.prog 52 #[.int .i64 t, .pointer (some ⟨b, 0, none⟩)] w fun e w' => e = .returned (.bool (!hasB xs t)) ∧ w' = w := by
  have H := hid h
  clear h
  by_cases hz0 : t < 0
  · have HF := hid (show hasB xs t = false by unfold hasB; rw [decide_eq_false (by omega : ¬ 0 ≤ t)]; rfl)
    go_enter Tryd.func52, Tryd.ntmps52
    go_wp2
    go_ret
    exact ⟨by rw [HF.out]; rfl, rfl⟩
  · by_cases hz1 : (xs.length : Int) ≤ t
    · have HF := hid (show hasB xs t = false by unfold hasB; rw [decide_eq_false (by omega : ¬ t < (xs.length : Int))]; simp)
      go_enter Tryd.func52, Tryd.ntmps52
      go_wp2_with (go_at_call 47; refine (len_any st xs _ H.out).mono ?_; rintro e w' ⟨rfl, hw'⟩; subst hw')
      go_ret
      exact ⟨by rw [HF.out]; rfl, rfl⟩
    · have HF := hid (show hasB xs t = true by unfold hasB; rw [decide_eq_true (by omega : t < (xs.length : Int)), decide_eq_true (by omega : 0 ≤ t)]; rfl)
      go_enter Tryd.func52, Tryd.ntmps52
      go_wp2_with (go_at_call 47; refine (len_any st xs _ H.out).mono ?_; rintro e w' ⟨rfl, hw'⟩; subst hw')
      go_ret
      exact ⟨by rw [HF.out]; show Ending.returned (.bool (decide ((xs.length : Int) ≤ t))) = _; rw [decide_eq_false (by omega : ¬ (xs.length : Int) ≤ t)]; rfl, rfl⟩
set_option maxHeartbeats 1000000 in
theorem ixf_kn (b : Nat) (A : Option Addr) (n c : Nat) (l : List Int) (h : ArV w 85 st xs) (hb : w.cell? ⟨b, 0, none⟩ = some (.pointer (some ⟨st, 0, none⟩))) (hl : SlA w 1 A n c (l.map (.int .i64))) (hn : n ≤ 2147483648) :
    Calls Tryd.prog 73 #[.slice A n c, .func (.func 52) #[] #[.pointer (some ⟨b, 0, none⟩)]] w fun e w' => (∃ k : Int, e = .returned (.int .i64 k) ∧ decide (0 ≤ k) = !l.all (hasB xs)) ∧ w' = w := by
  have H := hid h; have HB := hid hb; have HS := hid hl; have HL := hid hl.lenI
  clear h hb hl
  go_enter Tryd.func73, Tryd.ntmps73
  go_wp2
  go_loopw [8] (fun i wr => ∃ j : Nat, i = .int .i64 j ∧ j ≤ n ∧ Hid (l.all (hasB xs) = (l.drop j).all (hasB xs)) ∧ wr = w) (fun i _ => n - (intOf i).toNat)
  case atStart => exact ⟨0, rfl, by omega, hid rfl, rfl⟩
  case round =>
    obtain ⟨j, hi, hj, HJ, hw⟩ := hrel
    subst hi; subst hw
    by_cases hlt : j < n
    · obtain ⟨b1, o, z, rfl, hz, hc⟩ := HS.out.elemI hlt
      have HD := hid (drop_get hz); clear hz
      rcases hh : hasB xs z with _ | _
      · have HF := hid (show l.all (hasB xs) = false by rw [HJ.out, HD.out, List.all_cons, hh]; rfl)
        go_wp2_with (go_at_call 52; refine (known1_any st xs _ b z H.out HB.out).mono ?_; rintro e w' ⟨rfl, hw'⟩; subst hw'; rw [hh])
        go_ret
        exact ⟨⟨j, rfl, by rw [HF.out, decide_eq_true (by omega)]; rfl⟩, rfl⟩
      · have HF := hid (show l.all (hasB xs) = (l.drop (j + 1)).all (hasB xs) by rw [HJ.out, HD.out, List.all_cons, hh]; rfl)
        go_wp2_with (go_at_call 52; refine (known1_any st xs _ b z H.out HB.out).mono ?_; rintro e w' ⟨rfl, hw'⟩; subst hw'; rw [hh])
        go_roundw
        case rel => exact ⟨j + 1, by go_num, by omega, HF, by first | rfl | trivial⟩
        case measure => simp [intOf]; omega
    · have HF := hid (show l.all (hasB xs) = true by rw [HJ.out, List.drop_of_length_le (by have := HL.out; omega)]; rfl)
      go_wp2
      go_ret
      exact ⟨⟨-1, rfl, by rw [HF.out]; rfl⟩, rfl⟩
theorem ctf_kn (b : Nat) (A : Option Addr) (n c : Nat) (l : List Int) (h : ArV w 85 st xs) (hb : w.cell? ⟨b, 0, none⟩ = some (.pointer (some ⟨st, 0, none⟩))) (hl : SlA w 1 A n c (l.map (.int .i64))) (hn : n ≤ 2147483648) :
    Calls Tryd.prog 51 #[.slice A n c, .func (.func 52) #[] #[.pointer (some ⟨b, 0, none⟩)]] w fun e w' => e = .returned (.bool (!l.all (hasB xs))) ∧ w' = w := by
  have HX := hid (ixf_kn st xs w b A n c l h hb hl hn)
  clear h hb hl
  go_enter Tryd.func51, Tryd.ntmps51
  go_wp2_with fail
  refine HX.out.mono ?_
  rintro e w' ⟨⟨k, rfl, hk⟩, hw⟩
  subst hw
  have HK := hid hk
  clear hk
  go_wp2
  go_ret
  exact ⟨by rw [← HK.out]; rfl, rfl⟩

/-- Whether all are terms. -/
theorem known_any (A : Option Addr) (n c : Nat) (l : List Int) (h : ArV w 85 st xs) (hl : SlA w 1 A n c (l.map (.int .i64))) (hn : n ≤ 2147483648) :
    Calls Tryd.prog 28 #[.pointer (some ⟨st, 0, none⟩), .slice A n c] w fun e w' => e = .returned (.bool (kno xs l)) ∧ Below w.heap.size w w' := by
  have B0 := hid (show Below w.heap.size w (w.alloc (.cells #[.pointer (some ⟨st, 0, none⟩)] 24)) from (Below.refl _ _).alloc (Nat.le_refl _) _)
  have HX := hid (ctf_kn st xs (w.alloc (.cells #[.pointer (some ⟨st, 0, none⟩)] 24)) w.heap.size A n c l (h.ext B0.out) (by rw [World.cell?_alloc_at _ _ _ _ rfl]; rfl) (hl.ext B0.out) hn)
  clear h hl
  go_enter Tryd.func28, Tryd.ntmps28
  go_wp2_with fail
  refine HX.out.mono ?_
  rintro e w' ⟨rfl, hw⟩
  subst hw
  go_wp2
  go_ret
  exact ⟨by unfold kno; simp, B0.out⟩
end
end Go.Proofs.YtfmkniakfgpgjaaDoor

/- crypto: Unblind; token: Ask, Finish. -/
namespace Go.Proofs.YtfmkniakfgpgjaaDoor
open Go.RowKit Go.KK Go.Shelf Go.Maps
set_option linter.unusedVariables false
set_option linter.unusedSimpArgs false

/-- A call that goes from one arena to another, with a number and an error. -/
def StpS (w : World) (Z : Nat → Prop) (st : Nat) (r : List ND × Int × Int) (e : Ending) (w' : World) : Prop := e = .returned (.tuple #[.int .i64 r.2.1, .int .i64 r.2.2]) ∧ ArS w Z st r.1 w'
section
variable (Z : Nat → Prop) (st : Nat) (xs : List ND) (B : Nat) (w : World)
theorem two_gen {W : World} {o m d : Int} {A : Option Addr} {c : Nat} (h : AR w Z st xs) (hT : Tb B w) (hB : B ≤ w.heap.size) (ho : I64 o) (hm : I64 m) (hd : I64 d) (hb : Below w.heap.size w W) (hs : SlA W 1 A 2 c [.int .i64 m, .int .i64 d]) :
    Calls Tryd.prog 53 #[.pointer (some ⟨st, 0, none⟩), .int .i64 o, .slice A 2 c] W (MkS w Z st xs (ndN o [m, d])) := by
  refine (of_any Z st xs B _ o [m, d] A c (h.ext hb) hs (hT.on (hb.mono hB)) (Nat.le_trans hB hb.size) ho (fun i hi => ?_)).mono ?_
  · simp only [List.mem_cons, List.mem_nil_iff, or_false] at hi
    rcases hi with rfl | rfl
    · exact hm
    · exact hd
  · rintro e w' ⟨rfl, hs⟩
    exact ⟨rfl, hs.first hb⟩
theorem stay_s {w' : World} (h : AR w Z st xs) (hb : Below w.heap.size w w') {a b : Int} : StpS w Z st (xs, a, b) (.returned (.tuple #[.int .i64 a, .int .i64 b])) w' := ⟨rfl, h.stay hb⟩
set_option maxHeartbeats 4000000 in
set_option maxRecDepth 20000 in
theorem unblind_any (sig draw : Int) (h : AR w Z st xs) (hT : Tb B w) (hB : B ≤ w.heap.size) :
    Calls Tryd.prog 40 #[.pointer (some ⟨st, 0, none⟩), .int .i64 sig, .int .i64 draw] w (StpS w Z st (unblF xs sig draw)) := by
  have H := hid h; have HT := hid hT
  have hok := h.ok
  have B0 := hid (show Below w.heap.size w (w.alloc (.cells #[.int .i64 sig, .int .i64 draw] 3)) from (Below.refl _ _).alloc (Nat.le_refl _) _)
  have HU := hid (show unblF xs sig draw = if kno xs [sig, draw] then if (nodeF xs sig).o == 10 then if (nodeF xs ((nodeF xs sig).l.getD 1 0)).o == 12 && (nodeF xs ((nodeF xs sig).l.getD 1 0)).l.getD 1 0 == draw then mk xs (ndN 10 [(nodeF xs sig).l.getD 0 0, (nodeF xs ((nodeF xs sig).l.getD 1 0)).l.getD 0 0]) else (xs, 0, 40) else (xs, 0, 40) else (xs, 0, 1) from rfl)
  clear h hT
  go_enter Tryd.func40, Tryd.ntmps40
  go_wp2_with fail
  refine (cknown_any st xs _ _ 2 2 [sig, draw] (H.out.vw.ext B0.out) (sla_row #[.int .i64 sig, .int .i64 draw] (by unfold maxLen; simp)) (by decide)).mono ?_
  rintro e1 w1 ⟨rfl, hw1⟩
  subst hw1
  rcases hk : kno xs [sig, draw] with _ | _
  · have HF := hid (show unblF xs sig draw = (xs, 0, 1) by rw [HU.out, hk]; rfl)
    go_wp2_with fail
    go_ret2
    rw [HF.out]
    exact stay_s Z st xs w H.out B0.out
  have hks : hasB xs sig = true := by
    unfold kno at hk
    simp only [List.all_cons, Bool.and_eq_true] at hk
    exact hk.1
  generalize w.alloc (.cells #[.int .i64 sig, .int .i64 draw] 3) = w1 at *
  go_wp2_with fail
  refine (cnode_any st xs _ sig 10 (H.out.vw.ext B0.out)).mono ?_
  rintro e2 w2 ⟨A2, c2, rfl, o2, b2⟩
  have B2 := hid (B0.out.trans (b2.mono B0.out.size))
  have O2 := hid o2
  clear o2 b2
  rcases hi : ndIs xs sig 10 with _ | _
  · have HF := hid (show unblF xs sig draw = (xs, 0, 40) by
      have : ((nodeF xs sig).o == 10) = false := by
        unfold ndIs nodeE at hi
        rw [hks] at hi
        simpa using hi
      rw [HU.out, hk, if_pos rfl, this]; rfl)
    go_wp2_with fail
    go_ret2
    rw [HF.out]
    exact stay_s Z st xs w H.out (B2.out.alloc B2.out.size _)
  obtain ⟨s0, s1, hsl, hs0, hs1⟩ := is_two hok hi rfl
  have ho10 : ((nodeF xs sig).o == 10) = true := by rw [(is_has hi).2]; rfl
  have HU2 := hid (show unblF xs sig draw = if (nodeF xs s1).o == 12 && (nodeF xs s1).l.getD 1 0 == draw then mk xs (ndN 10 [s0, (nodeF xs s1).l.getD 0 0]) else (xs, 0, 40) by
    rw [HU.out, hk, if_pos rfl, ho10, if_pos rfl, hsl]; rfl)
  generalize hx1 : nodeF xs sig = x1 at *
  obtain ⟨x1o, x1n, x1s, x1l⟩ := x1
  simp only at hsl
  subst hsl
  have HSL := hid ((SlA.of_own O2.out).2.alloc (.cells #[.int .i64 x1o, .int .i64 x1n, .string x1s, .slice A2 2 c2] 60))
  have X3 := hid (show (w2.alloc (.cells #[.int .i64 x1o, .int .i64 x1n, .string x1s, .slice A2 2 c2] 60)).ownsRow w2.heap.size 60 4 (.slice (some ⟨w2.heap.size, 0, none⟩) 1 1) 1 [.int .i64 x1o, .int .i64 x1n, .string x1s, .slice A2 2 c2] from
    ⟨by simp, .inr ⟨w2.heap.size, 1, _, rfl, Nat.le_refl _, heap_alloc_new w2 _, Nat.le_refl _, by decide, rfl, by simp⟩⟩)
  have B3 := hid (B2.out.alloc B2.out.size (.cells #[.int .i64 x1o, .int .i64 x1n, .string x1s, .slice A2 2 c2] 60))
  obtain ⟨b2, o2, z2, rfl, hz2, hc2⟩ := HSL.out.elemI (k := 1) (by simp)
  have hz2 : s1 = z2 := by simpa using hz2
  subst hz2
  clear hx1 ho10 hi
  go_wp2_with fail
  refine (cnode_any st xs _ s1 12 (H.out.vw.ext B3.out)).mono ?_
  rintro e4 w4 ⟨A4, c4, rfl, o4, b4⟩
  have B4 := hid (B3.out.trans (b4.mono B3.out.size))
  have O4 := hid o4
  have X4 := hid (own_ext X3.out b4)
  have HSL4 := hid (HSL.out.ext b4)
  clear o4 b4 X3 HSL hc2
  rcases hi : ndIs xs s1 12 with _ | _
  · have HF := hid (show unblF xs sig draw = (xs, 0, 40) by
      have : ((nodeF xs s1).o == 12) = false := by
        unfold ndIs nodeE at hi
        rw [hs1] at hi
        simpa using hi
      rw [HU2.out, this]; rfl)
    go_wp2_with fail
    go_ret2
    rw [HF.out]
    exact stay_s Z st xs w H.out (B4.out.alloc B4.out.size _)
  obtain ⟨t0, t1, htl, ht0, ht1⟩ := is_two hok hi rfl
  have ho12 : ((nodeF xs s1).o == 12) = true := by rw [(is_has hi).2]; rfl
  generalize hx2 : nodeF xs s1 = x2 at *
  obtain ⟨x2o, x2n, x2s, x2l⟩ := x2
  simp only at htl
  subst htl
  have HU3 := hid (show unblF xs sig draw = if t1 == draw then mk xs (ndN 10 [s0, t0]) else (xs, 0, 40) by
    rw [HU2.out, ho12]; rfl)
  have HSL5 := hid ((SlA.of_own O4.out).2.alloc (.cells #[.int .i64 x2o, .int .i64 x2n, .string x2s, .slice A4 2 c4] 60))
  have X5 := hid (show (w4.alloc (.cells #[.int .i64 x2o, .int .i64 x2n, .string x2s, .slice A4 2 c4] 60)).ownsRow w4.heap.size 60 4 (.slice (some ⟨w4.heap.size, 0, none⟩) 1 1) 1 [.int .i64 x2o, .int .i64 x2n, .string x2s, .slice A4 2 c4] from
    ⟨by simp, .inr ⟨w4.heap.size, 1, _, rfl, Nat.le_refl _, heap_alloc_new w4 _, Nat.le_refl _, by decide, rfl, by simp⟩⟩)
  have B5 := hid (B4.out.alloc B4.out.size (.cells #[.int .i64 x2o, .int .i64 x2n, .string x2s, .slice A4 2 c4] 60))
  have X4' := hid (X4.out.alloc (.cells #[.int .i64 x2o, .int .i64 x2n, .string x2s, .slice A4 2 c4] 60))
  have HSL4' := hid (HSL4.out.alloc (.cells #[.int .i64 x2o, .int .i64 x2n, .string x2s, .slice A4 2 c4] 60))
  obtain ⟨b4, o4, z4, rfl, hz4, hc4⟩ := HSL5.out.elemI (k := 1) (by simp)
  have hz4 : t1 = z4 := by simpa using hz4
  subst hz4
  clear hx2 ho12 hi
  by_cases hd : t1 = draw
  · have hd' : (t1 != draw) = false := by rw [hd]; simp
    have HF := hid (show unblF xs sig draw = mk xs (ndN 10 [s0, t0]) by rw [HU3.out, hd]; simp)
    clear hd
    have i1 := has_i64 hok hs0
    have i2 := has_i64 hok ht0
    have I1 := hid i1; have I2 := hid i2
    clear i1 i2
    go_upto_region 9 with fail
    have l3 := X4'.out.cellAt 3 (by decide)
    have m3 := X5.out.cellAt 3 (by decide)
    obtain ⟨b2x, o2x, z2, hA, hz2, l0⟩ := HSL4'.out.elemI (k := 0) (by simp)
    injection hA with hA
    injection hA with e1 e2
    subst e1; subst e2
    have hz2 : s0 = z2 := by simpa using hz2
    subst hz2
    obtain ⟨b4x, o4x, z4, hA, hz4, m0⟩ := HSL5.out.elemI (k := 0) (by simp)
    injection hA with hA
    injection hA with e1 e2
    subst e1; subst e2
    have hz4 : t0 = z4 := by simpa using hz4
    subst hz4
    rw [Nat.add_zero] at l0 m0
    refine forget (R := fun W => W = w4.alloc (.cells #[.int .i64 x2o, .int .i64 x2n, .string x2s, .slice (some ⟨b4, o4, none⟩) 2 c4] 60)) ?_ rfl
    intro W hW
    rw [← hW] at l3 m3 l0 m0 B5
    clear hW hc4 X4' X5 HSL4' HSL5
    change W.cell? ⟨w2.heap.size, 3, none⟩ = some (.slice (some ⟨b2, o2, none⟩) 2 c2) at l3
    change W.cell? ⟨w4.heap.size, 3, none⟩ = some (.slice (some ⟨b4, o4, none⟩) 2 c4) at m3
    have hsl : SlA (W.alloc (.cells #[.int .i64 s0, .int .i64 t0] 3)).drew 1 (some ⟨W.heap.size, 0, none⟩) 2 2 [.int .i64 s0, .int .i64 t0] := (sla_row #[.int .i64 s0, .int .i64 t0] (by unfold maxLen; simp)).drew
    have hbl : Below w.heap.size w (W.alloc (.cells #[.int .i64 s0, .int .i64 t0] 3)).drew := below_drew (B5.out.alloc B5.out.size _)
    have HOF := hid (two_gen Z st xs B w (o := 10) H.out HT.out hB (i64_lit (by decide) (by decide)) I1.out I2.out hbl hsl)
    clear hsl hbl
    go_region_with (go_at_call 53; refine HOF.out.mono ?_; rintro e9 w9 ⟨rfl, s9⟩; have S9 := hid s9; clear s9)
    all_goals
      go_wp2
      go_ret2
      rw [HF.out]
      exact ⟨rfl, S9.out⟩
  · have hd' : (t1 != draw) = true := bne_iff_ne.2 hd
    have HF := hid (show unblF xs sig draw = (xs, 0, 40) by rw [HU3.out, show (t1 == draw) = false from beq_eq_false_iff_ne.2 hd]; rfl)
    clear hd
    go_wp2_with fail
    go_ret2
    rw [HF.out]
    exact stay_s Z st xs w H.out B5.out
end
end Go.Proofs.YtfmkniakfgpgjaaDoor

