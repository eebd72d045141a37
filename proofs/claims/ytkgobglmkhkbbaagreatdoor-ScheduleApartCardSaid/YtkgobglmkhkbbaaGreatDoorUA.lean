/- schedule: Begin. -/
import Derived.Test.YtkgobglmkhkbbaaGreatDoorU9
namespace Go.KK
open Go.RowKit
set_option linter.unusedVariables false
set_option linter.unusedSimpArgs false
theorem getD_snoc {acc : List Int} {a : Int} {n : Nat} (h : acc.length = n) (i : Nat) : (acc ++ [a]).getD i 0 = if i = n then a else acc.getD i 0 := by
  subst h
  rw [List.getD, List.getD]
  by_cases h1 : i = acc.length
  · subst h1
    rw [if_pos rfl, List.getElem?_append_right (Nat.le_refl _), Nat.sub_self]; rfl
  · rw [if_neg h1]
    by_cases h2 : i < acc.length
    · rw [List.getElem?_append_left h2]
    · rw [List.getElem?_eq_none (by simp; omega), List.getElem?_eq_none (by omega)]
theorem run_take {xs : List ND} {fs : List (List Int → List ND → Rs)} {k : Nat} {f : List Int → List ND → Rs} (h : fs[k]? = some f) : runF xs [] (fs.take (k + 1)) = rnS (runF xs [] (fs.take k)) f := by
  rw [take_one h, run_snoc]
end Go.KK
namespace Go.Proofs.YtkgobglmkhkbbaaGreatDoor
open Go.RowKit Go.KK Go.Shelf Go.Maps

/-- An epoch's value. -/
def epV (ep : List Int) : Value := .agg (ep.map (.int .i64)).toArray
/-- A call that makes an epoch. -/
def EpS (w0 W : World) (Z : Nat → Prop) (sa : Nat) (r : List ND × List Int × Int) (e : Ending) (w' : World) : Prop := ∃ Z', e = .returned (.tuple #[epV r.2.1, .int .i64 r.2.2]) ∧ LA w0 w' Z' sa r.1 ∧ Mv Z W Z' w'
theorem Mv.step {Z Z1 Z2 : Nat → Prop} {W W1 W2 : World} {H : Nat} (a : Mv Z W Z1 W1) (ht : Turn (fun b => Z1 b ∨ H ≤ b) W1 W2) (hn : ∀ b, Z2 b → Z1 b ∨ W1.heap.size ≤ b) (hH : W.heap.size ≤ H) : Mv Z W Z2 W2 :=
  ⟨a.t.trans ht (fun k hk => hk.elim (a.n k) fun h => .inr (Nat.le_trans hH h)), fun k hk => (hn k hk).elim (a.n k) fun h => .inr (Nat.le_trans a.t.size h)⟩
theorem bgb_mem {sa k : Nat} {j p x : Int} {ep : List Int} {e e' m m' ext : Int} (h7 : k ≠ 7) (h6 : k ≠ 6) : BgB sa j p x ep e m ext k = BgB sa j p x ep e' m' ext k := by
  unfold BgB; split <;> simp_all
theorem bgb_ext {sa k : Nat} {j p x : Int} {ep : List Int} {e e' m ext ext' : Int} (h7 : k ≠ 8) (h6 : k ≠ 6) : BgB sa j p x ep e m ext k = BgB sa j p x ep e' m ext' k := by
  unfold BgB; split <;> simp_all
theorem bgb_ep {sa k : Nat} {j p x : Int} {ep ep' : List Int} {e e' m ext : Int} (h7 : k ≠ 5) (h6 : k ≠ 6) : BgB sa j p x ep e m ext k = BgB sa j p x ep' e' m ext k := by
  unfold BgB; split <;> simp_all
theorem bgb_set {sa : Nat} {j p x : Int} {ep : List Int} {e e' m ext a : Int} (q : Nat) : BgB sa j p x (ep.set q a) e m ext 5 = (BgB sa j p x ep e' m ext 5).setIfInBounds q (.int .i64 a) := by
  show ((ep.set q a).map (Value.int .i64)).toArray = ((ep.map (Value.int .i64)).toArray).setIfInBounds q (.int .i64 a)
  rw [List.map_set]; simp
theorem bgb_at {sa : Nat} {j p x : Int} {ep : List Int} {e m ext : Int} {q : Nat} (h : q < ep.length) : (BgB sa j p x ep e m ext 5)[q]? = some (.int .i64 (ep.getD q 0)) := by
  show ((ep.map (Value.int .i64)).toArray)[q]? = _
  rw [List.getElem?_toArray, List.getElem?_map, List.getD, List.getElem?_eq_getElem h]; rfl
theorem i64_getD {l : List Int} (h : ∀ a ∈ l, I64 a) (i : Nat) : I64 (l.getD i 0) := by
  rw [List.getD]
  rcases hi : l[i]? with _ | a
  · exact ⟨by decide, by decide⟩
  · exact h a (List.mem_of_getElem? hi)
/-- Where Begin stands behind so many steps. -/
structure BgI (w0 W : World) (Z : Nat → Prop) (sa : Nat) (j p x : Int) (R : List ND × List Int × Int) (wr : World) (Zr : Nat → Prop) (ep : List Int) (mem ext : Int) : Prop where
  la : LA w0 wr Zr sa R.1
  mv : Mv Z W Zr wr
  bg : BgM wr Zr W.heap.size (BgB sa j p x ep R.2.2 mem ext)
  l11 : ep.length = 11
  i64 : R.2.2 = 0 → ∀ a ∈ R.2.1, I64 a
  ok : R.2.2 = 0 → ep = epL j R.2.1 ∧ mem = R.2.1.getD 0 0 ∧ ext = R.2.1.getD 10 0
section
variable {w0 W : World} {Z : Nat → Prop} {sa : Nat} {xs : List ND} {j p x : Int}
theorem BgI.next {R : List ND × List Int × Int} {wr w' : World} {Zr : Nat → Prop} {ep : List Int} {mem ext : Int} (h : BgI w0 W Z sa j p x R wr Zr ep mem ext) {f : List Int → List ND → Rs} {ep' : Int → List Int} {mem' ext' : Int → Int} {e : Ending}
    (hd : DoS w0 wr Zr sa W.heap.size j p x R f (fun _ => ep) ep' (fun _ => mem) mem' (fun _ => ext) ext' e w') (hsb : Sb (f R.2.1)) (hl : ∀ a, (ep' a).length = 11)
    (hs : R.2.2 = 0 → ∀ a, ep' a = epL j (R.2.1 ++ [a]) ∧ mem' a = (R.2.1 ++ [a]).getD 0 0 ∧ ext' a = (R.2.1 ++ [a]).getD 10 0) :
    e = .returned (.tuple #[]) ∧ ∃ Z' ep2 mem2 ext2, BgI w0 W Z sa j p x (rnS R f) w' Z' ep2 mem2 ext2 := by
  obtain ⟨he, Z', h1, h2, h3, h4, h5⟩ := hd
  refine ⟨he, Z', ?_⟩
  have hm := h.mv.step h2 h3 (Nat.le_refl _)
  by_cases h0 : R.2.2 = 0
  · have hb := h4 h0
    have e1 : rnS R f = (if (f R.2.1 R.1).2.2 = 0 then ((f R.2.1 R.1).1, R.2.1 ++ [(f R.2.1 R.1).2.1], 0) else ((f R.2.1 R.1).1, R.2.1, (f R.2.1 R.1).2.2)) := by unfold rnS; rw [if_pos h0]
    by_cases h6 : (f R.2.1 R.1).2.2 = 0
    · rw [if_pos h6] at e1
      rw [h6] at hb
      rw [e1] at h1 ⊢
      have hi : I64 (f R.2.1 R.1).2.1 := by
        have a := has_iff.1 (hsb.has R.1 h6)
        have b := h1.ar.ok.len
        try dsimp only at b
        exact ⟨by omega, by omega⟩
      refine ⟨ep' (f R.2.1 R.1).2.1, mem' (f R.2.1 R.1).2.1, ext' (f R.2.1 R.1).2.1, h1, hm, hb, hl _, fun _ a ha => ?_, fun _ => hs h0 _⟩
      rcases List.mem_append.1 ha with ha | ha
      · exact h.i64 h0 a ha
      · rw [List.mem_singleton] at ha; subst ha; exact hi
    · rw [if_neg h6] at e1
      rw [e1] at h1 ⊢
      exact ⟨ep' (f R.2.1 R.1).2.1, mem' (f R.2.1 R.1).2.1, ext' (f R.2.1 R.1).2.1, h1, hm, hb, hl _, fun h => absurd h h6, fun h => absurd h h6⟩
  · have e1 : rnS R f = R := by unfold rnS; rw [if_neg h0]
    rw [e1] at h1 ⊢
    exact ⟨ep, mem, ext, h1, hm, h5 h0, h.l11, fun h => absurd h h0, fun h => absurd h h0⟩
/-- The variables as they are made. -/
theorem bg_new (h : LA w0 W Z sa xs) : BgM (((((((((W.alloc (.cells #[.pointer (some ⟨sa, 0, none⟩)] 25)).alloc (.cells #[.int .i64 j] 3)).alloc (.cells #[.int .i64 p] 3)).alloc (.cells #[.int .i64 x] 3)).alloc (.cells #[.int .i64 0, .int .i64 0, .int .i64 0, .int .i64 0, .int .i64 0, .int .i64 0, .int .i64 0, .int .i64 0, .int .i64 0, .int .i64 0, .int .i64 0] 30)).alloc (.cells #[.int .i64 j, .int .i64 0, .int .i64 0, .int .i64 0, .int .i64 0, .int .i64 0, .int .i64 0, .int .i64 0, .int .i64 0, .int .i64 0, .int .i64 0] 30)).alloc (.cells #[.int .i64 0] 31)).alloc (.cells #[.int .i64 0] 3)).alloc (.cells #[.int .i64 0] 3)) Z W.heap.size (BgB sa j p x (epL j []) 0 0 0) := by
  refine ⟨fun k hk => ?_, fun k hk hz => by have := h.ar.zlt _ hz; omega⟩
  have : k = 0 ∨ k = 1 ∨ k = 2 ∨ k = 3 ∨ k = 4 ∨ k = 5 ∨ k = 6 ∨ k = 7 ∨ k = 8 := by omega
  rcases this with rfl | rfl | rfl | rfl | rfl | rfl | rfl | rfl | rfl
  all_goals
    simp only [World.alloc, Array.getElem?_push, Array.size_push]
    repeat (first | rw [if_neg (by omega)] | rw [if_pos (by omega)])
    rfl
end
end Go.Proofs.YtkgobglmkhkbbaaGreatDoor
