import Derived.Test.YtpkijlmkgomfeaaGreatDoorW11
import Derived.Test.YtpkijlmkgomfeaaGreatDoorW12
import Derived.Test.YtpkijlmkgomfeaaGreatDoorW09
import Derived.Test.YtpkijlmkgomfeaaGreatDoorW05
/- proposals: all of them asked; a tree copied. -/
namespace Go.Proofs.YtpkijlmkgomfeaaGreatDoor
open Go.RowKit Go.KK Go.Shelf Go.Maps
set_option linter.unusedVariables false
set_option linter.unusedSimpArgs false

set_option maxHeartbeats 1000000 in
theorem ix_pap (p : PR → Bool) {q1 q2 q3 : Value} (A : Option Addr) (n c : Nat) (t : List PR) (W : World) (hl : Pr W A n c t) (hn : n ≤ 2147483648)
    (hcl : ∀ W', Below W.heap.size W W' → ∀ x ∈ t, ∀ A2 c2, SlA W' 1 A2 x.n.u.length c2 (x.n.u.map (.int .i64)) → Calls Tryz.prog 40 #[prV x (.slice A2 x.n.u.length c2), q1, q2, q3] W' fun e w' => e = .returned (.bool (p x)) ∧ Below W'.heap.size W' w') :
    Calls Tryz.prog 104 #[.slice A n c, .func (.func 40) #[] #[q1, q2, q3]] W fun e w' => (∃ k : Int, e = .returned (.int .i64 k) ∧ decide (0 ≤ k) = t.any p) ∧ Below W.heap.size W w' := by
  have HS := hid hl; have HL := hid hl.len; have HCL := hid hcl
  clear hl hcl
  unfold prV at HCL
  go_enter Tryz.func104, Tryz.ntmps104
  go_wp2
  go_loopw [8] (fun i wr => ∃ j : Nat, i = .int .i64 j ∧ j ≤ n ∧ Hid (t.any p = (t.drop j).any p) ∧ Hid (Below W.heap.size W wr)) (fun i _ => n - (intOf i).toNat)
  case atStart => exact ⟨0, rfl, by omega, hid rfl, hid (Below.refl _ _)⟩
  case round =>
    obtain ⟨j, hi, hj, HJ, HB⟩ := hrel
    subst hi
    by_cases hlt : j < n
    · obtain ⟨b, o, x, A2, c2, rfl, hx, hsx, d0, d1, d2, d3, d4, d5, d6, d7, d8, d9⟩ := (HS.out.ext HB.out).at hlt
      have hlt' : (j : Int) < (n : Int) := by omega
      have HD := hid (any_step (p := p) hx)
      have HC := hid (HCL.out wr HB.out x (List.mem_of_getElem? hx) A2 c2 hsx)
      clear hx hsx
      rcases hh : p x with _ | _
      · have HF := hid (show t.any p = (t.drop (j + 1)).any p by rw [HJ.out, HD.out, hh]; rfl)
        rw [hh] at HC
        clear hh
        go_wp2_with (go_at_call 40; refine HC.out.mono ?_; rintro e w' ⟨rfl, hb⟩; have HB2 := hid (HB.out.trans (hb.mono HB.out.size)); clear hb)
        go_roundw
        case rel => exact ⟨j + 1, by go_num, by omega, HF, HB2⟩
        case measure => simp [intOf]; omega
      · have HF := hid (show t.any p = true by rw [HJ.out, HD.out, hh]; rfl)
        rw [hh] at HC
        clear hh
        go_wp2_with (go_at_call 40; refine HC.out.mono ?_; rintro e w' ⟨rfl, hb⟩; have HB2 := hid (HB.out.trans (hb.mono HB.out.size)); clear hb)
        go_ret
        exact ⟨⟨j, rfl, by rw [HF.out, decide_eq_true (by omega)]⟩, HB2.out⟩
    · have HF := hid (show t.any p = false by rw [HJ.out, List.drop_of_length_le (by have := HL.out; omega)]; rfl)
      go_wp2
      go_ret
      exact ⟨⟨-1, rfl, by rw [HF.out]; rfl⟩, HB.out⟩
theorem cf_pap (p : PR → Bool) {q1 q2 q3 : Value} (A : Option Addr) (n c : Nat) (t : List PR) (W : World) (hl : Pr W A n c t) (hn : n ≤ 2147483648)
    (hcl : ∀ W', Below W.heap.size W W' → ∀ x ∈ t, ∀ A2 c2, SlA W' 1 A2 x.n.u.length c2 (x.n.u.map (.int .i64)) → Calls Tryz.prog 40 #[prV x (.slice A2 x.n.u.length c2), q1, q2, q3] W' fun e w' => e = .returned (.bool (p x)) ∧ Below W'.heap.size W' w') :
    Calls Tryz.prog 39 #[.slice A n c, .func (.func 40) #[] #[q1, q2, q3]] W fun e w' => e = .returned (.bool (t.any p)) ∧ Below W.heap.size W w' := by
  have HX := hid (ix_pap p A n c t W hl hn hcl)
  clear hl hcl
  go_enter Tryz.func39, Tryz.ntmps39
  go_wp2_with fail
  refine HX.out.mono ?_
  rintro e w' ⟨⟨k, rfl, hk⟩, hw⟩
  have HK := hid hk; have HW := hid hw
  clear hk hw
  go_wp2
  go_ret
  exact ⟨by rw [← HK.out]; rfl, HW.out⟩
section
variable {W U : World} {sa : Nat} {X : List ND} {A : Option Addr} {n c : Nat} {xs : List TN} {y : Int} {ba bt bi : Nat}
/-- The closure that asks may. -/
theorem ap1_any (hA : ArV U 151 sa X) (ht : Tr U A n c xs) (hn : n ≤ 600) (ha : U.heap[ba]? = some (.cells #[.pointer (some ⟨sa, 0, none⟩)] 26 (0, 0))) (h5 : U.heap[bt]? = some (.cells #[.slice A n c] 22 (0, 0))) (h6 : U.heap[bi]? = some (.cells #[.int .i64 y] 3 (0, 0))) {p : PR} {Ap : Option Addr} {cp : Nat} (hs : SlA U 1 Ap p.n.u.length cp (p.n.u.map (.int .i64))) (hu : p.n.u.length ≤ 2147483648) (hp : PrI p) :
    Calls Tryz.prog 40 #[prV p (.slice Ap p.n.u.length cp), .pointer (some ⟨ba, 0, none⟩), .pointer (some ⟨bt, 0, none⟩), .pointer (some ⟨bi, 0, none⟩)] U fun e w' => e = .returned (.bool (!paM X xs y p)) ∧ Below U.heap.size U w' := by
  have b1 : Below U.heap.size U (U.alloc (prO p (.slice Ap p.n.u.length cp))) := (Below.refl _ _).alloc (Nat.le_refl _) _
  have HP := hid (And.intro b1 (heap_alloc_new U (prO p (.slice Ap p.n.u.length cp))))
  have HM := hid (fun (V : World) (hV : Below U.heap.size U V) => pmay_any (y := y) (p := p) (Ap := Ap) (cp := cp) (hA.ext hV) (ht.ext hV) hn (hs.ext hV) hu hp)
  have HA := hid ha; have H5 := hid h5; have H6 := hid h6
  obtain ⟨r, hr⟩ : ∃ r, r = paM X xs y p := ⟨_, rfl⟩
  rw [← hr] at HM ⊢
  clear hA ht ha h5 h6 hs hu hp b1 hr
  unfold prV at *
  unfold prO at HP
  go_enter Tryz.func40, Tryz.ntmps40
  go_upto_region 1 with fail
  obtain ⟨bx, hbx⟩ : ∃ bx, bx = U.heap.size := ⟨_, rfl⟩
  rw [← hbx] at HP ⊢
  refine forget (R := fun V => Below bx U V ∧ V.heap[bx]? = some (prO p (.slice Ap p.n.u.length cp))) ?_ HP.out
  clear HP
  rintro V ⟨bv, hx⟩
  rw [hbx] at bv
  have B1 := hid bv
  have lt : ∀ {b : Nat} {o : Obj}, U.heap[b]? = some o → b < U.heap.size := fun h => (Array.getElem?_eq_some_iff.1 h).1
  have a0 : V.cell? ⟨ba, 0, none⟩ = some (.pointer (some ⟨sa, 0, none⟩)) := by rw [cell_of_row V ba 0 _ _ (0, 0) ((bv.block _ (lt HA.out)).trans HA.out)]; rfl
  have t0 : V.cell? ⟨bt, 0, none⟩ = some (.slice A n c) := by rw [cell_of_row V bt 0 _ _ (0, 0) ((bv.block _ (lt H5.out)).trans H5.out)]; rfl
  have i0 : V.cell? ⟨bi, 0, none⟩ = some (.int .i64 y) := by rw [cell_of_row V bi 0 _ _ (0, 0) ((bv.block _ (lt H6.out)).trans H6.out)]; rfl
  have HC := hid (HM.out V bv)
  obtain ⟨x0, x1, x2, x3, x4, x5, x6, x7, x8, x9⟩ := prA10 hx
  clear bv hx hbx HM lt
  go_wp2_with fail
  refine HC.out.mono ?_
  rintro e w2 ⟨rfl, b2⟩
  have B2 := hid (B1.out.trans (b2.mono B1.out.size))
  clear b2 HC
  go_wp2_with fail
  go_ret
  exact ⟨rfl, B2.out⟩
/-- A tree that may be, with no change, is a copy. -/
theorem rap_any (h : Tr W A n c xs) (hn : n ≤ 600) (hT : Tab W) (hu : Shorts xs) (hc : chkB xs = true) :
    Calls Tryz.prog 43 #[.slice A n c, .slice none 0 0] W fun e w' => ∃ v, e = .returned (.tuple #[v, .int .i64 0]) ∧ OwT w' W.heap.size v xs ∧ Below W.heap.size W w' := by
  have hl := h.len
  obtain ⟨b0, o0, rfl⟩ := chk_at0 h hc
  have HC := hid (chk_any _ n c xs W h hn hT hu)
  unfold chkE at HC
  rw [hc, if_pos rfl] at HC
  have HCP := hid (fun (V : World) (hV : Below W.heap.size W V) => copied_any b0 o0 n c xs V (h.ext hV) hn hu (chk_bare hc))
  have HL := hid hl
  clear h hT hu hc hl
  go_enter Tryz.func43, Tryz.ntmps43
  go_wp2_with fail
  refine HC.out.mono ?_
  rintro e w1 ⟨rfl, b1⟩
  have B1 := hid b1
  have HCV := hid (HCP.out w1 b1)
  clear b1 HC HCP
  go_wp2_with fail
  refine HCV.out.mono ?_
  rintro e w2 ⟨g, cap, qs, rfl, t2, b2⟩
  have B2 := hid (B1.out.trans (b2.mono B1.out.size))
  have T2 := hid (show OwT w2 W.heap.size (.slice (some ⟨g, 0, none⟩) n cap) xs from .inr ⟨g, cap, qs, by rw [HL.out], t2.mono B1.out.size⟩)
  clear b2 t2 HCV
  go_wp2_with fail
  go_loopw [18, 6] (fun i v wr => i = .int .i64 0 ∧ v = .slice (some ⟨g, 0, none⟩) n cap ∧ wr = w2) (fun i _ _ => 0)
  case atStart => exact ⟨rfl, rfl, rfl⟩
  case round =>
    obtain ⟨hi, hv, hwr⟩ := hrel
    subst hi; subst hwr; subst hv
    go_wp2_with fail
    go_ret2
    exact ⟨_, rfl, T2.out, B2.out⟩
end
end Go.Proofs.YtpkijlmkgomfeaaGreatDoor

/- proposal.Apply. -/
namespace Go.Proofs.YtpkijlmkgomfeaaGreatDoor
open Go.RowKit Go.KK Go.Shelf Go.Maps
set_option linter.unusedVariables false
set_option linter.unusedSimpArgs false

/-! what is in the tree -/
def TsJ (xs : List TN) : Prop := ∀ (j : Nat) x, xs[j]? = some x → TnJ x
theorem tnJ0 : TnJ zeroN := by unfold TnJ zeroN I64; dsimp only; omega
theorem TsJ.set {xs : List TN} (h : TsJ xs) (j : Nat) {y : TN} (hy : TnJ y) : TsJ (xs.set j y) := by
  intro k x hx
  rcases set_get hx with ⟨rfl, rfl⟩ | ⟨_, hx'⟩
  · exact hy
  · exact h k x hx'
theorem TsJ.all {f : TN → TN} (hf : ∀ x : TN, TnJ x → TnJ (f x)) : ∀ (l : List Int) (xs : List TN), TsJ xs → TsJ (updAll f xs l)
  | [], _, h => h
  | y :: l, xs, h => by
    rw [updAll]
    refine TsJ.all hf l _ fun k x hx => ?_
    rcases upd_get hx with ⟨_, z, hz, rfl⟩ | ⟨_, hx'⟩
    · exact hf _ (h _ _ hz)
    · exact h _ _ hx'
theorem TsJ.take {xs : List TN} (h : TsJ xs) (p : Nat) : TsJ (xs.take p) := by
  intro j x hx
  rw [List.getElem?_take] at hx
  split at hx
  · exact h j x hx
  · cases hx
theorem TsJ.nil : TsJ [] := fun j x hx => by simp at hx
theorem TsJ.chg {xs : List TN} {i : Int} {l : TN} (h : TsJ xs) (hl : TnJ l) : TsJ (chgL xs i l) := TsJ.all (fun x _ => tnJ0) _ _ (h.set _ hl)
theorem TsJ.add {xs : List TN} {l : TN} (h : TsJ xs) (hl : TnJ l) : TsJ (addL xs l) := by
  refine TsJ.all (fun x hx => ?_) _ _ (TsJ.set ?_ _ hl)
  · unfold addN
    split
    · exact hx
    · exact hx
  · unfold growL
    split
    · intro j x hx
      by_cases hj : j < xs.length
      · rw [List.getElem?_append_left hj] at hx; exact h j x hx
      · rw [List.getElem?_append_right (by omega), List.getElem?_replicate] at hx
        split at hx
        · injection hx with hx; subst hx; exact tnJ0
        · cases hx
    · exact h
theorem paDo_J {k : Int} {a : PA} {p : PR} (h : TsJ a.t) (hp : PrI p) : TsJ (paDo k a p).1.t := by
  have hl : TnJ p.n := ⟨hp.2.2.1.1, hp.2.2.1.2.1, hp.2.2.1.2.2.1⟩
  unfold paDo
  split
  · show TsJ (up2T a.t p.f p.n)
    unfold up2T
    split
    · exact h.chg hl
    · exact TsJ.nil
  split
  · show TsJ (rm2T a.t p.a)
    unfold rm2T
    split
    · rcases ho : remO a.t p.a with _ | ys
      · exact TsJ.nil
      · obtain ⟨q, rfl⟩ := cut_is _ _ _ ho
        exact (h.chg tnJ0).take q
    · exact TsJ.nil
  split
  · show TsJ (ad2T a.t p.n)
    unfold ad2T
    split
    · exact h.add hl
    · exact TsJ.nil
  split
  · exact h
  · exact h
theorem paE_J {k : Int} : ∀ (l : List PR) (a : PA), TsJ a.t → (∀ p ∈ l, PrI p) → TsJ (paE k l a).1.t
  | [], a, h, _ => h
  | p :: l, a, h, hp => by
    rw [paE_cons]
    split
    · split
      · exact paE_J l _ (paDo_J h (hp p (List.mem_cons_self ..))) fun q hq => hp q (List.mem_cons_of_mem _ hq)
      · exact paDo_J h (hp p (List.mem_cons_self ..))
    · exact paE_J l a h fun q hq => hp q (List.mem_cons_of_mem _ hq)
theorem paA_J {l : List PR} (hp : ∀ p ∈ l, PrI p) : ∀ (ks : List Int) (a : PA × Int), TsJ a.1.t → TsJ (paA l ks a).1.t
  | [], _, h => h
  | k :: ks, a, h => by
    rw [paA]
    refine paA_J hp ks _ ?_
    split
    · exact paE_J l a.1 h hp
    · exact h
def SlV (V : World) (v : Value) (l : List Int) : Prop := ∃ A c, v = .slice A l.length c ∧ SlA V 1 A l.length c (l.map (.int .i64))
/-- What Apply leaves. -/
def ApR (W : World) (r : PA × Int) (e : Ending) (w' : World) : Prop := ∃ vt vf vg vp, e = .returned (.tuple #[.agg #[vt, vf, vg, vp, .int .i64 r.1.x, .bool r.1.hx], .int .i64 r.2]) ∧ TrV w' vt r.1.t ∧ SlV w' vf r.1.fr ∧ SlV w' vg r.1.go ∧ SlV w' vp r.1.ps ∧ Below W.heap.size W w'
theorem apR_no {W w' : World} {e : Int} (hb : Below W.heap.size W w') : ApR W (pa0, e) (.returned (.tuple #[.agg #[.slice none 0 0, .slice none 0 0, .slice none 0 0, .slice none 0 0, .int .i64 0, .bool false], .int .i64 e])) w' :=
  ⟨_, _, _, _, rfl, ⟨none, 0, rfl, Tr.nil _⟩, ⟨none, 0, rfl, SlA.nil _ _⟩, ⟨none, 0, rfl, SlA.nil _ _⟩, ⟨none, 0, rfl, SlA.nil _ _⟩, hb⟩
/-- The boxes of Apply. -/
structure ApB (W V : World) (sa : Nat) (A : Option Addr) (n c : Nat) (y : Int) (ba bt bi rb : Nat) : Prop where
  bl : Below W.heap.size W V
  ha : V.heap[ba]? = some (.cells #[.pointer (some ⟨sa, 0, none⟩)] 26 (0, 0))
  ht : V.heap[bt]? = some (.cells #[.slice A n c] 22 (0, 0))
  hi : V.heap[bi]? = some (.cells #[.int .i64 y] 3 (0, 0))
  hr : V.heap[rb]? = some (apO (.slice none 0 0) (.slice none 0 0) (.slice none 0 0) (.slice none 0 0) 0 false)
  lo : W.heap.size ≤ rb
section
variable {W V V' : World} {sa : Nat} {X : List ND} {A : Option Addr} {n c : Nat} {xs : List TN} {y : Int} {ba bt bi rb : Nat}
theorem ApB.ext (h : ApB W V sa A n c y ba bt bi rb) (hb : Below V.heap.size V V') : ApB W V' sa A n c y ba bt bi rb := by
  have lt : ∀ {b : Nat} {o : Obj}, V.heap[b]? = some o → b < V.heap.size := fun h => (Array.getElem?_eq_some_iff.1 h).1
  exact ⟨h.bl.trans (hb.mono h.bl.size), (hb.block _ (lt h.ha)).trans h.ha, (hb.block _ (lt h.ht)).trans h.ht, (hb.block _ (lt h.hi)).trans h.hi, (hb.block _ (lt h.hr)).trans h.hr, h.lo⟩
theorem ApB.a0 (h : ApB W V sa A n c y ba bt bi rb) : V.cell? ⟨ba, 0, none⟩ = some (.pointer (some ⟨sa, 0, none⟩)) := by rw [cell_of_row _ ba _ _ _ (0, 0) h.ha]; rfl
theorem ApB.t0 (h : ApB W V sa A n c y ba bt bi rb) : V.cell? ⟨bt, 0, none⟩ = some (.slice A n c) := by rw [cell_of_row _ bt _ _ _ (0, 0) h.ht]; rfl
theorem ApB.i0 (h : ApB W V sa A n c y ba bt bi rb) : V.cell? ⟨bi, 0, none⟩ = some (.int .i64 y) := by rw [cell_of_row _ bi _ _ _ (0, 0) h.hi]; rfl
theorem apb_start : ApB W ((((W.alloc (.cells #[.pointer (some ⟨sa, 0, none⟩)] 26)).alloc (.cells #[.slice A n c] 22)).alloc (.cells #[.int .i64 y] 3)).alloc (apO (.slice none 0 0) (.slice none 0 0) (.slice none 0 0) (.slice none 0 0) 0 false)) sa A n c y W.heap.size (W.heap.size + 1) (W.heap.size + 2) (W.heap.size + 3) := by
  have n1 := heap_alloc_new (W.alloc (.cells #[.pointer (some ⟨sa, 0, none⟩)] 26)) (.cells #[.slice A n c] 22)
  have n2 := heap_alloc_new ((W.alloc (.cells #[.pointer (some ⟨sa, 0, none⟩)] 26)).alloc (.cells #[.slice A n c] 22)) (.cells #[.int .i64 y] 3)
  have n3 := heap_alloc_new (((W.alloc (.cells #[.pointer (some ⟨sa, 0, none⟩)] 26)).alloc (.cells #[.slice A n c] 22)).alloc (.cells #[.int .i64 y] 3)) (apO (.slice none 0 0) (.slice none 0 0) (.slice none 0 0) (.slice none 0 0) 0 false)
  simp only [size_al, Nat.add_assoc, Nat.reduceAdd] at n1 n2 n3
  refine ⟨?_, ?_, ?_, ?_, n3, by omega⟩
  · exact ((((Below.refl _ _).alloc (Nat.le_refl _) _).alloc (by simp only [size_al]; omega) _).alloc (by simp only [size_al]; omega) _).alloc (by simp only [size_al]; omega) _
  · exact (heap_alloc_old _ _ (by simp only [size_al]; omega)).trans ((heap_alloc_old _ _ (by simp only [size_al]; omega)).trans ((heap_alloc_old _ _ (by simp only [size_al]; omega)).trans (heap_alloc_new W _)))
  · exact (heap_alloc_old _ _ (by simp only [size_al]; omega)).trans ((heap_alloc_old _ _ (by simp only [size_al]; omega)).trans n1)
  · exact (heap_alloc_old _ _ (by simp only [size_al]; omega)).trans n2
/-- The result's box is written. -/
def rbW (V : World) (rb : Nat) (v0 v1 v2 v3 : Value) (x : Int) (hx : Bool) : World :=
  (((((V.setCell ⟨rb, 0, none⟩ v0).setCell ⟨rb, 1, none⟩ v1).setCell ⟨rb, 2, none⟩ v2).setCell ⟨rb, 3, none⟩ v3).setCell ⟨rb, 4, none⟩ (.int .i64 x)).setCell ⟨rb, 5, none⟩ (.bool hx)
theorem put_c {V : World} {b o : Nat} {cs : Array Value} {T : TypeId} {v : Value} (h : V.heap[b]? = some (.cells cs T (0, 0))) : (V.setCell ⟨b, o, none⟩ v).heap[b]? = some (.cells (cs.setIfInBounds o v) T (0, 0)) := by rw [heap_setCell_same V b o _ _ _ h]
theorem rbW_o {V : World} {rb : Nat} {u0 u1 u2 u3 v0 v1 v2 v3 : Value} {x x' : Int} {hx hx' : Bool} (h : V.heap[rb]? = some (apO u0 u1 u2 u3 x' hx')) : (rbW V rb v0 v1 v2 v3 x hx).heap[rb]? = some (apO v0 v1 v2 v3 x hx) :=
  put_c (o := 5) (put_c (o := 4) (put_c (o := 3) (put_c (o := 2) (put_c (o := 1) (put_c (o := 0) h)))))
theorem rbW_b {W V : World} {rb : Nat} {v0 v1 v2 v3 : Value} {x : Int} {hx : Bool} (h : Below W.heap.size W V) (hl : W.heap.size ≤ rb) : Below W.heap.size W (rbW V rb v0 v1 v2 v3 x hx) :=
  (((((h.setCell (p := ⟨rb, 0, none⟩) hl _).setCell (p := ⟨rb, 1, none⟩) hl _).setCell (p := ⟨rb, 2, none⟩) hl _).setCell (p := ⟨rb, 3, none⟩) hl _).setCell (p := ⟨rb, 4, none⟩) hl _).setCell (p := ⟨rb, 5, none⟩) hl _
theorem rbW_k {V : World} {rb b : Nat} {v0 v1 v2 v3 : Value} {x : Int} {hx : Bool} (hne : b ≠ rb) : (rbW V rb v0 v1 v2 v3 x hx).heap[b]? = V.heap[b]? := by
  have go : ∀ (U : World) (o : Nat) (v : Value), (U.setCell ⟨rb, o, none⟩ v).heap[b]? = U.heap[b]? := fun U o v => Below.heap_setCell U ⟨rb, o, none⟩ v b (fun e => hne (by simpa using e))
  unfold rbW
  rw [go, go, go, go, go, go]
theorem ApS.begin {W0 U w6 : World} (h : Below W0.heap.size W0 U) {bo st K : Nat} {v : Value} {ts : List TN} (hb : U.heap[bo]? = some (apO v (.slice none 0 0) (.slice none 0 0) (.slice none 0 0) 0 false)) (hl : W0.heap.size ≤ bo) (ht : OwT w6 st v ts) (hs : bo < st) (hk : ∀ b, st ≤ b → b < w6.heap.size → U.heap[b]? = w6.heap[b]?) (hz : w6.heap.size ≤ U.heap.size) (hn : ts.length ≤ 511) (hu : shU K ts) : ApS W0 U U bo ⟨ts, [], [], [], 0, false⟩ K := by
  refine ⟨h, fun b _ _ => rfl, ⟨h.size, Nat.le_refl _⟩, hl, hn, hu, by simp, v, .slice none 0 0, .slice none 0 0, .slice none 0 0, hb, World.ownsRow_nil _ _ _ _, World.ownsRow_nil _ _ _ _, World.ownsRow_nil _ _ _ _, ⟨fun b e => (by cases e), fun b e => (by cases e), fun b e => (by cases e)⟩, ⟨fun b => st ≤ b ∧ b < w6.heap.size, fun b hb => ⟨?_, by omega⟩, fun V hv => ht.fx V fun b h1 h2 => (hv b ⟨h1, h2⟩).trans (hk b h1 h2)⟩⟩
  rintro (e | e | e | e)
  · omega
  · cases e
  · cases e
  · cases e
theorem all_any9 {α : Type} (l : List α) (f : α → Bool) : (l.any fun q => !f q) = !l.all f := by
  induction l with
  | nil => rfl
  | cons x l ih => rw [List.any_cons, List.all_cons, ih, Bool.not_and]
/-- The steps, laid. -/
def stO (bo : Nat) : Array Value := #[.int .i64 2, .func (.func 44) #[] #[.pointer (some ⟨bo, 0, none⟩)], .int .i64 3, .func (.func 46) #[] #[.pointer (some ⟨bo, 0, none⟩)], .int .i64 1, .func (.func 48) #[] #[.pointer (some ⟨bo, 0, none⟩)], .int .i64 4, .func (.func 50) #[] #[.pointer (some ⟨bo, 0, none⟩)], .int .i64 5, .func (.func 51) #[] #[.pointer (some ⟨bo, 0, none⟩)]]
set_option maxHeartbeats 8000000 in
set_option maxRecDepth 100000 in
theorem papply_any (hA : ArV W 151 sa X) (ht : Tr W A n c xs) (hn : n ≤ 600) {K : Nat} (hs : shU K xs) (hK : K ≤ 1000) (hT : ∀ V, Below W.heap.size W V → Tab V) (hi : TsJ xs)
    {B : Option Addr} {m d : Nat} {l : List PR} (hP : Pr W B m d l) (hm : m ≤ 200) (hpi : ∀ p ∈ l, PrI p) (hlu : ∀ p ∈ l, p.n.u.length ≤ 2147483648) :
    Calls Tryz.prog 11 #[.pointer (some ⟨sa, 0, none⟩), .slice A n c, .int .i64 y, .slice B m d] W (ApR W (paR X xs y l)) := by
  have HA := hid hA; have HTR := hid ht; have HSU := hid hs; have HT := hid hT; have HI := hid hi; have HPR := hid hP; have HPI := hid hpi; have HLU := hid hlu
  have HP := hid (apb_start (W := W) (sa := sa) (A := A) (n := n) (c := c) (y := y))
  obtain ⟨r, hr⟩ : ∃ r, r = paR X xs y l := ⟨_, rfl⟩
  have HR := hid hr
  rw [← hr]
  clear hA ht hs hT hi hP hpi hlu hr
  have hmm := @run_makeMap Tryz.prog
  unfold apO at HP
  go_enter Tryz.func11, Tryz.ntmps11
  go_upto_region 1 with fail
  try simp only [Nat.add_assoc, Nat.reduceAdd]
  obtain ⟨ba, hba⟩ : ∃ b, b = W.heap.size := ⟨_, rfl⟩
  obtain ⟨bt, hbt⟩ : ∃ b, b = W.heap.size + 1 := ⟨_, rfl⟩
  obtain ⟨bi, hbi⟩ : ∃ b, b = W.heap.size + 2 := ⟨_, rfl⟩
  obtain ⟨rb, hrb⟩ : ∃ b, b = W.heap.size + 3 := ⟨_, rfl⟩
  rw [← hrb, ← hbi, ← hbt, ← hba] at HP ⊢
  clear hrb hbi hbt hba
  refine forget (R := fun V => ApB W V sa A n c y ba bt bi rb) ?_ HP.out
  clear HP
  intro V hv
  have HV := hid hv
  have HG := hid (goes_any (HA.out.ext hv.bl) (fun U hU => HT.out U (hv.bl.trans (hU.mono hv.bl.size))) (HTR.out.ext hv.bl) hn (HSU.out.shorts (by omega)))
  have a0 := hv.a0; have t0 := hv.t0; have i0 := hv.i0
  clear hv
  rcases hg : paG X xs with _ | _
  · have HE := hid (show r = (pa0, 1) from by rw [HR.out]; unfold paR; rw [hg]; rfl)
    rw [hg] at HG
    clear hg
    go_wp2_with fail
    refine HG.out.mono ?_
    rintro e w2 ⟨rfl, b2⟩
    have H2 := hid (HV.out.ext b2)
    have fz := fun i => frozen_of_row w2 rb i _ _ H2.out.hr
    have f0 := fz 0; have f1 := fz 1; have f2 := fz 2; have f3 := fz 3; have f4 := fz 4; have f5 := fz 5
    obtain ⟨k0, k1, k2, k3, k4, k5⟩ := ap6 H2.out.hr
    clear b2 HG fz
    go_wp2_with fail
    change bodyPost _ _ _ _ _ (rbW w2 rb (.slice none 0 0) (.slice none 0 0) (.slice none 0 0) (.slice none 0 0) 0 false)
    have HZ := hid (show Below W.heap.size W (rbW w2 rb (.slice none 0 0) (.slice none 0 0) (.slice none 0 0) (.slice none 0 0) 0 false) from rbW_b H2.out.bl H2.out.lo)
    have hz := rbW_o (v0 := .slice none 0 0) (v1 := .slice none 0 0) (v2 := .slice none 0 0) (v3 := .slice none 0 0) (x := 0) (hx := false) H2.out.hr
    generalize rbW w2 rb (.slice none 0 0) (.slice none 0 0) (.slice none 0 0) (.slice none 0 0) 0 false = W9 at *
    clear k0 k1 k2 k3 k4 k5
    obtain ⟨k0, k1, k2, k3, k4, k5⟩ := ap6 hz
    clear hz
    refine bodyPost_ret (v := .tuple #[.agg #[.slice none 0 0, .slice none 0 0, .slice none 0 0, .slice none 0 0, .int .i64 0, .bool false], .int .i64 1]) ?_ rfl (by rw [HE.out]; exact apR_no HZ.out)
    rw [results_cell_tmp rfl]
    go_simp
  rw [hg] at HG
  have HGC := hid hg
  go_wp2_with fail
  refine HG.out.mono ?_
  rintro e w2 ⟨rfl, b2⟩
  have H2 := hid (HV.out.ext b2)
  have HM := hid (pmember_any (HTR.out.ext H2.out.bl) hn y)
  clear b2 HG a0 t0 i0 HV hg
  have t0 := H2.out.t0; have i0 := H2.out.i0
  rcases hm1 : pres xs y with _ | _
  · have HE := hid (show r = (pa0, 1) from by rw [HR.out]; unfold paR; rw [hm1, Bool.and_false]; rfl)
    rw [hm1] at HM
    clear hm1
    go_wp2_with fail
    refine HM.out.mono ?_
    rintro e w3 ⟨rfl, b3⟩
    have b3' := b3.symm
    clear b3
    subst b3'
    clear HM
    have fz := fun i => frozen_of_row w2 rb i _ _ H2.out.hr
    have f0 := fz 0; have f1 := fz 1; have f2 := fz 2; have f3 := fz 3; have f4 := fz 4; have f5 := fz 5
    obtain ⟨k0, k1, k2, k3, k4, k5⟩ := ap6 H2.out.hr
    clear fz
    go_wp2_with fail
    change bodyPost _ _ _ _ _ (rbW w2 rb (.slice none 0 0) (.slice none 0 0) (.slice none 0 0) (.slice none 0 0) 0 false)
    have HZ := hid (show Below W.heap.size W (rbW w2 rb (.slice none 0 0) (.slice none 0 0) (.slice none 0 0) (.slice none 0 0) 0 false) from rbW_b H2.out.bl H2.out.lo)
    have hz := rbW_o (v0 := .slice none 0 0) (v1 := .slice none 0 0) (v2 := .slice none 0 0) (v3 := .slice none 0 0) (x := 0) (hx := false) H2.out.hr
    generalize rbW w2 rb (.slice none 0 0) (.slice none 0 0) (.slice none 0 0) (.slice none 0 0) 0 false = W9 at *
    clear k0 k1 k2 k3 k4 k5
    obtain ⟨k0, k1, k2, k3, k4, k5⟩ := ap6 hz
    clear hz
    refine bodyPost_ret (v := .tuple #[.agg #[.slice none 0 0, .slice none 0 0, .slice none 0 0, .slice none 0 0, .int .i64 0, .bool false], .int .i64 1]) ?_ rfl (by rw [HE.out]; exact apR_no HZ.out)
    rw [results_cell_tmp rfl]
    go_simp
  rw [hm1] at HM
  have HR1 := hid (show r = (if l.all (paM X xs y) && paT l then (if (paZ xs l).2 = 0 then (if paD (paZ xs l).1.t then ((paZ xs l).1, 0) else (pa0, 70)) else (pa0, (paZ xs l).2)) else (pa0, 70)) from by rw [HR.out]; unfold paR; rw [HGC.out, hm1]; rfl)
  clear hm1 HR
  have HCF := hid (cf_pap (fun q => !paM X xs y q) (q1 := .pointer (some ⟨ba, 0, none⟩)) (q2 := .pointer (some ⟨bt, 0, none⟩)) (q3 := .pointer (some ⟨bi, 0, none⟩)) B m d l w2 (HPR.out.ext H2.out.bl) (by omega) fun U hU q hq A2 c2 hs2 =>
    ap1_any (HA.out.ext (H2.out.ext hU).bl) (HTR.out.ext (H2.out.ext hU).bl) hn (H2.out.ext hU).ha (H2.out.ext hU).ht (H2.out.ext hU).hi hs2 (HLU.out q hq) (HPI.out q hq))
  go_wp2_with fail
  refine HM.out.mono ?_
  rintro e w3 ⟨rfl, b3⟩
  have b3' := b3.symm
  clear b3
  subst b3'
  clear HM t0 i0
  rcases hmy : l.all (paM X xs y) with _ | _
  · have HE := hid (show r = (pa0, 70) from by rw [HR1.out, hmy]; rfl)
    rw [all_any9, hmy] at HCF
    clear hmy
    go_wp2_with fail
    refine HCF.out.mono ?_
    rintro e w4 ⟨rfl, b4⟩
    have H4 := hid (H2.out.ext b4)
    clear b4 HCF
    have fz := fun i => frozen_of_row w4 rb i _ _ H4.out.hr
    have f0 := fz 0; have f1 := fz 1; have f2 := fz 2; have f3 := fz 3; have f4 := fz 4; have f5 := fz 5
    obtain ⟨k0, k1, k2, k3, k4, k5⟩ := ap6 H4.out.hr
    clear fz
    go_wp2_with fail
    change bodyPost _ _ _ _ _ (rbW w4 rb (.slice none 0 0) (.slice none 0 0) (.slice none 0 0) (.slice none 0 0) 0 false)
    have HZ := hid (show Below W.heap.size W (rbW w4 rb (.slice none 0 0) (.slice none 0 0) (.slice none 0 0) (.slice none 0 0) 0 false) from rbW_b H4.out.bl H4.out.lo)
    have hz := rbW_o (v0 := .slice none 0 0) (v1 := .slice none 0 0) (v2 := .slice none 0 0) (v3 := .slice none 0 0) (x := 0) (hx := false) H4.out.hr
    generalize rbW w4 rb (.slice none 0 0) (.slice none 0 0) (.slice none 0 0) (.slice none 0 0) 0 false = W9 at *
    clear k0 k1 k2 k3 k4 k5
    obtain ⟨k0, k1, k2, k3, k4, k5⟩ := ap6 hz
    clear hz
    refine bodyPost_ret (v := .tuple #[.agg #[.slice none 0 0, .slice none 0 0, .slice none 0 0, .slice none 0 0, .int .i64 0, .bool false], .int .i64 70]) ?_ rfl (by rw [HE.out]; exact apR_no HZ.out)
    rw [results_cell_tmp rfl]
    go_simp
  rw [all_any9, hmy] at HCF
  have HR2 := hid (show r = (if paT l then (if (paZ xs l).2 = 0 then (if paD (paZ xs l).1.t then ((paZ xs l).1, 0) else (pa0, 70)) else (pa0, (paZ xs l).2)) else (pa0, 70)) from by rw [HR1.out, hmy, Bool.true_and])
  clear hmy HR1
  go_wp2_with fail
  refine HCF.out.mono ?_
  rintro e w4 ⟨rfl, b4⟩
  have H4 := hid (H2.out.ext b4)
  have HTG := hid (together_any (HPR.out.ext H4.out.bl) (by omega) HPI.out)
  clear b4 HCF H2
  rcases htg : paT l with _ | _
  · have HE := hid (show r = (pa0, 70) from by rw [HR2.out, htg]; rfl)
    rw [htg] at HTG
    clear htg
    go_wp2_with fail
    refine HTG.out.mono ?_
    rintro e w5 ⟨rfl, b5⟩
    have H5 := hid (H4.out.ext b5)
    clear b5 HTG
    have fz := fun i => frozen_of_row w5 rb i _ _ H5.out.hr
    have f0 := fz 0; have f1 := fz 1; have f2 := fz 2; have f3 := fz 3; have f4 := fz 4; have f5 := fz 5
    obtain ⟨k0, k1, k2, k3, k4, k5⟩ := ap6 H5.out.hr
    clear fz
    go_wp2_with fail
    change bodyPost _ _ _ _ _ (rbW w5 rb (.slice none 0 0) (.slice none 0 0) (.slice none 0 0) (.slice none 0 0) 0 false)
    have HZ := hid (show Below W.heap.size W (rbW w5 rb (.slice none 0 0) (.slice none 0 0) (.slice none 0 0) (.slice none 0 0) 0 false) from rbW_b H5.out.bl H5.out.lo)
    have hz := rbW_o (v0 := .slice none 0 0) (v1 := .slice none 0 0) (v2 := .slice none 0 0) (v3 := .slice none 0 0) (x := 0) (hx := false) H5.out.hr
    generalize rbW w5 rb (.slice none 0 0) (.slice none 0 0) (.slice none 0 0) (.slice none 0 0) 0 false = W9 at *
    clear k0 k1 k2 k3 k4 k5
    obtain ⟨k0, k1, k2, k3, k4, k5⟩ := ap6 hz
    clear hz
    refine bodyPost_ret (v := .tuple #[.agg #[.slice none 0 0, .slice none 0 0, .slice none 0 0, .slice none 0 0, .int .i64 0, .bool false], .int .i64 70]) ?_ rfl (by rw [HE.out]; exact apR_no HZ.out)
    rw [results_cell_tmp rfl]
    go_simp
  rw [htg] at HTG
  have HR3 := hid (show r = (if (paZ xs l).2 = 0 then (if paD (paZ xs l).1.t then ((paZ xs l).1, 0) else (pa0, 70)) else (pa0, (paZ xs l).2)) from by rw [HR2.out, htg]; rfl)
  clear htg HR2
  go_wp2_with fail
  refine HTG.out.mono ?_
  rintro e w5 ⟨rfl, b5⟩
  have H5 := hid (H4.out.ext b5)
  clear b5 HTG H4
  go_upto_region 6 with fail
  have HP := hid (And.intro ((Below.refl w5.heap.size w5).alloc (Nat.le_refl _) (apO (.slice none 0 0) (.slice none 0 0) (.slice none 0 0) (.slice none 0 0) 0 false)) (heap_alloc_new w5 (apO (.slice none 0 0) (.slice none 0 0) (.slice none 0 0) (.slice none 0 0) 0 false)))
  unfold apO at HP
  obtain ⟨bo, hbo⟩ : ∃ bo, bo = w5.heap.size := ⟨_, rfl⟩
  rw [← hbo] at HP ⊢
  refine forget (R := fun V => Below bo w5 V ∧ V.heap[bo]? = some (apO (.slice none 0 0) (.slice none 0 0) (.slice none 0 0) (.slice none 0 0) 0 false)) ?_ HP.out
  clear HP
  rintro V6 ⟨bv, ho⟩
  have HBO := hid hbo
  rw [hbo] at bv
  have H6 := hid (H5.out.ext bv)
  have HBV := hid bv
  have hc := HGC.out
  unfold paG at hc
  simp only [Bool.and_eq_true] at hc
  have HCK := hid hc.1
  have HRA := hid (rap_any (HTR.out.ext H6.out.bl) hn (HT.out V6 H6.out.bl) (HSU.out.shorts (by omega)) hc.1)
  have HOV := hid ho
  have t0 := H6.out.t0
  clear bv ho hbo hc
  go_wp2_with fail
  refine HRA.out.mono ?_
  rintro e w6 ⟨v, rfl, ot, b6⟩
  have HO6 := hid ((b6.block bo (Array.getElem?_eq_some_iff.1 HOV.out).1).trans HOV.out)
  have HOT := hid ot; have HB6 := hid b6
  obtain ⟨k0, k1, k2, k3, k4, k5⟩ := ap6 HO6.out
  have f0 := frozen_of_row w6 bo 0 _ _ HO6.out
  obtain ⟨A6, c6, rfl, -⟩ := ot.shape
  clear ot b6 t0 HRA
  go_upto_region 9 with fail
  have HU1 := hid (show ApS w5 ((w6.setCell ⟨bo, 0, none⟩ (.slice A6 xs.length c6)).alloc (.cells (stO bo) 98)) ((w6.setCell ⟨bo, 0, none⟩ (.slice A6 xs.length c6)).alloc (.cells (stO bo) 98)) bo ⟨xs, [], [], [], 0, false⟩ K ∧ ((w6.setCell ⟨bo, 0, none⟩ (.slice A6 xs.length c6)).alloc (.cells (stO bo) 98)).heap[w6.heap.size]? = some (.cells (stO bo) 98 (0, 0)) ∧ w6.heap.size ≠ bo ∧ w6.heap.size < ((w6.setCell ⟨bo, 0, none⟩ (.slice A6 xs.length c6)).alloc (.cells (stO bo) 98)).heap.size from by
    have hb := HBO.out
    have s6 := HBV.out.size
    have s7 := HB6.out.size
    have hlt : bo < w6.heap.size := (Array.getElem?_eq_some_iff.1 HO6.out).1
    have hov : bo < V6.heap.size := (Array.getElem?_eq_some_iff.1 HOV.out).1
    have turn : ∀ b, b ≠ bo → (w6.setCell ⟨bo, 0, none⟩ (.slice A6 xs.length c6)).heap[b]? = w6.heap[b]? := fun b hne => Below.heap_setCell w6 ⟨bo, 0, none⟩ _ b (fun e => hne (by simpa using e))
    have sz : (w6.setCell ⟨bo, 0, none⟩ (.slice A6 xs.length c6)).heap.size = w6.heap.size := by simp [World.setCell]
    refine ⟨ApS.begin (w6 := w6) (st := V6.heap.size) ?_ ((heap_alloc_old _ _ (by rw [sz]; exact hlt)).trans (put_c (o := 0) HO6.out)) (by omega) HOT.out hov (fun b h1 h2 => (heap_alloc_old _ _ (by rw [sz]; exact h2)).trans (turn b (by omega))) (by rw [size_al, sz]; omega) (chk_511 HCK.out) HSU.out, ?_, by omega, by rw [size_al, sz]; omega⟩
    · exact ((HBV.out.trans (HB6.out.mono s6)).setCell (p := ⟨bo, 0, none⟩) (show w5.heap.size ≤ bo by omega) _).alloc (by rw [sz]; omega) _
    · have := heap_alloc_new (w6.setCell ⟨bo, 0, none⟩ (.slice A6 xs.length c6)) (.cells (stO bo) 98)
      rw [sz] at this
      exact this)
  unfold stO at HU1
  obtain ⟨sb, hsb⟩ : ∃ sb, sb = w6.heap.size := ⟨_, rfl⟩
  rw [← hsb] at HU1 ⊢
  clear hsb
  refine forget (R := fun V => ApS w5 V V bo ⟨xs, [], [], [], 0, false⟩ K ∧ V.heap[sb]? = some (.cells (stO bo) 98 (0, 0)) ∧ sb ≠ bo ∧ sb < V.heap.size) ?_ HU1.out
  clear HU1 HO6 HOT HB6 HOV HBV k0 k1 k2 k3 k4 k5 f0
  rintro U1 ⟨has, hst, hne, hsl⟩
  have HAS := hid (show ApS w5 U1 U1 bo ⟨xs, [], [], [], 0, false⟩ (K + 3600 * 0) from has)
  have HST := hid (fun (V : World) (a : PA) (k : Nat) (h : ApS w5 U1 V bo a k) => (h.kp sb hsl hne).trans hst)
  clear has hst hne hsl H6
  have HT5 := hid (fun (V : World) (hV : Below w5.heap.size w5 V) => HT.out V (H5.out.bl.trans (hV.mono H5.out.bl.size)))
  have HP5 := hid (fun (V : World) (hV : Below w5.heap.size w5 V) => HPR.out.ext (H5.out.bl.trans (hV.mono H5.out.bl.size)))
  go_wp2_with fail
  go_loopw [55, 11] (fun i e wr => ∃ (j : Nat) (a' : PA × Int), i = .int .i64 j ∧ j ≤ 5 ∧ e = .int .i64 a'.2 ∧ Hid (paZ xs l = paA l (([2, 3, 1, 4, 5] : List Int).drop j) a') ∧ Hid (ApS w5 U1 wr bo a'.1 (K + 3600 * j))) (fun i _ _ => 5 - (intOf i).toNat)
  case atStart => exact ⟨0, (⟨xs, [], [], [], 0, false⟩, 0), rfl, by omega, rfl, hid rfl, HAS⟩
  case round =>
    clear HAS
    obtain ⟨j, ⟨a1, er⟩, hij, hj, he, HJ, HS⟩ := hrel
    dsimp only at he HJ HS
    subst hij; subst he
    by_cases hlt : j < 5
    · have hst := HST.out wr a1 _ HS.out
      unfold stO at hst
      have hjj : j = 0 ∨ j = 1 ∨ j = 2 ∨ j = 3 ∨ j = 4 := by omega
      rcases hjj with rfl | rfl | rfl | rfl | rfl
      · have c0 := cell_of_row wr sb 0 _ _ (0, 0) hst
        have c1 := cell_of_row wr sb 1 _ _ (0, 0) hst
        have HA1 := hid (show paZ xs l = paA l [3, 1, 4, 5] (if er = 0 then paE 2 l a1 else (a1, er)) from HJ.out)
        have HB1 := hid (show Below wr.heap.size wr (wr.alloc (.cells #[.int .i64 2, .func (.func 44) #[] #[.pointer (some ⟨bo, 0, none⟩)]] 98)) from (Below.refl _ _).alloc (Nat.le_refl _) _)
        have HS1 := hid (HS.out.ext HB1.out)
        clear hst hlt HB1
        by_cases h0 : er = 0
        · subst h0
          have HC := hid (each2 (A := B) (n := m) (c := d) (l := l) HS1.out (by omega) HT5.out HP5.out)
          rw [if_pos rfl] at HA1
          obtain ⟨⟨a2, e2⟩, hq⟩ : ∃ q, q = paE 2 l a1 := ⟨_, rfl⟩
          rw [← hq] at HC HA1
          dsimp only at HC
          clear hq
          go_wp2_with fail
          refine HC.out.mono ?_
          rintro e w7 ⟨rfl, h7⟩
          have H7 := hid (h7.mono (K' := K + 3600 * 1) (by omega))
          clear h7 HC
          go_wp2_with fail
          go_roundw
          case rel => exact ⟨1, (a2, e2), by go_num, by omega, rfl, HA1, H7⟩
          case measure => simp [intOf]
        · have h0' : (er == 0) = false := beq_eq_false_iff_ne.2 h0
          rw [if_neg h0] at HA1
          clear h0
          have H7 := hid (HS1.out.mono (K' := K + 3600 * 1) (by omega))
          go_wp2_with fail
          go_roundw
          case rel => exact ⟨1, (a1, er), by go_num, by omega, rfl, HA1, H7⟩
          case measure => simp [intOf]
      · have c0 := cell_of_row wr sb 2 _ _ (0, 0) hst
        have c1 := cell_of_row wr sb 3 _ _ (0, 0) hst
        have HA1 := hid (show paZ xs l = paA l [1, 4, 5] (if er = 0 then paE 3 l a1 else (a1, er)) from HJ.out)
        have HB1 := hid (show Below wr.heap.size wr (wr.alloc (.cells #[.int .i64 3, .func (.func 46) #[] #[.pointer (some ⟨bo, 0, none⟩)]] 98)) from (Below.refl _ _).alloc (Nat.le_refl _) _)
        have HS1 := hid (HS.out.ext HB1.out)
        clear hst hlt HB1
        by_cases h0 : er = 0
        · subst h0
          have HC := hid (each3 (A := B) (n := m) (c := d) (l := l) HS1.out (by omega) HT5.out HP5.out)
          rw [if_pos rfl] at HA1
          obtain ⟨⟨a2, e2⟩, hq⟩ : ∃ q, q = paE 3 l a1 := ⟨_, rfl⟩
          rw [← hq] at HC HA1
          dsimp only at HC
          clear hq
          go_wp2_with fail
          refine HC.out.mono ?_
          rintro e w7 ⟨rfl, h7⟩
          have H7 := hid (h7.mono (K' := K + 3600 * 2) (by omega))
          clear h7 HC
          go_wp2_with fail
          go_roundw
          case rel => exact ⟨2, (a2, e2), by go_num, by omega, rfl, HA1, H7⟩
          case measure => simp [intOf]
        · have h0' : (er == 0) = false := beq_eq_false_iff_ne.2 h0
          rw [if_neg h0] at HA1
          clear h0
          have H7 := hid (HS1.out.mono (K' := K + 3600 * 2) (by omega))
          go_wp2_with fail
          go_roundw
          case rel => exact ⟨2, (a1, er), by go_num, by omega, rfl, HA1, H7⟩
          case measure => simp [intOf]
      · have c0 := cell_of_row wr sb 4 _ _ (0, 0) hst
        have c1 := cell_of_row wr sb 5 _ _ (0, 0) hst
        have HA1 := hid (show paZ xs l = paA l [4, 5] (if er = 0 then paE 1 l a1 else (a1, er)) from HJ.out)
        have HB1 := hid (show Below wr.heap.size wr (wr.alloc (.cells #[.int .i64 1, .func (.func 48) #[] #[.pointer (some ⟨bo, 0, none⟩)]] 98)) from (Below.refl _ _).alloc (Nat.le_refl _) _)
        have HS1 := hid (HS.out.ext HB1.out)
        clear hst hlt HB1
        by_cases h0 : er = 0
        · subst h0
          have HC := hid (each1 (A := B) (n := m) (c := d) (l := l) HS1.out (by omega) HT5.out HP5.out)
          rw [if_pos rfl] at HA1
          obtain ⟨⟨a2, e2⟩, hq⟩ : ∃ q, q = paE 1 l a1 := ⟨_, rfl⟩
          rw [← hq] at HC HA1
          dsimp only at HC
          clear hq
          go_wp2_with fail
          refine HC.out.mono ?_
          rintro e w7 ⟨rfl, h7⟩
          have H7 := hid (h7.mono (K' := K + 3600 * 3) (by omega))
          clear h7 HC
          go_wp2_with fail
          go_roundw
          case rel => exact ⟨3, (a2, e2), by go_num, by omega, rfl, HA1, H7⟩
          case measure => simp [intOf]
        · have h0' : (er == 0) = false := beq_eq_false_iff_ne.2 h0
          rw [if_neg h0] at HA1
          clear h0
          have H7 := hid (HS1.out.mono (K' := K + 3600 * 3) (by omega))
          go_wp2_with fail
          go_roundw
          case rel => exact ⟨3, (a1, er), by go_num, by omega, rfl, HA1, H7⟩
          case measure => simp [intOf]
      · have c0 := cell_of_row wr sb 6 _ _ (0, 0) hst
        have c1 := cell_of_row wr sb 7 _ _ (0, 0) hst
        have HA1 := hid (show paZ xs l = paA l [5] (if er = 0 then paE 4 l a1 else (a1, er)) from HJ.out)
        have HB1 := hid (show Below wr.heap.size wr (wr.alloc (.cells #[.int .i64 4, .func (.func 50) #[] #[.pointer (some ⟨bo, 0, none⟩)]] 98)) from (Below.refl _ _).alloc (Nat.le_refl _) _)
        have HS1 := hid (HS.out.ext HB1.out)
        clear hst hlt HB1
        by_cases h0 : er = 0
        · subst h0
          have HC := hid (each4 (A := B) (n := m) (c := d) (l := l) HS1.out (by omega) HT5.out HP5.out)
          rw [if_pos rfl] at HA1
          obtain ⟨⟨a2, e2⟩, hq⟩ : ∃ q, q = paE 4 l a1 := ⟨_, rfl⟩
          rw [← hq] at HC HA1
          dsimp only at HC
          clear hq
          go_wp2_with fail
          refine HC.out.mono ?_
          rintro e w7 ⟨rfl, h7⟩
          have H7 := hid (h7.mono (K' := K + 3600 * 4) (by omega))
          clear h7 HC
          go_wp2_with fail
          go_roundw
          case rel => exact ⟨4, (a2, e2), by go_num, by omega, rfl, HA1, H7⟩
          case measure => simp [intOf]
        · have h0' : (er == 0) = false := beq_eq_false_iff_ne.2 h0
          rw [if_neg h0] at HA1
          clear h0
          have H7 := hid (HS1.out.mono (K' := K + 3600 * 4) (by omega))
          go_wp2_with fail
          go_roundw
          case rel => exact ⟨4, (a1, er), by go_num, by omega, rfl, HA1, H7⟩
          case measure => simp [intOf]
      · have c0 := cell_of_row wr sb 8 _ _ (0, 0) hst
        have c1 := cell_of_row wr sb 9 _ _ (0, 0) hst
        have HA1 := hid (show paZ xs l = paA l [] (if er = 0 then paE 5 l a1 else (a1, er)) from HJ.out)
        have HB1 := hid (show Below wr.heap.size wr (wr.alloc (.cells #[.int .i64 5, .func (.func 51) #[] #[.pointer (some ⟨bo, 0, none⟩)]] 98)) from (Below.refl _ _).alloc (Nat.le_refl _) _)
        have HS1 := hid (HS.out.ext HB1.out)
        clear hst hlt HB1
        by_cases h0 : er = 0
        · subst h0
          have HC := hid (each5 (A := B) (n := m) (c := d) (l := l) HS1.out (by omega) HT5.out HP5.out)
          rw [if_pos rfl] at HA1
          obtain ⟨⟨a2, e2⟩, hq⟩ : ∃ q, q = paE 5 l a1 := ⟨_, rfl⟩
          rw [← hq] at HC HA1
          dsimp only at HC
          clear hq
          go_wp2_with fail
          refine HC.out.mono ?_
          rintro e w7 ⟨rfl, h7⟩
          have H7 := hid (h7.mono (K' := K + 3600 * 5) (by omega))
          clear h7 HC
          go_wp2_with fail
          go_roundw
          case rel => exact ⟨5, (a2, e2), by go_num, by omega, rfl, HA1, H7⟩
          case measure => simp [intOf]
        · have h0' : (er == 0) = false := beq_eq_false_iff_ne.2 h0
          rw [if_neg h0] at HA1
          clear h0
          have H7 := hid (HS1.out.mono (K' := K + 3600 * 5) (by omega))
          go_wp2_with fail
          go_roundw
          case rel => exact ⟨5, (a1, er), by go_num, by omega, rfl, HA1, H7⟩
          case measure => simp [intOf]
    · have hj5 : j = 5 := by omega
      subst hj5
      have HZR := hid (show paZ xs l = (a1, er) from HJ.out)
      rw [HZR.out] at HR3
      dsimp only at HR3
      have HTJ := hid (show TsJ a1.t from by
        have := paA_J HPI.out [2, 3, 1, 4, 5] (⟨xs, [], [], [], 0, false⟩, 0) HI.out
        rw [show paA l [2, 3, 1, 4, 5] (⟨xs, [], [], [], 0, false⟩, 0) = paZ xs l from rfl, HZR.out] at this
        exact this)
      clear hlt HJ HZR HST
      have H9 := hid (H5.out.ext HS.out.bl)
      by_cases h0 : er = 0
      · subst h0
        rw [if_pos rfl] at HR3
        obtain ⟨vt, vf, vg, vp, hv⟩ := HS.out.v
        obtain ⟨At, ct, rfl, htr⟩ := hv.fx.here
        obtain ⟨Af, cf, rfl, -⟩ := SlA.owned hv.rf
        obtain ⟨Ag, cg, rfl, -⟩ := SlA.owned hv.rg
        obtain ⟨Ae, ce, rfl, -⟩ := SlA.owned hv.rp
        obtain ⟨q0, q1, q2, q3, q4, q5⟩ := ap6 hv.o
        have HVV := hid hv
        have HDI := hid (distinct_any htr (by have := HS.out.n; omega) (HT5.out wr HS.out.bl) (HS.out.s.shorts (by omega)) fun x hx => by
          obtain ⟨i, hi, rfl⟩ := List.mem_iff_getElem.1 hx
          exact HTJ.out i _ (List.getElem?_eq_getElem hi))
        clear hv htr
        rcases hdd : paD a1.t with _ | _
        · have HE := hid (show r = (pa0, 70) from by rw [HR3.out, hdd]; rfl)
          rw [hdd] at HDI
          clear hdd
          go_wp2_with fail
          refine HDI.out.mono ?_
          rintro e w7 ⟨rfl, b7⟩
          have H7 := hid (H9.out.ext b7)
          clear b7 HDI
          have fz := fun i => frozen_of_row w7 rb i _ _ H7.out.hr
          have f0 := fz 0; have f1 := fz 1; have f2 := fz 2; have f3 := fz 3; have f4 := fz 4; have f5 := fz 5
          obtain ⟨k0, k1, k2, k3, k4, k5⟩ := ap6 H7.out.hr
          clear fz
          go_wp2_with fail
          change bodyPost _ _ _ _ _ (rbW w7 rb (.slice none 0 0) (.slice none 0 0) (.slice none 0 0) (.slice none 0 0) 0 false)
          have HZ := hid (show Below W.heap.size W (rbW w7 rb (.slice none 0 0) (.slice none 0 0) (.slice none 0 0) (.slice none 0 0) 0 false) from rbW_b H7.out.bl H7.out.lo)
          have hz := rbW_o (v0 := .slice none 0 0) (v1 := .slice none 0 0) (v2 := .slice none 0 0) (v3 := .slice none 0 0) (x := 0) (hx := false) H7.out.hr
          generalize rbW w7 rb (.slice none 0 0) (.slice none 0 0) (.slice none 0 0) (.slice none 0 0) 0 false = W9 at *
          clear k0 k1 k2 k3 k4 k5
          obtain ⟨k0, k1, k2, k3, k4, k5⟩ := ap6 hz
          clear hz
          refine bodyPost_ret (v := .tuple #[.agg #[.slice none 0 0, .slice none 0 0, .slice none 0 0, .slice none 0 0, .int .i64 0, .bool false], .int .i64 70]) ?_ rfl (by rw [HE.out]; exact apR_no HZ.out)
          rw [results_cell_tmp rfl]
          go_simp
        · have HE := hid (show r = (a1, 0) from by rw [HR3.out, hdd]; rfl)
          rw [hdd] at HDI
          clear hdd
          go_wp2_with fail
          refine HDI.out.mono ?_
          rintro e w7 ⟨rfl, b7⟩
          have H7 := hid (H9.out.ext b7)
          have HV7 := hid (HVV.out.ext b7)
          have HLO := hid (show rb < bo from by have := (Array.getElem?_eq_some_iff.1 H5.out.hr).1; have := HBO.out; omega)
          have HRU := hid (show rb < U1.heap.size from by have := (Array.getElem?_eq_some_iff.1 H5.out.hr).1; have := HS.out.sz.1; omega)
          clear b7 HDI HVV q0 q1 q2 q3 q4 q5
          obtain ⟨q0, q1, q2, q3, q4, q5⟩ := ap6 HV7.out.o
          have fz := fun i => frozen_of_row w7 rb i _ _ H7.out.hr
          have f0 := fz 0; have f1 := fz 1; have f2 := fz 2; have f3 := fz 3; have f4 := fz 4; have f5 := fz 5
          obtain ⟨k0, k1, k2, k3, k4, k5⟩ := ap6 H7.out.hr
          clear fz
          go_wp2_with fail
          change bodyPost _ _ _ _ _ (rbW w7 rb (.slice At a1.t.length ct) (.slice Af a1.fr.length cf) (.slice Ag a1.go.length cg) (.slice Ae a1.ps.length ce) a1.x a1.hx)
          have HZ := hid (show ApR W (a1, 0) (.returned (.tuple #[.agg #[.slice At a1.t.length ct, .slice Af a1.fr.length cf, .slice Ag a1.go.length cg, .slice Ae a1.ps.length ce, .int .i64 a1.x, .bool a1.hx], .int .i64 0])) (rbW w7 rb (.slice At a1.t.length ct) (.slice Af a1.fr.length cf) (.slice Ag a1.go.length cg) (.slice Ae a1.ps.length ce) a1.x a1.hx) from by
            obtain ⟨R, r1, r2⟩ := HV7.out.fx
            refine ⟨_, _, _, _, rfl, r2 _ fun b hb => rbW_k fun e => (r1 b hb).1 (.inl (by have := HLO.out; omega)), ?_, ?_, ?_, rbW_b H7.out.bl H7.out.lo⟩
            · exact ⟨Af, cf, rfl, (SlA.of_own (own_block HV7.out.rf fun b hb => rbW_k fun e => by have := (HV7.out.rf.lt b hb).1; have := HRU.out; omega)).2⟩
            · exact ⟨Ag, cg, rfl, (SlA.of_own (own_block HV7.out.rg fun b hb => rbW_k fun e => by have := (HV7.out.rg.lt b hb).1; have := HRU.out; omega)).2⟩
            · exact ⟨Ae, ce, rfl, (SlA.of_own (own_block HV7.out.rp fun b hb => rbW_k fun e => by have := (HV7.out.rp.lt b hb).1; have := HRU.out; omega)).2⟩)
          have hz := rbW_o (v0 := .slice At a1.t.length ct) (v1 := .slice Af a1.fr.length cf) (v2 := .slice Ag a1.go.length cg) (v3 := .slice Ae a1.ps.length ce) (x := a1.x) (hx := a1.hx) H7.out.hr
          generalize rbW w7 rb (.slice At a1.t.length ct) (.slice Af a1.fr.length cf) (.slice Ag a1.go.length cg) (.slice Ae a1.ps.length ce) a1.x a1.hx = W9 at *
          clear k0 k1 k2 k3 k4 k5
          obtain ⟨k0, k1, k2, k3, k4, k5⟩ := ap6 hz
          clear hz
          refine bodyPost_ret (v := .tuple #[.agg #[.slice At a1.t.length ct, .slice Af a1.fr.length cf, .slice Ag a1.go.length cg, .slice Ae a1.ps.length ce, .int .i64 a1.x, .bool a1.hx], .int .i64 0]) ?_ rfl (by rw [HE.out]; exact HZ.out)
          rw [results_cell_tmp rfl]
          go_simp
      · have HE := hid (show r = (pa0, er) from by rw [HR3.out, if_neg h0])
        have h0' : (er == 0) = false := beq_eq_false_iff_ne.2 h0
        have h0'' : (er != 0) = true := bne_iff_ne.2 h0
        clear h0
        have fz := fun i => frozen_of_row wr rb i _ _ H9.out.hr
        have f0 := fz 0; have f1 := fz 1; have f2 := fz 2; have f3 := fz 3; have f4 := fz 4; have f5 := fz 5
        obtain ⟨k0, k1, k2, k3, k4, k5⟩ := ap6 H9.out.hr
        clear fz
        go_wp2_with fail
        change bodyPost _ _ _ _ _ (rbW wr rb (.slice none 0 0) (.slice none 0 0) (.slice none 0 0) (.slice none 0 0) 0 false)
        have HZ := hid (show Below W.heap.size W (rbW wr rb (.slice none 0 0) (.slice none 0 0) (.slice none 0 0) (.slice none 0 0) 0 false) from rbW_b H9.out.bl H9.out.lo)
        have hz := rbW_o (v0 := .slice none 0 0) (v1 := .slice none 0 0) (v2 := .slice none 0 0) (v3 := .slice none 0 0) (x := 0) (hx := false) H9.out.hr
        generalize rbW wr rb (.slice none 0 0) (.slice none 0 0) (.slice none 0 0) (.slice none 0 0) 0 false = W9 at *
        clear k0 k1 k2 k3 k4 k5
        obtain ⟨k0, k1, k2, k3, k4, k5⟩ := ap6 hz
        clear hz
        refine bodyPost_ret (v := .tuple #[.agg #[.slice none 0 0, .slice none 0 0, .slice none 0 0, .slice none 0 0, .int .i64 0, .bool false], .int .i64 er]) ?_ rfl (by rw [HE.out]; exact apR_no HZ.out)
        rw [results_cell_tmp rfl]
        go_simp
end
end Go.Proofs.YtpkijlmkgomfeaaGreatDoor

/- proposals: law 15's two, few. -/
namespace Go.Proofs.YtpkijlmkgomfeaaGreatDoor
open Go.RowKit Go.KK Go.Shelf Go.Maps
set_option linter.unusedVariables false
set_option linter.unusedSimpArgs false

/-- Twenty secrets, and so many of their public keys. -/
def pub15 (j : Nat) : List ND := atoms 20 ++ (List.range j).map fun (n : Nat) => ndN 7 [(n : Int)]
def x15 : List ND := pub15 20
theorem pub_step : ∀ j : Nat, j < 20 → makT (pub15 j) (ndN 7 [(j : Int)]) = pub15 (j + 1) := by decide +kernel
theorem pub0 : pub15 0 = atoms 20 := by unfold pub15; simp
/-- What two leaves. -/
def Two15 (w : World) (e : Ending) (w' : World) : Prop := ∃ sa sb Z Z', e = .returned (.tuple #[.pointer (some ⟨sa, 0, none⟩), .pointer (some ⟨sb, 0, none⟩)]) ∧ Tx w w' sa sb Z Z' x15 x15
set_option maxHeartbeats 4000000 in
theorem two15_any (w : World) (hT : Tb w.heap.size w) : Calls Tryz.prog 10 #[] w (Two15 w) := by
  have HT := hid hT
  clear hT
  go_enter Tryz.func10, Tryz.ntmps10
  go_wp2_with fail
  refine (new_any _).mono ?_
  rintro e1 w1 ⟨Z1, sa, rfl, a1, z1, b1⟩
  go_wp2_with fail
  refine (rnew_any _).mono ?_
  rintro e2 w2 ⟨Z2, sb, rfl, a2, z2, b2⟩
  have HI := hid (show Tw w w2 sa sb Z1 Z2 (atoms 0) from ⟨a1.ext b2, a2, fun b h1 h2 => by have := a1.zlt b h1; have := z2 b h2; omega, z1, fun b h => Nat.le_trans b1.size (z2 b h), b1.trans (b2.mono b1.size)⟩)
  clear a2 z2 b2 a1 z1 b1
  go_wp2_with fail
  go_loopw [8] (fun i wr => ∃ (j : Nat) (Z Z' : Nat → Prop), i = .int .i64 j ∧ j ≤ 20 ∧ Tw w wr sa sb Z Z' (atoms j)) (fun i _ => 20 - (intOf i).toNat)
  case atStart => exact ⟨0, Z1, Z2, rfl, by omega, HI.out⟩
  case round =>
    clear HI
    obtain ⟨j, Z, Z', hi, hj, hI⟩ := hrel
    have HJ := hid hI
    clear hI
    by_cases hlt : j < 20
    · subst hi
      have hj64 : I64 (j : Int) := ⟨by omega, by omega⟩
      have HST := hid (atoms_step (n := j) (by omega))
      have HZB := hid HJ.out.zb
      have hlt' : (j : Int) < 20 := by omega
      go_wp2_with fail
      refine (mke_any Z sa _ w.heap.size _ (atN (j : Int)) none 0 HJ.out.a (SlA.nil _ _) (HT.out.on HJ.out.bl) HJ.out.bl.size (ndI_at hj64)).mono ?_
      rintro e3 w3 ⟨rfl, s3⟩
      obtain ⟨Z3, a3, q3, d3, z3, -, -, b3⟩ := HJ.out.mkA s3
      have A3 := hid a3; have Q3 := hid q3; have D3 := hid d3; have ZZ3 := hid z3; have B3 := hid b3
      clear a3 q3 d3 z3 b3 s3 HJ
      go_wp2_with fail
      refine (ratom_any Z' sb _ _ (j : Int) Q3.out hj64).mono ?_
      rintro e4 w4 ⟨rfl, s4⟩
      obtain ⟨Z4, t4, -, -⟩ := Tw.mkB A3.out Q3.out D3.out ZZ3.out HZB.out B3.out s4
      rw [HST.out] at t4
      have T4 := hid t4
      clear t4 s4 A3 Q3 D3 ZZ3 B3 HZB
      go_wp2_with fail
      go_roundw
      case rel => exact ⟨j + 1, Z3, Z4, by go_num, by omega, T4.out⟩
      case measure => simp [intOf]; omega
    · have : j = 20 := by omega
      subst this
      have hi' := hi
      clear hi
      change _ = Value.int .i64 20 at hi'
      subst hi'
      have T0 := hid (Tx.of HJ.out)
      rw [← pub0] at T0
      clear HJ hlt hj
      go_wp2_with fail
      go_loopw [19] (fun i wr => ∃ (j : Nat) (Z Z' : Nat → Prop), i = .int .i64 j ∧ j ≤ 20 ∧ Hid (Tx w wr sa sb Z Z' (pub15 j) (pub15 j))) (fun i _ => 20 - (intOf i).toNat)
      case atStart => exact ⟨0, Z, Z', rfl, by omega, T0⟩
      case round =>
        clear T0
        obtain ⟨j, Z2, Z3, hi, hj, HX⟩ := hrel
        subst hi
        by_cases hlt : j < 20
        · have hj64 : I64 (j : Int) := ⟨by omega, by omega⟩
          have hlt' : (j : Int) < 20 := by omega
          have HST := hid (pub_step j hlt)
          have HX1 := hid (HX.out.alloc (.cells #[.int .i64 (j : Int)] 3))
          have HM := hid (l_mke HX1.out.a HT.out (x := ndN 7 [(j : Int)]) (SlA.lit1 _) (ndI_nd (i64_lit (by decide) (by decide)) fun i hi => by rw [List.mem_singleton.1 hi]; exact hj64))
          rw [HST.out] at HM
          generalize makI (pub15 j) (ndN 7 [(j : Int)]) = i1 at *
          generalize makE (pub15 j) (ndN 7 [(j : Int)]) = e1 at *
          clear HX
          go_wp2_with fail
          refine HM.out.mono ?_
          rintro e w5 ⟨Z4, rfl, l5, m5⟩
          have HX2 := hid ((HX1.out.onA l5 m5).alloc (.cells #[.int .i64 (j : Int)] 3))
          clear l5 m5 HM HX1
          have HM2 := hid (q_of HX2.out.b (o := 7) (l := [(j : Int)]) (SlA.lit1 _) (i64_lit (by decide) (by decide)) fun i hi => by rw [List.mem_singleton.1 hi]; exact hj64)
          unfold LrQ mk at HM2
          dsimp only at HM2
          rw [HST.out] at HM2
          go_wp2_with fail
          refine HM2.out.mono ?_
          rintro e w6 ⟨Z5, rfl, l6, m6⟩
          have HX3 := hid (HX2.out.onB l6 m6)
          clear l6 m6 HM2 HX2
          go_wp2_with fail
          go_roundw
          case rel => exact ⟨j + 1, Z4, Z5, by go_num, by omega, HX3⟩
          case measure => simp [intOf]; omega
        · have : j = 20 := by omega
          subst this
          go_wp2_with fail
          go_ret2
          exact ⟨sa, sb, Z2, Z3, rfl, HX.out⟩
/-- A tree and proposals that are few enough. -/
def few15 (xs : List TN) (l : List PR) : Bool := (decide (xs.length ≤ 70) && decide (l.length ≤ 30)) && (xs.all (fun x => decide (x.u.length ≤ 40)) && l.all fun p => decide (p.n.u.length ≤ 10))
set_option maxHeartbeats 2000000 in
theorem few15_any {W : World} {A : Option Addr} {n c : Nat} {xs : List TN} (ht : Tr W A n c xs) {B : Option Addr} {m d : Nat} {l : List PR} (hP : Pr W B m d l) :
    Calls Tryz.prog 9 #[.slice A n c, .slice B m d] W fun e w' => e = .returned (.bool (few15 xs l)) ∧ Below W.heap.size W w' := by
  have H := hid ht; have HP := hid hP
  have HL := hid ht.len; have HLP := hid hP.len
  have hn1 : n ≤ 9223372036854775807 := by have := ht.nc; unfold maxLen at this; omega
  have hm1 : m ≤ 9223372036854775807 := by have := hP.nc; unfold maxLen at this; omega
  obtain ⟨r, hr⟩ : ∃ r, r = few15 xs l := ⟨_, rfl⟩
  have HR := hid (show r = ((decide (xs.length ≤ 70) && decide (l.length ≤ 30)) && (xs.all (fun x => decide (x.u.length ≤ 40)) && l.all fun p => decide (p.n.u.length ≤ 10))) from hr)
  rw [← hr]
  clear ht hP hr
  by_cases h70 : n ≤ 70
  case neg =>
    have HF := hid (show r = false from by rw [HR.out, decide_eq_false (by rw [HL.out]; exact h70)]; rfl)
    have h70' : (70 : Int) < (n : Int) := by omega
    clear HR
    go_enter Tryz.func9, Tryz.ntmps9
    go_wp2_with fail
    go_ret
    exact ⟨by first | rfl | (rw [HF.out]; try rfl), Below.refl _ _⟩
  by_cases h30 : m ≤ 30
  case neg =>
    have HF := hid (show r = false from by rw [HR.out, decide_eq_false (show ¬ l.length ≤ 30 by rw [HLP.out]; exact h30)]; simp)
    have h70' : ¬ (70 : Int) < (n : Int) := by omega
    have h30' : (30 : Int) < (m : Int) := by omega
    clear HR
    go_enter Tryz.func9, Tryz.ntmps9
    go_wp2_with fail
    go_ret
    exact ⟨by first | rfl | (rw [HF.out]; try rfl), Below.refl _ _⟩
  have HR1 := hid (show r = (xs.all (fun x => decide (x.u.length ≤ 40)) && l.all fun p => decide (p.n.u.length ≤ 10)) from by rw [HR.out, decide_eq_true (by rw [HL.out]; exact h70), decide_eq_true (show l.length ≤ 30 by rw [HLP.out]; exact h30)]; rfl)
  have h70' : ¬ (70 : Int) < (n : Int) := by omega
  have h30' : ¬ (30 : Int) < (m : Int) := by omega
  clear HR
  go_enter Tryz.func9, Tryz.ntmps9
  go_wp2_with fail
  go_loopw [19] (fun i wr => ∃ j : Nat, i = .int .i64 j ∧ j ≤ n ∧ Hid (xs.all (fun x => decide (x.u.length ≤ 40)) = (xs.drop j).all (fun x => decide (x.u.length ≤ 40))) ∧ Hid (Below W.heap.size W wr)) (fun i _ => n - (intOf i).toNat)
  case atStart => exact ⟨0, rfl, by omega, hid rfl, hid (Below.refl _ _)⟩
  case round =>
    obtain ⟨j, hij, hj, HJ, HB⟩ := hrel
    subst hij
    by_cases hlt : j < n
    · obtain ⟨b, o, x, A', c', rfl, hx, d0, d1, d2, d3, d4, d5, hsx⟩ := (H.out.ext HB.out).at hlt
      have hlt' : (j : Int) < (n : Int) := by omega
      have HD := hid (show (xs.drop j).all (fun x => decide (x.u.length ≤ 40)) = (decide (x.u.length ≤ 40) && (xs.drop (j + 1)).all (fun x => decide (x.u.length ≤ 40))) from by rw [drop_get hx, List.all_cons])
      have HB2 := hid (HB.out.alloc HB.out.size (.cells #[.int .i64 x.k, .int .i64 x.i, .int .i64 x.e, .int .i64 x.s, .int .i64 x.h, .slice A' x.u.length c'] 37))
      have hxl : x.u.length ≤ 9223372036854775807 := by have := hsx.cm; have := hsx.nc; unfold maxLen at *; omega
      clear hx hsx
      by_cases h40 : x.u.length ≤ 40
      · have HF := hid (show xs.all (fun x => decide (x.u.length ≤ 40)) = (xs.drop (j + 1)).all (fun x => decide (x.u.length ≤ 40)) from by rw [HJ.out, HD.out, decide_eq_true h40]; rfl)
        have h40' : ¬ (40 : Int) < (x.u.length : Int) := by omega
        go_wp2_with fail
        go_roundw
        case rel => exact ⟨j + 1, by go_num, by omega, HF, HB2⟩
        case measure => simp [intOf]; omega
      · have HF := hid (show r = false from by rw [HR1.out, HJ.out, HD.out, decide_eq_false h40]; rfl)
        have h40' : (40 : Int) < (x.u.length : Int) := by omega
        go_wp2_with fail
        go_ret
        exact ⟨by first | rfl | (rw [HF.out]; try rfl), HB2.out⟩
    · have HR2 := hid (show r = l.all fun p => decide (p.n.u.length ≤ 10) from by rw [HR1.out, HJ.out, List.drop_of_length_le (by have := HL.out; omega)]; rfl)
      have HB0 := hid HB.out
      clear HB HJ HR1
      obtain ⟨wo, rfl⟩ : ∃ wo : World, wo = wr := ⟨_, rfl⟩
      go_wp2_with fail
      go_loopw [30] (fun i wr => ∃ j : Nat, i = .int .i64 j ∧ j ≤ m ∧ Hid ((l.all fun p => decide (p.n.u.length ≤ 10)) = (l.drop j).all fun p => decide (p.n.u.length ≤ 10)) ∧ Hid (Below W.heap.size W wr)) (fun i _ => m - (intOf i).toNat)
      case atStart => exact ⟨0, rfl, by omega, hid rfl, HB0⟩
      case round =>
        clear HB0
        obtain ⟨k, hik, hk, HK, HB⟩ := hrel
        subst hik
        by_cases hkm : k < m
        · obtain ⟨b, o, p, A', c', rfl, hp, hsx, d0, d1, d2, d3, d4, d5, d6, d7, d8, d9⟩ := (HP.out.ext HB.out).at hkm
          have hlt' : (k : Int) < (m : Int) := by omega
          have HD := hid (show ((l.drop k).all fun p => decide (p.n.u.length ≤ 10)) = (decide (p.n.u.length ≤ 10) && (l.drop (k + 1)).all fun p => decide (p.n.u.length ≤ 10)) from by rw [drop_get hp, List.all_cons])
          have HB2 := hid (HB.out.alloc HB.out.size (.cells #[.int .i64 p.k, .int .i64 p.f, .int .i64 p.n.k, .int .i64 p.n.i, .int .i64 p.n.e, .int .i64 p.n.s, .int .i64 p.n.h, .slice A' p.n.u.length c', .int .i64 p.a, .int .i64 p.t] 39))
          have hxl : p.n.u.length ≤ 9223372036854775807 := by have := hsx.cm; have := hsx.nc; unfold maxLen at *; omega
          clear hp hsx
          by_cases h10 : p.n.u.length ≤ 10
          · have HF := hid (show (l.all fun p => decide (p.n.u.length ≤ 10)) = (l.drop (k + 1)).all fun p => decide (p.n.u.length ≤ 10) from by rw [HK.out, HD.out, decide_eq_true h10]; rfl)
            have h10' : ¬ (10 : Int) < (p.n.u.length : Int) := by omega
            go_wp2_with fail
            go_roundw
            case rel => exact ⟨k + 1, by go_num, by omega, HF, HB2⟩
            case measure => simp [intOf]; omega
          · have HF := hid (show r = false from by rw [HR2.out, HK.out, HD.out, decide_eq_false h10]; rfl)
            have h10' : (10 : Int) < (p.n.u.length : Int) := by omega
            go_wp2_with fail
            go_ret
            exact ⟨by first | rfl | (rw [HF.out]; try rfl), HB2.out⟩
        · have HF := hid (show r = true from by rw [HR2.out, HK.out, List.drop_of_length_le (by have := HLP.out; omega)]; rfl)
          go_wp2_with fail
          go_ret
          exact ⟨by first | rfl | (rw [HF.out]; try rfl), HB.out⟩
end Go.Proofs.YtpkijlmkgomfeaaGreatDoor

