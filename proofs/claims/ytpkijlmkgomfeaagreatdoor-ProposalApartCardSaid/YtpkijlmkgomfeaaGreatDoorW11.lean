import Derived.Test.YtpkijlmkgomfeaaGreatDoorW10
/- proposals: whether one may be. -/
namespace Go.Proofs.YtpkijlmkgomfeaaGreatDoor
open Go.RowKit Go.KK Go.Shelf Go.Maps
set_option linter.unusedVariables false
set_option linter.unusedSimpArgs false

open Classical in
/-- How an element of the map of closures reads. -/
noncomputable def fnR (c1 c2 c3 c4 : Value) (v : Value) : Option (MD × List MemPlace) :=
  if v = c1 then some (.lit (.int .i64 1), []) else if v = c2 then some (.lit (.int .i64 2), []) else if v = c3 then some (.lit (.int .i64 3), []) else if v = c4 then some (.lit (.int .i64 4), []) else if v = .nilFunc then some (.lit (.int .i64 0), []) else none
theorem fnR_inv {c1 c2 c3 c4 v : Value} {i : Int} {ps : List MemPlace} (h : fnR c1 c2 c3 c4 v = some (.lit (.int .i64 i), ps)) : (i = 1 ∧ v = c1) ∨ (i = 2 ∧ v = c2) ∨ (i = 3 ∧ v = c3) ∨ (i = 4 ∧ v = c4) ∨ (i = 0 ∧ v = .nilFunc) := by
  unfold fnR at h
  split at h
  · next e => injection h with h; injection h with h; injection h with h; injection h with _ h; exact .inl ⟨h.symm, e⟩
  split at h
  · next e => injection h with h; injection h with h; injection h with h; injection h with _ h; exact .inr (.inl ⟨h.symm, e⟩)
  split at h
  · next e => injection h with h; injection h with h; injection h with h; injection h with _ h; exact .inr (.inr (.inl ⟨h.symm, e⟩))
  split at h
  · next e => injection h with h; injection h with h; injection h with h; injection h with _ h; exact .inr (.inr (.inr (.inl ⟨h.symm, e⟩)))
  split at h
  · next e => injection h with h; injection h with h; injection h with h; injection h with _ h; exact .inr (.inr (.inr (.inr ⟨h.symm, e⟩)))
  · cases h
section
variable (bp bb ba bt bi : Nat)
def myC1 : Value := (.func (.func 105) #[] #[.pointer (some ⟨bp, 0, none⟩), .pointer (some ⟨bb, 0, none⟩), .pointer (some ⟨ba, 0, none⟩)])
def myC2 : Value := (.func (.func 107) #[] #[.pointer (some ⟨bp, 0, none⟩), .pointer (some ⟨bb, 0, none⟩), .pointer (some ⟨ba, 0, none⟩), .pointer (some ⟨bi, 0, none⟩)])
def myC3 : Value := (.func (.func 108) #[] #[.pointer (some ⟨bp, 0, none⟩), .pointer (some ⟨bb, 0, none⟩), .pointer (some ⟨bt, 0, none⟩), .pointer (some ⟨bi, 0, none⟩)])
def myC4 : Value := (.func (.func 109) #[] #[.pointer (some ⟨bp, 0, none⟩), .pointer (some ⟨bb, 0, none⟩), .pointer (some ⟨ba, 0, none⟩)])
noncomputable def myR (v : Value) : Option (MD × List MemPlace) := fnR (myC1 bp bb ba) (myC2 bp bb ba bi) (myC3 bp bb bt bi) (myC4 bp bb ba) v
theorem myR1 : myR bp bb ba bt bi (myC1 bp bb ba) = some (.lit (.int .i64 1), []) := by
  unfold myR fnR
  rw [if_pos rfl]
theorem myR2 : myR bp bb ba bt bi (myC2 bp bb ba bi) = some (.lit (.int .i64 2), []) := by
  unfold myR fnR
  rw [if_neg (by unfold myC1 myC2; simp), if_pos rfl]
theorem myR3 : myR bp bb ba bt bi (myC3 bp bb bt bi) = some (.lit (.int .i64 3), []) := by
  unfold myR fnR
  rw [if_neg (by unfold myC1 myC3; simp), if_neg (by unfold myC2 myC3; simp), if_pos rfl]
theorem myR4 : myR bp bb ba bt bi (myC4 bp bb ba) = some (.lit (.int .i64 4), []) := by
  unfold myR fnR
  rw [if_neg (by unfold myC1 myC4; simp), if_neg (by unfold myC2 myC4; simp), if_neg (by unfold myC3 myC4; simp), if_pos rfl]
theorem myR0 : myR bp bb ba bt bi .nilFunc = some (.lit (.int .i64 0), []) := by
  unfold myR fnR
  rw [if_neg (by unfold myC1; simp), if_neg (by unfold myC2; simp), if_neg (by unfold myC3; simp), if_neg (by unfold myC4; simp), if_pos rfl]
end
def myD3 : MD := (((DataW.map []).put (.int .i64 1) (.lit (.int .i64 1))).put (.int .i64 2) (.lit (.int .i64 2))).put (.int .i64 3) (.lit (.int .i64 3))
def myD4 : MD := myD3.put (.int .i64 4) (.lit (.int .i64 4))
def myD5 : MD := myD4.put (.int .i64 5) (.lit (.int .i64 4))
def myK (k : Int) : Int := if k = 1 then 1 else if k = 2 then 2 else if k = 3 then 3 else if k = 4 ∨ k = 5 then 4 else 0
theorem myD5_at (k : Int) : myD5.atKey (.int .i64 k) (.lit (.int .i64 0)) = .lit (.int .i64 (myK k)) := by
  unfold myK
  by_cases h1 : k = 1
  · subst h1; rfl
  by_cases h2 : k = 2
  · subst h2; rfl
  by_cases h3 : k = 3
  · subst h3; rfl
  by_cases h4 : k = 4
  · subst h4; rfl
  by_cases h5 : k = 5
  · subst h5; rfl
  rw [if_neg h1, if_neg h2, if_neg h3, if_neg (by omega)]
  unfold myD5 myD4 myD3
  rw [Maps.atKey_put_other (fun e => h5 (by injection e)), Maps.atKey_put_other (fun e => h4 (by injection e)), Maps.atKey_put_other (fun e => h3 (by injection e)), Maps.atKey_put_other (fun e => h2 (by injection e)), Maps.atKey_put_other (fun e => h1 (by injection e))]
  rfl
theorem my_neq (f : FuncId) (vs : Array Value) (w : World) : (binOp BinOp.neq 24 (.func (.func f) #[] vs) .nilFunc).run Tryz.prog w = .ok (.bool true) w := by kernel_rfl
theorem my_neq0 (w : World) : (binOp BinOp.neq 24 .nilFunc .nilFunc).run Tryz.prog w = .ok (.bool false) w := by kernel_rfl
theorem zeroF (w : World) : (zeroValue 24).run Tryz.prog w = .ok .nilFunc w := by kernel_rfl
theorem MyB.grown {W0 U0 U V : World} {sa : Nat} {A : Option Addr} {n c : Nat} {y : Int} {p : PR} {q : Value} {bp bb ba bt bi m : Nat} {ob : Obj} (h : MyB W0 U sa A n c y p q bp bb ba bt bi ob) (h0 : MyB W0 U0 sa A n c y p q bp bb ba bt bi ob) (hm : m = U0.heap.size) (hg : U.grownBy V (some m)) : MyB W0 V sa A n c y p q bp bb ba bt bi ob := by
  have lt : ∀ {b : Nat} {o : Obj}, U0.heap[b]? = some o → b ≠ m := fun h => by have := (Array.getElem?_eq_some_iff.1 h).1; omega
  have lt' : ∀ {b : Nat} {o : Obj}, U.heap[b]? = some o → b < U.heap.size := fun h => (Array.getElem?_eq_some_iff.1 h).1
  have go : ∀ {b : Nat} {o : Obj}, U.heap[b]? = some o → b ≠ m → V.heap[b]? = some o := fun h hn => (hg.block _ (lt' h) (fun e => hn (by injection e))).trans h
  exact ⟨h.bl.grown hg h.bl.size (fun k hk => by injection hk with hk; have := h0.bl.size; omega), go h.hp (lt h0.hp), go h.hb (lt h0.hb), go h.ha (lt h0.ha), go h.ht (lt h0.ht), go h.hi (lt h0.hi), h.lo⟩
section
variable {bp bb ba bt bi mb m : Nat} {w : World}
theorem my_look4 (h : w.ownsMap Tryz.prog 3 (myR bp bb ba bt bi) mb m myD4) : (Instr.lookup 166 (.map (some mb)) (.int .i64 4) false).run Tryz.prog w = .ok (myC4 bp bb ba) w := by
  obtain ⟨v, ps, hrun, hv⟩ := h.lookup lawK Tryz.underlying166 (zeroF w) (myR0 bp bb ba bt bi) (keyK (y := 4) (by unfold I64; omega))
  have e : myD4.atKey (.int .i64 4) (.lit (.int .i64 0)) = .lit (.int .i64 4) := rfl
  rw [e] at hv
  rcases fnR_inv hv with ⟨h, _⟩ | ⟨h, _⟩ | ⟨h, _⟩ | ⟨_, h⟩ | ⟨h, _⟩
  · exact absurd h (by decide)
  · exact absurd h (by decide)
  · exact absurd h (by decide)
  · rw [hrun, h]
  · exact absurd h (by decide)
theorem my_look5 (h : w.ownsMap Tryz.prog 3 (myR bp bb ba bt bi) mb m myD5) {k : Int} (hk : I64 k) : ∃ v, (Instr.lookup 166 (.map (some mb)) (.int .i64 k) false).run Tryz.prog w = .ok v w ∧ ((myK k = 1 ∧ v = myC1 bp bb ba) ∨ (myK k = 2 ∧ v = myC2 bp bb ba bi) ∨ (myK k = 3 ∧ v = myC3 bp bb bt bi) ∨ (myK k = 4 ∧ v = myC4 bp bb ba) ∨ (myK k = 0 ∧ v = .nilFunc)) := by
  obtain ⟨v, ps, hrun, hv⟩ := h.lookup lawK Tryz.underlying166 (zeroF w) (myR0 bp bb ba bt bi) (keyK hk)
  rw [myD5_at] at hv
  exact ⟨v, hrun, fnR_inv hv⟩
theorem myK_1 {k : Int} (h : myK k = 1) : k = 1 := by
  unfold myK at h
  repeat' (split at h)
  all_goals omega
theorem myK_2 {k : Int} (h : myK k = 2) : k = 2 := by
  unfold myK at h
  repeat' (split at h)
  all_goals omega
theorem myK_3 {k : Int} (h : myK k = 3) : k = 3 := by
  unfold myK at h
  repeat' (split at h)
  all_goals omega
theorem myK_4 {k : Int} (h : myK k = 4) : k = 4 ∨ k = 5 := by
  unfold myK at h
  repeat' (split at h)
  all_goals omega
theorem myK_0 {k : Int} (h : myK k = 0) : ¬ (1 ≤ k ∧ k ≤ 5) := by
  unfold myK at h
  repeat' (split at h)
  all_goals omega
end
section
variable {W : World} {sa : Nat} {X : List ND} {A : Option Addr} {n c : Nat} {xs : List TN} {y : Int} {p : PR} {Ap : Option Addr} {cp : Nat}
/-- The boxes are laid. -/
theorem my_start : MyB W (((((W.alloc (.cells #[.pointer (some ⟨sa, 0, none⟩)] 26)).alloc (.cells #[.slice A n c] 22)).alloc (.cells #[.int .i64 y] 3)).alloc (prO p (.slice Ap p.n.u.length cp))).alloc (bareO p)) sa A n c y p (.slice Ap p.n.u.length cp) (W.heap.size + 3) (W.heap.size + 4) W.heap.size (W.heap.size + 1) (W.heap.size + 2) (bareO p) := by
  have n1 := heap_alloc_new (W.alloc (.cells #[.pointer (some ⟨sa, 0, none⟩)] 26)) (.cells #[.slice A n c] 22)
  have n2 := heap_alloc_new ((W.alloc (.cells #[.pointer (some ⟨sa, 0, none⟩)] 26)).alloc (.cells #[.slice A n c] 22)) (.cells #[.int .i64 y] 3)
  have n3 := heap_alloc_new (((W.alloc (.cells #[.pointer (some ⟨sa, 0, none⟩)] 26)).alloc (.cells #[.slice A n c] 22)).alloc (.cells #[.int .i64 y] 3)) (prO p (.slice Ap p.n.u.length cp))
  have n4 := heap_alloc_new ((((W.alloc (.cells #[.pointer (some ⟨sa, 0, none⟩)] 26)).alloc (.cells #[.slice A n c] 22)).alloc (.cells #[.int .i64 y] 3)).alloc (prO p (.slice Ap p.n.u.length cp))) (bareO p)
  simp only [size_al, Nat.add_assoc, Nat.reduceAdd] at n1 n2 n3 n4
  refine ⟨?_, (heap_alloc_old _ _ (by simp only [size_al]; omega)).trans n3, n4, ?_, ?_, ?_, by omega⟩
  · exact (((((Below.refl _ _).alloc (Nat.le_refl _) _).alloc (by simp only [size_al]; omega) _).alloc (by simp only [size_al]; omega) _).alloc (by simp only [size_al]; omega) _).alloc (by simp only [size_al]; omega) _
  · exact (heap_alloc_old _ _ (by simp only [size_al]; omega)).trans ((heap_alloc_old _ _ (by simp only [size_al]; omega)).trans ((heap_alloc_old _ _ (by simp only [size_al]; omega)).trans ((heap_alloc_old _ _ (by simp only [size_al]; omega)).trans (heap_alloc_new W _))))
  · exact (heap_alloc_old _ _ (by simp only [size_al]; omega)).trans ((heap_alloc_old _ _ (by simp only [size_al]; omega)).trans ((heap_alloc_old _ _ (by simp only [size_al]; omega)).trans n1))
  · exact (heap_alloc_old _ _ (by simp only [size_al]; omega)).trans ((heap_alloc_old _ _ (by simp only [size_al]; omega)).trans n2)
set_option maxHeartbeats 8000000 in
set_option maxRecDepth 100000 in
theorem pmay_any (hA : ArV W 151 sa X) (ht : Tr W A n c xs) (hn : n ≤ 600) (hs : SlA W 1 Ap p.n.u.length cp (p.n.u.map (.int .i64))) (hu : p.n.u.length ≤ 2147483648) (hp : PrI p) :
    Calls Tryz.prog 41 #[.pointer (some ⟨sa, 0, none⟩), .slice A n c, .int .i64 y, prV p (.slice Ap p.n.u.length cp)] W fun e w' => e = .returned (.bool (paM X xs y p)) ∧ Below W.heap.size W w' := by
  have HA := hid hA; have HTR := hid ht; have HS := hid hs; have HU := hid hu; have HPI := hid hp
  have HP := hid (my_start (W := W) (sa := sa) (A := A) (n := n) (c := c) (y := y) (p := p) (Ap := Ap) (cp := cp))
  obtain ⟨r, hr⟩ : ∃ r, r = paM X xs y p := ⟨_, rfl⟩
  have HR := hid hr
  rw [← hr]
  clear hA ht hs hu hp hr
  have hmm := @run_makeMap Tryz.prog
  unfold prV
  unfold prO bareO prO tn0 at HP
  go_enter Tryz.func41, Tryz.ntmps41
  go_upto_region 2 with fail
  try simp only [Nat.add_assoc, Nat.reduceAdd]
  obtain ⟨ba, hba⟩ : ∃ b, b = W.heap.size := ⟨_, rfl⟩
  obtain ⟨bt, hbt⟩ : ∃ b, b = W.heap.size + 1 := ⟨_, rfl⟩
  obtain ⟨bi, hbi⟩ : ∃ b, b = W.heap.size + 2 := ⟨_, rfl⟩
  obtain ⟨bp, hbp⟩ : ∃ b, b = W.heap.size + 3 := ⟨_, rfl⟩
  obtain ⟨bb, hbb⟩ : ∃ b, b = W.heap.size + 4 := ⟨_, rfl⟩
  rw [← hbb, ← hbp, ← hbi, ← hbt, ← hba] at HP ⊢
  clear hbb hbp hbi hbt hba
  refine forget (R := fun V => MyB W V sa A n c y p (.slice Ap p.n.u.length cp) bp bb ba bt bi (bareO p)) ?_ HP.out
  clear HP
  intro V hv
  have HV := hid hv
  have O0 := hid (World.ownsMap_made (H := Unit) V Tryz.prog 3 (myR bp bb ba bt bi))
  have H0 := hid (hv.ext ((Below.refl _ _).alloc (Nat.le_refl _) (.map #[] 0)))
  clear hv
  obtain ⟨w1, r1, o1, g1⟩ := O0.out.update lawK Tryz.underlying166 (by unfold maxLen; omega) (keyK (y := 1) (by unfold I64; omega)) (myR1 bp bb ba bt bi)
  have H1 := hid (H0.out.grown HV.out rfl g1)
  obtain ⟨w2, r2, o2, g2⟩ := o1.update lawK Tryz.underlying166 (by unfold maxLen; omega) (keyK (y := 2) (by unfold I64; omega)) (myR2 bp bb ba bt bi)
  have H2 := hid (H1.out.grown HV.out rfl g2)
  obtain ⟨w3, r3, o3, g3⟩ := o2.update lawK Tryz.underlying166 (by unfold maxLen; omega) (keyK (y := 3) (by unfold I64; omega)) (myR3 bp bb ba bt bi)
  have H3 := hid (H2.out.grown HV.out rfl g3)
  obtain ⟨w4, r4, o4, g4⟩ := o3.update lawK Tryz.underlying166 (by unfold maxLen; omega) (keyK (y := 4) (by unfold I64; omega)) (myR4 bp bb ba bt bi)
  have H4 := hid (H3.out.grown HV.out rfl g4)
  have lk4 := my_look4 (show w4.ownsMap Tryz.prog 3 (myR bp bb ba bt bi) V.heap.size 4 myD4 from o4)
  obtain ⟨w5, r5, o5, g5⟩ := o4.update lawK Tryz.underlying166 (by unfold maxLen; omega) (keyK (y := 5) (by unfold I64; omega)) (myR4 bp bb ba bt bi)
  have H5 := hid (H4.out.grown HV.out rfl g5)
  have O5 := hid (show w5.ownsMap Tryz.prog 3 (myR bp bb ba bt bi) V.heap.size 5 myD5 from o5)
  unfold myC1 at r1
  unfold myC2 at r2
  unfold myC3 at r3
  unfold myC4 at r4 lk4 r5
  clear o1 o2 o3 o4 o5 g1 g2 g3 g4 g5 H1 H2 H3 H4 O0 H0
  go_upto_region 5 with fail
  clear r1 r2 r3 r4 r5 lk4 hmm
  obtain ⟨x0, x1, x2, x3, x4, x5, x6, x7, x8, x9⟩ := prA10 H5.out.hp
  have t0 := H5.out.t0
  have hnq := my_neq; have hnz := my_neq0
  obtain ⟨v, hlk, hv⟩ := my_look5 O5.out HPI.out.1
  clear O5 HV
  generalize V.heap.size = mb at *
  rcases hv with ⟨hmk, rfl⟩ | ⟨hmk, rfl⟩ | ⟨hmk, rfl⟩ | ⟨hmk, rfl⟩ | ⟨hmk, rfl⟩
  · have hk := myK_1 hmk
    have HI := hid (show paI X xs y p = (paL X p.n) from by unfold paI; rw [if_pos hk])
    have HB := hid (show paB p = ⟨p.k, p.f, p.n, 0, 0⟩ from by unfold paB; rw [if_pos (by omega)])
    have HE := hid (show r = (pres xs p.f && ((paL X p.n) && samP p ⟨p.k, p.f, p.n, 0, 0⟩)) from by rw [HR.out]; unfold paM; rw [HI.out, HB.out, decide_eq_true (show 1 ≤ p.k ∧ p.k ≤ 5 from by omega), Bool.true_and])
    clear hk hmk
    unfold myC1 at hlk
    have HM := hid (pmember_any (HTR.out.ext H5.out.bl) hn p.f)
    have HCL := hid (my1_any H5.out HA.out)
    rcases hm : pres xs p.f with _ | _
    · have HF := hid (show r = false from by rw [HE.out, hm]; rfl)
      rw [hm] at HM
      clear hm HCL
      go_wp2_with fail
      refine HM.out.mono ?_
      rintro e w7 ⟨rfl, b7⟩
      have b7' := b7.symm
      clear b7
      subst b7'
      clear HM
      go_wp2_with fail
      go_ret
      exact ⟨by first | rfl | (rw [HF.out]; try rfl), H5.out.bl⟩
    have HE1 := hid (show r = ((paL X p.n) && samP p ⟨p.k, p.f, p.n, 0, 0⟩) from by rw [HE.out, hm, Bool.true_and])
    rw [hm] at HM
    clear hm HE
    rcases hb : (paL X p.n) with _ | _
    · have HF := hid (show r = false from by rw [HE1.out, hb]; rfl)
      rw [hb] at HCL
      clear hb HE1
      go_wp2_with fail
      refine HM.out.mono ?_
      rintro e w7 ⟨rfl, b7⟩
      have b7' := b7.symm
      clear b7
      subst b7'
      clear HM
      go_wp2_with fail
      refine HCL.out.mono ?_
      rintro e w8 ⟨rfl, h8⟩
      have H8 := hid h8
      clear h8 HCL
      go_wp2_with fail
      go_ret
      exact ⟨by first | rfl | (rw [HF.out]; try rfl), H8.out.bl⟩
    have HF := hid (show r = samP p ⟨p.k, p.f, p.n, 0, 0⟩ from by rw [HE1.out, hb, Bool.true_and])
    rw [hb] at HCL
    clear hb HE1
    go_wp2_with fail
    refine HM.out.mono ?_
    rintro e w7 ⟨rfl, b7⟩
    have b7' := b7.symm
    clear b7
    subst b7'
    clear HM
    go_wp2_with fail
    refine HCL.out.mono ?_
    rintro e w8 ⟨rfl, h8⟩
    have H8 := hid h8
    have HC := hid (psame_any (p := p) (q := ⟨p.k, p.f, p.n, 0, 0⟩) (A := Ap) (B := Ap) (c := cp) (d := cp) (HS.out.ext h8.bl) (HS.out.ext h8.bl) HU.out HU.out)
    obtain ⟨z0, z1, z2, z3, z4, z5, z6, z7, z8, z9⟩ := prA10 h8.hp
    obtain ⟨q0, q1, q2, q3, q4, q5, q6, q7, q8, q9⟩ := prA10 h8.hb
    rw [← HF.out] at HC
    unfold prV at HC
    dsimp only [tn0, zeroN] at q0 q1 q2 q3 q4 q5 q6 q7 q8 q9 HC
    clear h8 HCL x0 x1 x2 x3 x4 x5 x6 x7 x8 x9
    go_wp2_with fail
    refine HC.out.mono ?_
    rintro e w9 ⟨rfl, b9⟩
    have B9 := hid (H8.out.bl.trans (b9.mono H8.out.bl.size))
    clear b9 HC
    go_wp2_with fail
    go_ret
    exact ⟨rfl, B9.out⟩
  · have hk := myK_2 hmk
    have HI := hid (show paI X xs y p = (paL X p.n && p.f != y) from by unfold paI; rw [if_neg (by omega), if_pos hk])
    have HB := hid (show paB p = ⟨p.k, p.f, p.n, 0, 0⟩ from by unfold paB; rw [if_pos (by omega)])
    have HE := hid (show r = (pres xs p.f && ((paL X p.n && p.f != y) && samP p ⟨p.k, p.f, p.n, 0, 0⟩)) from by rw [HR.out]; unfold paM; rw [HI.out, HB.out, decide_eq_true (show 1 ≤ p.k ∧ p.k ≤ 5 from by omega), Bool.true_and])
    clear hk hmk
    unfold myC2 at hlk
    have HM := hid (pmember_any (HTR.out.ext H5.out.bl) hn p.f)
    have HCL := hid (my2_any H5.out HA.out)
    rcases hm : pres xs p.f with _ | _
    · have HF := hid (show r = false from by rw [HE.out, hm]; rfl)
      rw [hm] at HM
      clear hm HCL
      go_wp2_with fail
      refine HM.out.mono ?_
      rintro e w7 ⟨rfl, b7⟩
      have b7' := b7.symm
      clear b7
      subst b7'
      clear HM
      go_wp2_with fail
      go_ret
      exact ⟨by first | rfl | (rw [HF.out]; try rfl), H5.out.bl⟩
    have HE1 := hid (show r = ((paL X p.n && p.f != y) && samP p ⟨p.k, p.f, p.n, 0, 0⟩) from by rw [HE.out, hm, Bool.true_and])
    rw [hm] at HM
    clear hm HE
    rcases hb : (paL X p.n && p.f != y) with _ | _
    · have HF := hid (show r = false from by rw [HE1.out, hb]; rfl)
      rw [hb] at HCL
      clear hb HE1
      go_wp2_with fail
      refine HM.out.mono ?_
      rintro e w7 ⟨rfl, b7⟩
      have b7' := b7.symm
      clear b7
      subst b7'
      clear HM
      go_wp2_with fail
      refine HCL.out.mono ?_
      rintro e w8 ⟨rfl, h8⟩
      have H8 := hid h8
      clear h8 HCL
      go_wp2_with fail
      go_ret
      exact ⟨by first | rfl | (rw [HF.out]; try rfl), H8.out.bl⟩
    have HF := hid (show r = samP p ⟨p.k, p.f, p.n, 0, 0⟩ from by rw [HE1.out, hb, Bool.true_and])
    rw [hb] at HCL
    clear hb HE1
    go_wp2_with fail
    refine HM.out.mono ?_
    rintro e w7 ⟨rfl, b7⟩
    have b7' := b7.symm
    clear b7
    subst b7'
    clear HM
    go_wp2_with fail
    refine HCL.out.mono ?_
    rintro e w8 ⟨rfl, h8⟩
    have H8 := hid h8
    have HC := hid (psame_any (p := p) (q := ⟨p.k, p.f, p.n, 0, 0⟩) (A := Ap) (B := Ap) (c := cp) (d := cp) (HS.out.ext h8.bl) (HS.out.ext h8.bl) HU.out HU.out)
    obtain ⟨z0, z1, z2, z3, z4, z5, z6, z7, z8, z9⟩ := prA10 h8.hp
    obtain ⟨q0, q1, q2, q3, q4, q5, q6, q7, q8, q9⟩ := prA10 h8.hb
    rw [← HF.out] at HC
    unfold prV at HC
    dsimp only [tn0, zeroN] at q0 q1 q2 q3 q4 q5 q6 q7 q8 q9 HC
    clear h8 HCL x0 x1 x2 x3 x4 x5 x6 x7 x8 x9
    go_wp2_with fail
    refine HC.out.mono ?_
    rintro e w9 ⟨rfl, b9⟩
    have B9 := hid (H8.out.bl.trans (b9.mono H8.out.bl.size))
    clear b9 HC
    go_wp2_with fail
    go_ret
    exact ⟨rfl, B9.out⟩
  · have hk := myK_3 hmk
    have HI := hid (show paI X xs y p = (pres xs p.a && p.a != y) from by unfold paI; rw [if_neg (by omega), if_neg (by omega), if_pos hk])
    have HB := hid (show paB p = ⟨p.k, p.f, zeroN, p.a, 0⟩ from by unfold paB; rw [if_neg (by omega), if_pos hk])
    have HE := hid (show r = (pres xs p.f && ((pres xs p.a && p.a != y) && samP p ⟨p.k, p.f, zeroN, p.a, 0⟩)) from by rw [HR.out]; unfold paM; rw [HI.out, HB.out, decide_eq_true (show 1 ≤ p.k ∧ p.k ≤ 5 from by omega), Bool.true_and])
    clear hk hmk
    unfold myC3 at hlk
    have HM := hid (pmember_any (HTR.out.ext H5.out.bl) hn p.f)
    have HCL := hid (my3_any H5.out HTR.out hn)
    rcases hm : pres xs p.f with _ | _
    · have HF := hid (show r = false from by rw [HE.out, hm]; rfl)
      rw [hm] at HM
      clear hm HCL
      go_wp2_with fail
      refine HM.out.mono ?_
      rintro e w7 ⟨rfl, b7⟩
      have b7' := b7.symm
      clear b7
      subst b7'
      clear HM
      go_wp2_with fail
      go_ret
      exact ⟨by first | rfl | (rw [HF.out]; try rfl), H5.out.bl⟩
    have HE1 := hid (show r = ((pres xs p.a && p.a != y) && samP p ⟨p.k, p.f, zeroN, p.a, 0⟩) from by rw [HE.out, hm, Bool.true_and])
    rw [hm] at HM
    clear hm HE
    rcases hb : (pres xs p.a && p.a != y) with _ | _
    · have HF := hid (show r = false from by rw [HE1.out, hb]; rfl)
      rw [hb] at HCL
      clear hb HE1
      go_wp2_with fail
      refine HM.out.mono ?_
      rintro e w7 ⟨rfl, b7⟩
      have b7' := b7.symm
      clear b7
      subst b7'
      clear HM
      go_wp2_with fail
      refine HCL.out.mono ?_
      rintro e w8 ⟨rfl, h8⟩
      have H8 := hid h8
      clear h8 HCL
      go_wp2_with fail
      go_ret
      exact ⟨by first | rfl | (rw [HF.out]; try rfl), H8.out.bl⟩
    have HF := hid (show r = samP p ⟨p.k, p.f, zeroN, p.a, 0⟩ from by rw [HE1.out, hb, Bool.true_and])
    rw [hb] at HCL
    clear hb HE1
    go_wp2_with fail
    refine HM.out.mono ?_
    rintro e w7 ⟨rfl, b7⟩
    have b7' := b7.symm
    clear b7
    subst b7'
    clear HM
    go_wp2_with fail
    refine HCL.out.mono ?_
    rintro e w8 ⟨rfl, h8⟩
    have H8 := hid h8
    have HC := hid (psame_any (p := p) (q := ⟨p.k, p.f, zeroN, p.a, 0⟩) (A := Ap) (B := none) (c := cp) (d := 0) (HS.out.ext h8.bl) (SlA.nil _ _) HU.out (by simp [zeroN]))
    obtain ⟨z0, z1, z2, z3, z4, z5, z6, z7, z8, z9⟩ := prA10 h8.hp
    obtain ⟨q0, q1, q2, q3, q4, q5, q6, q7, q8, q9⟩ := prA10 h8.hb
    rw [← HF.out] at HC
    unfold prV at HC
    dsimp only [tn0, zeroN] at q0 q1 q2 q3 q4 q5 q6 q7 q8 q9 HC
    clear h8 HCL x0 x1 x2 x3 x4 x5 x6 x7 x8 x9
    go_wp2_with fail
    refine HC.out.mono ?_
    rintro e w9 ⟨rfl, b9⟩
    have B9 := hid (H8.out.bl.trans (b9.mono H8.out.bl.size))
    clear b9 HC
    go_wp2_with fail
    go_ret
    exact ⟨rfl, B9.out⟩
  · have hk := myK_4 hmk
    have HI := hid (show paI X xs y p = ([p.t].all (hasB X)) from by unfold paI; rw [if_neg (by omega), if_neg (by omega), if_neg (by omega)])
    have HB := hid (show paB p = ⟨p.k, p.f, zeroN, 0, p.t⟩ from by unfold paB; rw [if_neg (by omega), if_neg (by omega)])
    have HE := hid (show r = (pres xs p.f && (([p.t].all (hasB X)) && samP p ⟨p.k, p.f, zeroN, 0, p.t⟩)) from by rw [HR.out]; unfold paM; rw [HI.out, HB.out, decide_eq_true (show 1 ≤ p.k ∧ p.k ≤ 5 from by omega), Bool.true_and])
    clear hk hmk
    unfold myC4 at hlk
    have HM := hid (pmember_any (HTR.out.ext H5.out.bl) hn p.f)
    have HCL := hid (my4_any H5.out HA.out)
    rcases hm : pres xs p.f with _ | _
    · have HF := hid (show r = false from by rw [HE.out, hm]; rfl)
      rw [hm] at HM
      clear hm HCL
      go_wp2_with fail
      refine HM.out.mono ?_
      rintro e w7 ⟨rfl, b7⟩
      have b7' := b7.symm
      clear b7
      subst b7'
      clear HM
      go_wp2_with fail
      go_ret
      exact ⟨by first | rfl | (rw [HF.out]; try rfl), H5.out.bl⟩
    have HE1 := hid (show r = (([p.t].all (hasB X)) && samP p ⟨p.k, p.f, zeroN, 0, p.t⟩) from by rw [HE.out, hm, Bool.true_and])
    rw [hm] at HM
    clear hm HE
    rcases hb : ([p.t].all (hasB X)) with _ | _
    · have HF := hid (show r = false from by rw [HE1.out, hb]; rfl)
      rw [hb] at HCL
      clear hb HE1
      go_wp2_with fail
      refine HM.out.mono ?_
      rintro e w7 ⟨rfl, b7⟩
      have b7' := b7.symm
      clear b7
      subst b7'
      clear HM
      go_wp2_with fail
      refine HCL.out.mono ?_
      rintro e w8 ⟨rfl, h8⟩
      have H8 := hid h8
      clear h8 HCL
      go_wp2_with fail
      go_ret
      exact ⟨by first | rfl | (rw [HF.out]; try rfl), H8.out.bl⟩
    have HF := hid (show r = samP p ⟨p.k, p.f, zeroN, 0, p.t⟩ from by rw [HE1.out, hb, Bool.true_and])
    rw [hb] at HCL
    clear hb HE1
    go_wp2_with fail
    refine HM.out.mono ?_
    rintro e w7 ⟨rfl, b7⟩
    have b7' := b7.symm
    clear b7
    subst b7'
    clear HM
    go_wp2_with fail
    refine HCL.out.mono ?_
    rintro e w8 ⟨rfl, h8⟩
    have H8 := hid h8
    have HC := hid (psame_any (p := p) (q := ⟨p.k, p.f, zeroN, 0, p.t⟩) (A := Ap) (B := none) (c := cp) (d := 0) (HS.out.ext h8.bl) (SlA.nil _ _) HU.out (by simp [zeroN]))
    obtain ⟨z0, z1, z2, z3, z4, z5, z6, z7, z8, z9⟩ := prA10 h8.hp
    obtain ⟨q0, q1, q2, q3, q4, q5, q6, q7, q8, q9⟩ := prA10 h8.hb
    rw [← HF.out] at HC
    unfold prV at HC
    dsimp only [tn0, zeroN] at q0 q1 q2 q3 q4 q5 q6 q7 q8 q9 HC
    clear h8 HCL x0 x1 x2 x3 x4 x5 x6 x7 x8 x9
    go_wp2_with fail
    refine HC.out.mono ?_
    rintro e w9 ⟨rfl, b9⟩
    have B9 := hid (H8.out.bl.trans (b9.mono H8.out.bl.size))
    clear b9 HC
    go_wp2_with fail
    go_ret
    exact ⟨rfl, B9.out⟩
  · have hk := myK_0 hmk
    have HF := hid (show r = false from by rw [HR.out]; unfold paM; rw [decide_eq_false hk]; rfl)
    clear hk hmk
    go_wp2_with fail
    go_ret
    exact ⟨by first | rfl | (rw [HF.out]; try rfl), H5.out.bl⟩
end
end Go.Proofs.YtpkijlmkgomfeaaGreatDoor

/- proposals: whether a tree's leaves are of other terms each. -/
namespace Go.Proofs.YtpkijlmkgomfeaaGreatDoor
open Go.RowKit Go.KK Go.Shelf Go.Maps
set_option linter.unusedVariables false
set_option linter.unusedSimpArgs false

/-- A set of pairs. -/
def MtQ (W : World) (mb : Nat) (M : List (Int × Int)) : Prop := ∃ (D : MD) (n : Nat), W.ownsMap Tryz.prog 113 (plainElem Tryz.prog 4) mb n D ∧ n ≤ M.length ∧ Tidy D ∧
  (∀ a b, I64 a → I64 b → D.atKey (kp a b) (.lit (.bool false)) = .lit (.bool (decide ((a, b) ∈ M))))
theorem MtQ.new (w : World) : MtQ (w.alloc (.map #[] 0)) w.heap.size [] :=
  ⟨_, 0, World.ownsMap_made (H := Unit) w Tryz.prog 113 (plainElem Tryz.prog 4), Nat.le_refl _, tidy_empty, fun a b _ _ => rfl⟩
section
variable {w w' : World} {mb : Nat} {M : List (Int × Int)}
theorem MtQ.look (h : MtQ w mb M) {a b : Int} (ha : I64 a) (hb : I64 b) : (Instr.lookup 49 (.map (some mb)) (.agg #[.int .i64 a, .int .i64 b]) false).run Tryz.prog w = .ok (.bool (decide ((a, b) ∈ M))) w := by
  obtain ⟨D, n, h1, -, -, h4⟩ := h
  obtain ⟨v, ps, hrun, hv⟩ := h1.lookup law2 Tryz.underlying49 (zeroP w) (plainElem_bool Tryz.underlying4 false) (key_pair ha hb)
  obtain ⟨x, rfl, e⟩ := plainP_inv Tryz.underlying4 hv
  have e1 := (Prod.mk.inj e).1
  rw [h4 a b ha hb] at e1
  have e2 : decide ((a, b) ∈ M) = x := litP_inj e1
  rw [hrun, e2]
theorem MtQ.block (h : MtQ w mb M) (hb : w'.heap[mb]? = w.heap[mb]?) : MtQ w' mb M := by
  obtain ⟨D, n, h1, r⟩ := h
  exact ⟨D, n, map_block h1 hb, r⟩
theorem MtQ.lt (h : MtQ w mb M) : mb < w.heap.size := by
  obtain ⟨D, n, ⟨es, clock, h1, _⟩, -⟩ := h
  exact (Array.getElem?_eq_some_iff.1 h1).1
theorem MtQ.ext (h : MtQ w mb M) (hb : Below w.heap.size w w') : MtQ w' mb M := h.block (hb.block mb h.lt)
theorem MtQ.put {a b : Int} (ha : I64 a) (hb : I64 b) {D : MD} {n : Nat} (hnl : n ≤ M.length) (ht : Tidy D)
    (hat : ∀ a b, I64 a → I64 b → D.atKey (kp a b) (.lit (.bool false)) = .lit (.bool (decide ((a, b) ∈ M)))) (hw : w'.ownsMap Tryz.prog 113 (plainElem Tryz.prog 4) mb (n + 1) (D.put (kp a b) (.lit (.bool true)))) : MtQ w' mb (M ++ [(a, b)]) := by
  refine ⟨_, _, hw, by simp; omega, ht.put (by trivial) _, fun p q hp hq => ?_⟩
  by_cases e : p = a ∧ q = b
  · obtain ⟨rfl, rfl⟩ := e
    rw [Maps.atKey_put_same ht.isMap (by trivial)]; simp
  · have hne : kp p q ≠ kp a b := fun k => e (kp_inj hp hq ha hb k)
    rw [Maps.atKey_put_other hne, hat p q hp hq]
    congr 2
    simp only [List.mem_append, List.mem_singleton, Prod.mk.injEq, e, or_false]
end
theorem dstA_succ (xs : List TN) (j : Nat) : dstA xs (j + 1) = dstA xs j ++ dstL xs j := by unfold dstA; rw [List.range_succ, List.flatMap_append]; simp
theorem dstL_le (xs : List TN) (j : Nat) : (dstL xs j).length ≤ 3 := by unfold dstL; split <;> simp
theorem dstA_le (xs : List TN) : ∀ j, (dstA xs j).length ≤ 3 * j
  | 0 => by simp [dstA]
  | j + 1 => by rw [dstA_succ, List.length_append]; have := dstA_le xs j; have := dstL_le xs j; omega
theorem dstA_nodup {xs : List TN} {j : Nat} : ∀ {k : Nat}, j ≤ k → (dstA xs k).Nodup → (dstA xs j).Nodup
  | 0, h, hk => by rw [show j = 0 by omega]; exact hk
  | k + 1, h, hk => by
    by_cases e : j = k + 1
    · subst e; exact hk
    · rw [dstA_succ, List.nodup_append] at hk
      exact dstA_nodup (by omega) hk.1
theorem paD_no {xs : List TN} {j : Nat} (hj : j ≤ lvN xs.length) (h : ¬ (dstA xs j).Nodup) : paD xs = false := by
  unfold paD
  rw [decide_eq_false fun hh => h (dstA_nodup hj hh), Bool.and_false]
def TnJ (x : TN) : Prop := I64 x.i ∧ I64 x.e ∧ I64 x.s
theorem idx30 (a b c : Int) (w : World) : (Instr.index 176 (.agg #[.int .i64 a, .int .i64 b, .int .i64 c]) (.int .i64 0)).run Tryz.prog w = .ok (.int .i64 a) w := by kernel_rfl
theorem idx31 (a b c : Int) (w : World) : (Instr.index 176 (.agg #[.int .i64 a, .int .i64 b, .int .i64 c]) (.int .i64 1)).run Tryz.prog w = .ok (.int .i64 b) w := by kernel_rfl
theorem idx32 (a b c : Int) (w : World) : (Instr.index 176 (.agg #[.int .i64 a, .int .i64 b, .int .i64 c]) (.int .i64 2)).run Tryz.prog w = .ok (.int .i64 c) w := by kernel_rfl
theorem idx3 (a b c : Int) (k : Nat) (hk : k < 3) (w : World) : (Instr.index 176 (.agg #[.int .i64 a, .int .i64 b, .int .i64 c]) (.int .i64 (k : Nat))).run Tryz.prog w = .ok (.int .i64 ([a, b, c].getD k 0)) w := by
  have h : k = 0 ∨ k = 1 ∨ k = 2 := by omega
  rcases h with rfl | rfl | rfl
  · exact idx30 a b c w
  · exact idx31 a b c w
  · exact idx32 a b c w
def tri (a b c : Int) : List (Int × Int) := [(0, a), (1, b), (2, c)]
theorem tri_take (a b c : Int) {k : Nat} (hk : k < 3) : (tri a b c).take (k + 1) = (tri a b c).take k ++ [((k : Int), [a, b, c].getD k 0)] := by
  have h : k = 0 ∨ k = 1 ∨ k = 2 := by omega
  rcases h with rfl | rfl | rfl <;> rfl
set_option maxHeartbeats 8000000 in
set_option maxRecDepth 100000 in
theorem distinct_any {W : World} {A : Option Addr} {n c : Nat} {xs : List TN} (h : Tr W A n c xs) (hn : n ≤ 600) (hT : Tab W) (hu : Shorts xs) (hi : ∀ x ∈ xs, TnJ x) :
    Calls Tryz.prog 53 #[.slice A n c] W fun e w' => e = .returned (.bool (paD xs)) ∧ Below W.heap.size W w' := by
  have HL := hid h.len; have HI := hid hi; have HP := hid h
  have HC := hid (chk_any A n c xs W h hn hT hu)
  unfold chkE at HC
  obtain ⟨r, hr⟩ : ∃ r, r = paD xs := ⟨_, rfl⟩
  have HR := hid hr
  rw [← hr]
  clear h hi hr hT hu
  rcases hk : chkB xs with _ | _
  · have HE := hid (show r = false from by rw [HR.out]; unfold paD; rw [hk]; rfl)
    rw [hk] at HC
    clear hk
    go_enter Tryz.func53, Tryz.ntmps53
    go_wp2_with fail
    refine HC.out.mono ?_
    rintro e w6 ⟨rfl, b6⟩
    have B6 := hid b6
    clear b6 HC
    go_wp2_with fail
    go_ret
    exact ⟨by first | rfl | (rw [HE.out]; try rfl), B6.out⟩
  rw [hk] at HC
  have HR2 := hid (show r = decide (dstA xs (lvN xs.length)).Nodup from by rw [HR.out]; unfold paD; rw [hk, Bool.true_and])
  clear hk
  have hmm := @run_makeMap Tryz.prog
  go_enter Tryz.func53, Tryz.ntmps53
  go_wp2_with fail
  refine HC.out.mono ?_
  rintro e w6 ⟨rfl, b6⟩
  have HB0 := hid (b6.alloc b6.size (.map #[] 0))
  have HM0 := hid (MtQ.new w6)
  have hsz := b6.size
  clear b6 HC
  go_upto_region 4 with fail
  obtain ⟨mb, hmb⟩ : ∃ mb, mb = w6.heap.size := ⟨_, rfl⟩
  rw [← hmb] at HM0 ⊢
  have HMB := hid (show W.heap.size ≤ mb from by omega)
  clear hmb hsz
  generalize hW1 : w6.alloc (.map #[] 0) = W1 at *
  clear hW1
  go_wp2_with fail
  go_loopw [4] (fun i wr => ∃ j : Nat, i = .int .i64 (2 * j : Nat) ∧ 2 * j ≤ n + 1 ∧ Hid ((dstA xs j).Nodup) ∧ Hid (MtQ wr mb (dstA xs j)) ∧ Hid (Below W.heap.size W wr)) (fun i _ => n + 1 - (intOf i).toNat)
  case atStart => exact ⟨0, rfl, by omega, hid (by simp [dstA]), HM0, HB0⟩
  case round =>
    clear HM0 HB0
    obtain ⟨j, hij, hj, HN, HM, HB⟩ := hrel
    subst hij
    by_cases hlt : 2 * j < n
    · obtain ⟨b, o, x, A', c', rfl, hx, d0, d1, d2, d3, d4, d5, -⟩ := (HP.out.ext HB.out).at hlt
      have hlt' : ((2 * j : Nat) : Int) < (n : Int) := by omega
      have HKD := hid (kd_at9 hx)
      have HTN := hid (show tnF xs (2 * j) = x from by
        have := tn_get (xs := xs) (x := 2 * j) (by rw [HL.out]; exact hlt)
        rw [hx] at this; exact (Option.some.inj this).symm)
      obtain ⟨wi, we, ws⟩ := HI.out x (List.mem_of_getElem? hx)
      have HIX := hid (show I64 x.i ∧ I64 x.e ∧ I64 x.s from ⟨wi, we, ws⟩)
      have HDS := hid (dstA_succ xs j)
      have HJL := hid (show j + 1 ≤ lvN xs.length from by rw [HL.out]; unfold lvN; omega)
      have HML := hid (show (dstA xs j).length ≤ 3000 from by have := dstA_le xs j; omega)
      have HNX := hid (fun (h : ¬ (dstA xs (j + 1)).Nodup) => paD_no HJL.out h)
      clear hx wi we ws
      obtain ⟨m, hm⟩ : ∃ m : Nat, m = 2 * j := ⟨_, rfl⟩
      have HM2J := hid hm
      have hm2 : IntKind.i64.wrap ((m : Int) + 2) = ((2 * (j + 1) : Nat) : Int) := by rw [IntKind.wrap_i64]; omega
      rw [← hm] at hlt hlt' hj d0 d1 d2 d3 d4 d5 HKD HTN ⊢
      by_cases hk1 : x.k = 1
      · have HD1 := hid (show dstA xs (j + 1) = dstA xs j ++ tri x.i x.e x.s from by
          rw [HDS.out]
          unfold dstL
          rw [← hm, if_pos (HKD.out.trans hk1), HTN.out]
          rfl)
        rw [hk1] at d0
        have hidx := fun (k : Nat) (hk : k < 3) (w : World) => idx3 x.i x.e x.s k hk w
        have HIDX := hid hidx
        clear hidx hk1 hm
        go_upto_region 8 with fail
        go_quiet (fail)
        generalize hM : dstA xs j = M at *
        generalize hW2 : wr.drewN nq = W2 at *
        have HM2 := hid (show MtQ W2 mb M from by rw [← hW2]; exact HM.out.block rfl)
        have HB2 := hid (show Below W.heap.size W W2 from by rw [← hW2]; exact below_drewN HB.out _)
        clear hW2 HM HB d0 d1 d2 d3 d4 d5
        go_wp2_with fail
        go_loopw [39] (fun i wq => ∃ k : Nat, i = .int .i64 (k : Nat) ∧ k ≤ 3 ∧ Hid ((M ++ (tri x.i x.e x.s).take k).Nodup) ∧ Hid (MtQ wq mb (M ++ (tri x.i x.e x.s).take k)) ∧ Hid (Below W.heap.size W wq)) (fun i _ => 3 - (intOf i).toNat)
        case atStart => exact ⟨0, rfl, by omega, hid (by simpa [tri] using HN.out), hid (by simpa [tri] using HM2.out), HB2⟩
        case round =>
          clear HM2 HB2
          obtain ⟨k, hik, hk, HN3, HM3, HB3⟩ := hrel
          subst hik
          by_cases hk3 : k < 3
          · have hk3' : (k : Int) < 3 := by omega
            have hidx := HIDX.out k hk3 wr
            have HT3 := hid (tri_take x.i x.e x.s hk3)
            have HV0 := hid (show I64 ([x.i, x.e, x.s].getD k 0) from by
              have h : k = 0 ∨ k = 1 ∨ k = 2 := by omega
              rcases h with rfl | rfl | rfl
              · exact HIX.out.1
              · exact HIX.out.2.1
              · exact HIX.out.2.2)
            generalize hv : [x.i, x.e, x.s].getD k 0 = v at *
            clear hv
            have HKI := hid (show I64 (k : Int) from by unfold I64; omega)
            have hlk := HM3.out.look HKI.out HV0.out
            have HTL := hid (show ((tri x.i x.e x.s).take k).length ≤ 3 from by rw [List.length_take]; unfold tri; simp; omega)
            have HSP := hid (show (dstA xs (j + 1)).Nodup → (M ++ (tri x.i x.e x.s).take (k + 1)).Nodup from fun h => by
              rw [HD1.out] at h
              have e : M ++ tri x.i x.e x.s = (M ++ (tri x.i x.e x.s).take (k + 1)) ++ (tri x.i x.e x.s).drop (k + 1) := by rw [List.append_assoc, List.take_append_drop]
              rw [e] at h
              exact (List.nodup_append.1 h).1)
            rw [HT3.out, ← List.append_assoc] at HSP
            generalize hL : M ++ (tri x.i x.e x.s).take k = L at *
            by_cases hm : ((k : Int), v) ∈ L
            · have HF := hid (show r = false from HR.out.trans <| HNX.out fun h => by
                have := HSP.out h
                rw [List.nodup_append] at this
                exact this.2.2 _ hm _ (List.mem_singleton.2 rfl) rfl)
              rw [decide_eq_true hm] at hlk
              clear hm hL
              go_wp2_with fail
              go_ret
              exact ⟨by first | rfl | (rw [HF.out]; try rfl), HB3.out⟩
            · rw [decide_eq_false hm] at hlk
              have HN1 := hid (show (L ++ [((k : Int), v)]).Nodup from List.nodup_append.2 ⟨HN3.out, by simp, fun x hx y hy e => hm (by rw [← List.mem_singleton.1 hy, ← e]; exact hx)⟩)
              obtain ⟨D, mm, o1, o2, o3, o4⟩ := HM3.out
              have HO := hid o1; have HLM := hid o2; have HTD := hid o3; have HAT := hid o4
              have HLL := hid (show L.length ≤ 4000 from by rw [← hL, List.length_append]; have := HTL.out; have := HML.out; omega)
              have HKEY := hid (key_pair HKI.out HV0.out)
              have HL1 := hid (show M ++ (tri x.i x.e x.s).take (k + 1) = L ++ [((k : Int), v)] from by rw [HT3.out, ← List.append_assoc, hL])
              clear o1 o2 o3 o4 hm hL
              go_wp2_with (first
                | (at_mapUpdate; refine wpList_mapUpdate_own _ rfl _ _ _ 49 rfl 113 4 law2 Tryz.underlying49 _ mb mm D rfl HO.out (by have := HLM.out; have := HLL.out; unfold maxLen; omega) _ _ (kp (k : Int) v) rfl rfl HKEY.out (.lit (.bool true)) [] (plainElem_bool Tryz.underlying4 true) ?_; intro w5 ho5 hg5; have HO5 := hid ho5; have HG5 := hid hg5; clear ho5 hg5))
              go_roundw
              case rel => exact ⟨k + 1, by go_num, by omega, hid (by rw [HL1.out]; exact HN1.out), hid (by rw [HL1.out]; exact MtQ.put HKI.out HV0.out HLM.out HTD.out HAT.out HO5.out), hid (grown_bel HB3.out HG5.out HMB.out)⟩
              case measure => simp [intOf]; omega
          · have hk33 : k = 3 := by omega
            subst hk33
            have HE3 := hid (show M ++ (tri x.i x.e x.s).take 3 = dstA xs (j + 1) from by rw [HD1.out]; rfl)
            rw [HE3.out] at HN3 HM3
            clear hk3
            go_wp2_with fail
            go_roundw
            case rel => exact ⟨j + 1, by go_num, by have := HM2J.out; omega, HN3, HM3, HB3⟩
            case measure => have := HM2J.out; simp [intOf]; omega
      · have hk1' : (x.k != 1) = true := bne_iff_ne.2 hk1
        have HD1 := hid (show dstA xs (j + 1) = dstA xs j from by
          rw [HDS.out]
          unfold dstL
          rw [← hm, if_neg (by rw [HKD.out]; exact hk1), List.append_nil])
        clear hk1 hm
        go_wp2_with fail
        go_roundw
        case rel => exact ⟨j + 1, by go_num, by have := HM2J.out; omega, hid (by rw [HD1.out]; exact HN.out), hid (by rw [HD1.out]; exact HM.out), HB⟩
        case measure => have := HM2J.out; simp [intOf]; omega
    · have HF := hid (show r = true from by
        rw [HR2.out, show lvN xs.length = j from by rw [HL.out]; unfold lvN; omega, decide_eq_true HN.out])
      go_wp2_with fail
      go_ret
      exact ⟨by first | rfl | (rw [HF.out]; try rfl), HB.out⟩
end Go.Proofs.YtpkijlmkgomfeaaGreatDoor

