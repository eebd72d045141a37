import Derived.Test.YtpkijlmkgomfeaaGreatDoorW13
import Derived.Test.YtpkijlmkgomfeaaGreatDoorW08
import Derived.Test.YtpkijlmkgomfeaaGreatDoorW06
import Derived.Test.YtpkijlmkgomfeaaGreatDoorW09
import Derived.Test.YtpkijlmkgomfeaaGreatDoorW05
import Derived.Test.YtpkijlmkgomfeaaGreatDoorW10
import Derived.Deep.CutBlock
import Derived.Deep.DeepCutAuto
import Derived.Deep.RegionHeld3
import Derived.Deep.QuietTactic
import Derived.BigQuiet
/- proposals: law 15's live. -/
namespace Go.Proofs.YtpkijlmkgomfeaaGreatDoor
open Go.RowKit Go.KK Go.Shelf Go.Maps
set_option linter.unusedVariables false
set_option linter.unusedSimpArgs false

def lv15 : List TN := [⟨1, 1, 21, 31, 0, []⟩, zeroN, ⟨1, 2, 22, 32, 0, []⟩]
def lvP (a : Int) : PR := ⟨3, 0, zeroN, a, 0⟩
theorem l15a : (paR x15 lv15 0 [lvP 1]).2 = 0 ∧ (paR x15 lv15 0 [lvP 1]).1.t.length = 1 ∧ (paR x15 lv15 0 [lvP 1]).1.go = [1] := by decide +kernel
theorem l15b : (paR x15 lv15 0 [lvP 0]).2 = 70 := by decide +kernel
def lit15 : Array Value := #[.int .i64 1, .int .i64 1, .int .i64 21, .int .i64 31, .int .i64 0, .slice none 0 0, .int .i64 0, .int .i64 0, .int .i64 0, .int .i64 0, .int .i64 0, .slice none 0 0, .int .i64 1, .int .i64 2, .int .i64 22, .int .i64 32, .int .i64 0, .slice none 0 0]
theorem tr_lit15 {V : World} {b : Nat} (h : V.heap[b]? = some (.cells lit15 37 (0, 0))) : Tr V (some ⟨b, 0, none⟩) 3 3 lv15 := by
  refine ⟨[.slice none 0 0, .slice none 0 0, .slice none 0 0], rfl, ⟨Nat.le_refl _, by decide, rfl, fun j u hj => ⟨b, 0, rfl, ?_⟩⟩, fun j x q hx hq => ?_⟩
  · rw [Nat.zero_add, cell_of_row _ b _ _ _ (0, 0) h]
    rw [← hj]; simp [ncs, lv15, TN.cells, lit15, zeroN]
  · match j, hx, hq with
    | 0, hx, hq => injection hx with hx; injection hq with hq; subst hx; subst hq; exact ⟨none, 0, rfl, SlA.nil _ _⟩
    | 1, hx, hq => injection hx with hx; injection hq with hq; subst hx; subst hq; exact ⟨none, 0, rfl, SlA.nil _ _⟩
    | 2, hx, hq => injection hx with hx; injection hq with hq; subst hx; subst hq; exact ⟨none, 0, rfl, SlA.nil _ _⟩
    | j + 3, hx, _ => cases hx
/-- A row of one proposal, laid. -/
theorem pr_one {V : World} {b : Nat} {p : PR} {A : Option Addr} {c : Nat} (h : V.heap[b]? = some (prO p (.slice A p.n.u.length c))) (hs : SlA V 1 A p.n.u.length c (p.n.u.map (.int .i64))) : Pr V (some ⟨b, 0, none⟩) 1 1 [p] := by
  refine ⟨[.slice A p.n.u.length c], ⟨rfl, rfl⟩, ⟨Nat.le_refl _, by decide, rfl, fun j u hj => ⟨b, 0, rfl, ?_⟩⟩, fun j x q hx hq => ?_⟩
  · unfold prO at h
    rw [Nat.zero_add, cell_of_row _ b _ _ _ (0, 0) h]
    rw [← hj]; simp [pcs, PR.cells]
  · match j, hx, hq with
    | 0, hx, hq => injection hx with hx; injection hq with hq; subst hx; subst hq; exact ⟨A, c, rfl, hs⟩
    | j + 1, hx, _ => cases hx
theorem lv15_j : TsJ lv15 := by
  intro j x hx
  match j, hx with
  | 0, hx => injection hx with hx; subst hx; exact ⟨i64_lit (by decide) (by decide), i64_lit (by decide) (by decide), i64_lit (by decide) (by decide)⟩
  | 1, hx => injection hx with hx; subst hx; exact tnJ0
  | 2, hx => injection hx with hx; subst hx; exact ⟨i64_lit (by decide) (by decide), i64_lit (by decide) (by decide), i64_lit (by decide) (by decide)⟩
  | j + 3, hx => cases hx
theorem lv15_s : shU 0 lv15 := by
  intro j x hx
  match j, hx with
  | 0, hx => injection hx with hx; subst hx; exact Nat.le_refl _
  | 1, hx => injection hx with hx; subst hx; exact Nat.le_refl _
  | 2, hx => injection hx with hx; subst hx; exact Nat.le_refl _
  | j + 3, hx => cases hx
theorem lvP_i {a : Int} (h0 : 0 ≤ a) (h1 : a ≤ 100) : PrI (lvP a) := by
  have z : I64 (0 : Int) := i64_lit (by decide) (by decide)
  have t : I64 (3 : Int) := i64_lit (by decide) (by decide)
  exact ⟨t, z, ⟨z, z, z, z⟩, ⟨by show _ ≤ a; omega, by show a ≤ _; omega⟩, z⟩
set_option maxHeartbeats 8000000 in
set_option maxRecDepth 100000 in
theorem live15_any (w : World) (hT : Tb w.heap.size w) (hTab : ∀ U, Below w.heap.size w U → Tab U) : Calls Tryz.prog 8 #[] w fun e w' => e = .returned (.bool true) ∧ Below w.heap.size w w' := by
  have HTB := hid hTab
  have HW := hid (two15_any w hT)
  clear hT hTab
  go_enter Tryz.func8, Tryz.ntmps8
  go_wp2_with fail
  refine HW.out.mono ?_
  rintro e w1 ⟨sa, sb, Z, Z', rfl, htx⟩
  have HTX := hid htx
  clear htx HW
  go_upto_region 5 with fail
  have HP := hid (show Tx w (w1.alloc (.cells lit15 37)) sa sb Z Z' x15 x15 ∧ (w1.alloc (.cells lit15 37)).heap[w1.heap.size]? = some (.cells lit15 37 (0, 0)) from ⟨HTX.out.alloc _, heap_alloc_new w1 _⟩)
  unfold lit15 at HP
  obtain ⟨tb, htb⟩ : ∃ tb, tb = w1.heap.size := ⟨_, rfl⟩
  rw [← htb] at HP ⊢
  clear htb
  refine forget (R := fun V => Tx w V sa sb Z Z' x15 x15 ∧ V.heap[tb]? = some (.cells lit15 37 (0, 0))) ?_ HP.out
  clear HP HTX
  rintro V ⟨htx, hl⟩
  have HTX := hid htx; have HL := hid hl
  have HAP := hid (fun (U : World) (hU : Below V.heap.size V U) (k : Int) (h0 : 0 ≤ k) (h1 : k ≤ 100) => papply_any (y := 0) (B := some ⟨U.heap.size, 0, none⟩) (m := 1) (d := 1) (l := [lvP k]) ((htx.a.ar.vw.ext hU).ext ((Below.refl U.heap.size U).alloc (Nat.le_refl _) (prO (lvP k) (.slice none 0 0)))) ((tr_lit15 ((hU.block _ (Array.getElem?_eq_some_iff.1 hl).1).trans hl)).ext ((Below.refl U.heap.size U).alloc (Nat.le_refl _) (prO (lvP k) (.slice none 0 0)))) (by decide) lv15_s (by decide)
    (fun W hW => HTB.out W (htx.a.bl.trans ((hU.trans (((Below.refl U.heap.size U).alloc (Nat.le_refl _) (prO (lvP k) (.slice none 0 0))).trans (hW.mono (by simp)) |>.mono hU.size)).mono htx.a.bl.size))) lv15_j
    (pr_one (heap_alloc_new U _) (SlA.nil _ _)) (by decide) (fun p hp => by rw [List.mem_singleton.1 hp]; exact lvP_i h0 h1) (fun p hp => by rw [List.mem_singleton.1 hp]; exact Nat.zero_le _))
  have HA1 := hid (HAP.out V (Below.refl _ _) 1 (by decide) (by decide))
  unfold prO lvP zeroN at HA1
  change Hid (Calls _ _ _ _ (ApR _ (paR x15 lv15 0 [lvP 1]))) at HA1
  have HQ := hid l15a
  generalize paR x15 lv15 0 [lvP 1] = r1 at *
  obtain ⟨⟨t1, fr1, go1, ps1, x1, hx1⟩, er1⟩ := r1
  obtain ⟨q1, q2, q3⟩ := HQ.out
  dsimp only at q1 q2 q3
  subst q1; subst q3
  clear HQ
  go_wp2_with fail
  refine HA1.out.mono ?_
  rintro e w2 ⟨vt, vf, vg, vp, rfl, ⟨At, ct, rfl, -⟩, ⟨Af, cf, rfl, -⟩, ⟨Ag, cg, rfl, hsg⟩, ⟨Ae, ce, rfl, -⟩, hb2⟩
  dsimp only at hsg ⊢
  have hsg' : SlA w2 1 Ag 1 cg [.int .i64 1] := hsg
  have hb3 : Below V.heap.size V w2 := ((Below.refl V.heap.size V).alloc (Nat.le_refl _) (prO (lvP 1) (.slice none 0 0))).trans (hb2.mono (by simp))
  rw [q2]
  change _ = _ at q2
  have HP := hid (show Below V.heap.size V (w2.alloc (apO (.slice At 1 ct) (.slice Af fr1.length cf) (.slice Ag 1 cg) (.slice Ae ps1.length ce) x1 hx1)) ∧ (w2.alloc (apO (.slice At 1 ct) (.slice Af fr1.length cf) (.slice Ag 1 cg) (.slice Ae ps1.length ce) x1 hx1)).heap[w2.heap.size]? = some (apO (.slice At 1 ct) (.slice Af fr1.length cf) (.slice Ag 1 cg) (.slice Ae ps1.length ce) x1 hx1) ∧ SlA (w2.alloc (apO (.slice At 1 ct) (.slice Af fr1.length cf) (.slice Ag 1 cg) (.slice Ae ps1.length ce) x1 hx1)) 1 Ag 1 cg [.int .i64 1] from
    ⟨hb3.alloc hb3.size _, heap_alloc_new w2 _, hsg'.ext ((Below.refl _ _).alloc (Nat.le_refl _) _)⟩)
  unfold apO at HP
  clear hsg hsg' hb2 hb3 HA1 q2 htx hl
  go_upto_region 6 with fail
  obtain ⟨b4, hb4⟩ : ∃ b4, b4 = w2.heap.size := ⟨_, rfl⟩
  simp only [List.length_cons, List.length_nil, Nat.zero_add] at HP ⊢
  rw [← hb4] at HP ⊢
  clear hb4
  refine forget (R := fun U => Below V.heap.size V U ∧ U.heap[b4]? = some (apO (.slice At 1 ct) (.slice Af fr1.length cf) (.slice Ag 1 cg) (.slice Ae ps1.length ce) x1 hx1) ∧ SlA U 1 Ag 1 cg [.int .i64 1]) ?_ HP.out
  clear HP
  rintro U ⟨hu, hb4, hsg⟩
  have HU := hid hu; have HB4 := hid hb4; have HSG := hid hsg
  have HA2 := hid (HAP.out U hu 0 (by decide) (by decide))
  unfold prO lvP zeroN at HA2
  change Hid (Calls _ _ _ _ (ApR _ (paR x15 lv15 0 [lvP 0]))) at HA2
  have HQ := hid l15b
  generalize paR x15 lv15 0 [lvP 0] = r2 at *
  obtain ⟨⟨t2, fr2, go2, ps2, x2, hx2⟩, er2⟩ := r2
  have q1 := HQ.out
  dsimp only at q1
  subst q1
  clear HQ hu hb4 hsg
  go_wp2_with fail
  refine HA2.out.mono ?_
  rintro e w3 ⟨vt, vf, vg, vp, rfl, ⟨At2, ct2, rfl, -⟩, ⟨Af2, cf2, rfl, -⟩, ⟨Ag2, cg2, rfl, -⟩, ⟨Ae2, ce2, rfl, -⟩, hb2⟩
  dsimp only
  have hb3 : Below U.heap.size U w3 := ((Below.refl U.heap.size U).alloc (Nat.le_refl _) (prO (lvP 0) (.slice none 0 0))).trans (hb2.mono (by simp))
  have hb5 : Below U.heap.size U (w3.alloc (apO (.slice At2 t2.length ct2) (.slice Af2 fr2.length cf2) (.slice Ag2 go2.length cg2) (.slice Ae2 ps2.length ce2) x2 hx2)) := hb3.alloc hb3.size _
  unfold apO at hb5
  have HP := hid hb5
  clear hb2 hb3 hb5 HA2
  go_upto_region 7 with fail
  refine forget (R := fun U' => Below U.heap.size U U') ?_ HP.out
  clear HP
  intro U2 h2
  have B9 := hid (HTX.out.a.bl.trans ((HU.out.trans (h2.mono HU.out.size)).mono HTX.out.a.bl.size))
  obtain ⟨k0, k1, k2, k3, k4, k5⟩ := ap6 ((h2.block _ (Array.getElem?_eq_some_iff.1 HB4.out).1).trans HB4.out)
  have HSI := hid (same_ints Ag 1 cg [1] (some ⟨U2.heap.size, 0, none⟩) 1 1 [1] (U2.alloc (.cells #[.int .i64 1] 3)) ((HSG.out.ext h2).ext ((Below.refl _ _).alloc (Nat.le_refl _) _)) (SlA.lit1 _) (by decide) (by decide))
  have HBB := hid (B9.out.alloc B9.out.size (.cells #[.int .i64 1] 3))
  clear h2 HAP
  go_wp2_with fail
  refine HSI.out.mono ?_
  rintro e w4 ⟨rfl, q, rfl⟩
  clear HSI
  go_wp2_with fail
  go_ret
  exact ⟨rfl, below_drewN HBB.out _⟩
end Go.Proofs.YtpkijlmkgomfeaaGreatDoor

/- proposals as terms: behind an error nothing is made any more. -/
namespace Go.KK
open Go
set_option linter.unusedVariables false
set_option linter.unusedSimpArgs false

theorem prW_no {S : KS} (h : S.e ≠ 0) (p : PR) : (prW S p).1 = S := by
  unfold prW
  split
  · rw [do_no _ h]
  · split
    · rw [do_no _ h]
    · rfl
theorem prB_no {S : KS} (h : S.e ≠ 0) (p : PR) : (prB S p).1 = S := by
  unfold prB
  rw [do_no _ h, do_no _ h]
theorem prS_no {S : KS} (h : S.e ≠ 0) (p : PR) : (prS S p).1 = S := by
  unfold prS
  rw [prB_no h, prW_no h, do_no _ h]
theorem prA_no {S : KS} {l : List PR} {j : Nat} (h : (prA S l j).1.e ≠ 0) : ∀ k, (prA S l (j + k)).1 = (prA S l j).1
  | 0 => rfl
  | k + 1 => by
    have ih := prA_no h k
    show (prS (prA S l (j + k)).1 _).1 = _
    rw [ih, prS_no h]
/-- An error on the way is the answer. -/
theorem prF_err {X : List ND} {l : List PR} {j : Nat} {T : KS} (hx : l.any prX = false) (hj : j ≤ l.length) (h : (prA ⟨X, 0⟩ l j).1 = T) (he : T.e ≠ 0) : prF X l = (T.x, 0, T.e) := by
  have h1 : (prA ⟨X, 0⟩ l l.length).1 = T := by
    have := prA_no (S := ⟨X, 0⟩) (l := l) (j := j) (by rw [h]; exact he) (l.length - j)
    rw [show j + (l.length - j) = l.length by omega, h] at this
    exact this
  unfold prF prZ
  rw [if_neg (by rw [hx]; decide), h1, do_no _ he, if_neg he]
/-- In a round: the error stands where it came up. -/
theorem prS_e1 {S T : KS} {p : PR} (h : (doF S (txF (digB p.k))).1 = T) (he : T.e ≠ 0) : (prS S p).1 = T := by
  unfold prS prB
  rw [h, do_no _ he]
  dsimp only
  rw [prW_no he, do_no _ he]
theorem prS_e2 {S T : KS} {p : PR} (h : (prB S p).1 = T) (he : T.e ≠ 0) : (prS S p).1 = T := by
  unfold prS
  rw [h, prW_no he, do_no _ he]
theorem prS_e3 {S T : KS} {p : PR} (h : (prW (prB S p).1 p).1 = T) (he : T.e ≠ 0) : (prS S p).1 = T := by
  unfold prS
  rw [h, do_no _ he]
theorem prA_succ {S : KS} {l : List PR} {j : Nat} {p : PR} (hp : l[j]? = some p) : prA S l (j + 1) = ((prS (prA S l j).1 p).1, (prA S l j).2 ++ [(prS (prA S l j).1 p).2]) := by
  show (_, _) = _
  rw [show l.getD j pr0 = p by rw [List.getD_eq_getElem?_getD, hp]; rfl]
end Go.KK

/- proposals apart, in plain words. -/
namespace Go.Proofs.YtpkijlmkgomfeaaGreatDoor
open Go.RowKit Go.KK Go.Shelf Go.Maps
set_option linter.unusedVariables false
set_option linter.unusedSimpArgs false

def WAt (Y : List ND) (p : PR) (c : Int) : Prop := if p.k = 1 ∨ p.k = 2 then At Y c (ndN 3 [p.n.i, p.n.e, p.n.s, p.n.h]) else if p.k = 3 then At Y c (txN (digB p.a)) else c = p.t
/-- A term that says a proposal. -/
def PAt (Y : List ND) (p : PR) (t : Int) : Prop := ∃ a b c, At Y a (txN (digB p.k)) ∧ At Y b (txN (digB p.f)) ∧ WAt Y p c ∧ At Y t (ndN 3 [a, b, c])
def LAt (Y : List ND) (l : List PR) (x : Int) : Prop := ∃ ts : List Int, ts.length = l.length ∧ (∀ (j : Nat) p t, l[j]? = some p → ts[j]? = some t → PAt Y p t) ∧ At Y x (ndN 3 ts)
theorem WAt.ext {Y : List ND} {p : PR} {c : Int} (h : WAt Y p c) (m : List ND) : WAt (Y ++ m) p c := by
  unfold WAt at *
  split
  · next hk => rw [if_pos hk] at h; exact h.ext m
  · next hk =>
    rw [if_neg hk] at h
    split
    · next h3 => rw [if_pos h3] at h; exact h.ext m
    · next h3 => rw [if_neg h3] at h; exact h
theorem PAt.ext {Y : List ND} {p : PR} {t : Int} (h : PAt Y p t) (m : List ND) : PAt (Y ++ m) p t := by
  obtain ⟨a, b, c, h1, h2, h3, h4⟩ := h
  exact ⟨a, b, c, h1.ext m, h2.ext m, h3.ext m, h4.ext m⟩
theorem LAt.ext {Y : List ND} {l : List PR} {x : Int} (h : LAt Y l x) (m : List ND) : LAt (Y ++ m) l x := by
  obtain ⟨ts, h1, h2, h3⟩ := h
  exact ⟨ts, h1, fun j p t hp ht => (h2 j p t hp ht).ext m, h3.ext m⟩
theorem g2_patx {S T : KS} {k : Nat} (h : Go2 S T k) {p : PR} {t : Int} (ha : PAt S.x p t) : PAt T.x p t := by obtain ⟨m, hm⟩ := h.ext; rw [hm]; exact ha.ext m
theorem g2_watx {S T : KS} {k : Nat} (h : Go2 S T k) {p : PR} {t : Int} (ha : WAt S.x p t) : WAt T.x p t := by obtain ⟨m, hm⟩ := h.ext; rw [hm]; exact ha.ext m
theorem do_at9 {S : KS} {x : ND} (h : (doF S fun xs => mk xs x).1.e = 0) : S.e = 0 ∧ At (doF S fun xs => mk xs x).1.x (doF S fun xs => mk xs x).2 x := by
  by_cases he : S.e = 0
  · have e : doF S (fun xs => mk xs x) = (⟨(mk S.x x).1, (mk S.x x).2.2⟩, (mk S.x x).2.1) := if_pos he
    rw [e] at h ⊢
    exact ⟨he, mk_at' h⟩
  · rw [do_no _ he] at h
    exact absurd h he
theorem tx_at9 {S : KS} {s : ByteArray} (h : (doF S (txF s)).1.e = 0) : S.e = 0 ∧ At (doF S (txF s)).1.x (doF S (txF s)).2 (txN s) := do_at9 h
theorem li_at9 {S : KS} {l : List Int} (h : (doF S (liF l)).1.e = 0) : S.e = 0 ∧ At (doF S (liF l)).1.x (doF S (liF l)).2 (ndN 3 l) := do_at9 h
theorem prB_at {S : KS} {p : PR} (h : (prB S p).1.e = 0) : S.e = 0 ∧ At (prB S p).1.x (doF S (txF (digB p.k))).2 (txN (digB p.k)) ∧ At (prB S p).1.x (prB S p).2 (txN (digB p.f)) := by
  obtain ⟨h1, h2⟩ := tx_at9 h
  obtain ⟨h3, h4⟩ := tx_at9 h1
  exact ⟨h3, (tx_go (doF S (txF (digB p.k))).1 (digB p.f)).at h4, h2⟩
theorem prW_at {S : KS} {p : PR} (h : (prW S p).1.e = 0) : S.e = 0 ∧ WAt (prW S p).1.x p (prW S p).2 := by
  unfold prW at *
  unfold WAt
  by_cases hk : p.k = 1 ∨ p.k = 2
  · rw [if_pos hk] at h ⊢
    rw [if_pos hk]
    exact li_at9 h
  · rw [if_neg hk] at h ⊢
    rw [if_neg hk]
    by_cases h3 : p.k = 3
    · rw [if_pos h3] at h ⊢
      rw [if_pos h3]
      exact tx_at9 h
    · rw [if_neg h3] at h ⊢
      rw [if_neg h3]
      exact ⟨h, rfl⟩
theorem prS_at {S : KS} {p : PR} (h : (prS S p).1.e = 0) : S.e = 0 ∧ PAt (prS S p).1.x p (prS S p).2 := by
  obtain ⟨h1, h2⟩ := li_at9 h
  obtain ⟨h3, h4⟩ := prW_at h1
  obtain ⟨h5, h6, h7⟩ := prB_at h3
  have g1 := prW_go (prB S p).1 p
  have g2 := li_go (prW (prB S p).1 p).1 [(doF S (txF (digB p.k))).2, (prB S p).2, (prW (prB S p).1 p).2]
  exact ⟨h5, _, _, _, (g1.trans g2).at h6, (g1.trans g2).at h7, g2_watx g2 h4, h2⟩
theorem prA_at {S : KS} {l : List PR} : ∀ j, j ≤ l.length → (prA S l j).1.e = 0 → ∀ (i : Nat) p t, i < j → l[i]? = some p → (prA S l j).2[i]? = some t → PAt (prA S l j).1.x p t
  | 0, _, _, i, p, t, hi, _, _ => by omega
  | j + 1, hj, h, i, p, t, hi, hp, ht => by
    obtain ⟨q, hq⟩ : ∃ q, l[j]? = some q := ⟨_, List.getElem?_eq_getElem (by omega)⟩
    rw [prA_succ hq] at h ht ⊢
    obtain ⟨h1, h2⟩ := prS_at h
    have hl := prA_len S l j
    dsimp only at ht ⊢
    by_cases e : i = j
    · subst e
      rw [hq] at hp; injection hp with hp; subst hp
      rw [List.getElem?_append_right (by omega), hl, Nat.sub_self] at ht
      injection ht with ht; subst ht
      exact h2
    · rw [List.getElem?_append_left (by omega)] at ht
      exact g2_patx (prS_go _ _) (prA_at j (by omega) h1 i p t (by omega) hp ht)
theorem prF_at {X Y : List ND} {l : List PR} {x : Int} (h : prF X l = (Y, x, 0)) : LAt Y l x ∧ (∀ p ∈ l, prX p = false) ∧ ∃ m, Y = X ++ m := by
  unfold prF at h
  rcases hx : l.any prX with _ | _
  · rw [hx, if_neg (by decide)] at h
    have h1 : (prZ X l).1.x = Y := congrArg (·.1) h
    have h3 : (prZ X l).1.e = 0 := congrArg (·.2.2) h
    have h2 : (if (prZ X l).1.e = 0 then (prZ X l).2 else 0) = x := congrArg (·.2.1) h
    rw [if_pos h3] at h2
    obtain ⟨a1, a2⟩ := li_at9 (S := (prA ⟨X, 0⟩ l l.length).1) (l := (prA ⟨X, 0⟩ l l.length).2) h3
    have g := li_go (prA ⟨X, 0⟩ l l.length).1 (prA ⟨X, 0⟩ l l.length).2
    refine ⟨⟨(prA ⟨X, 0⟩ l l.length).2, prA_len _ _ _, fun j p t hp ht => ?_, ?_⟩, fun p hp => ?_, ?_⟩
    · rw [← h1]
      exact g2_patx g (prA_at l.length (Nat.le_refl _) a1 j p t (List.getElem?_eq_some_iff.1 hp).1 hp ht)
    · rw [← h1, ← h2]
      exact a2
    · exact Bool.eq_false_iff.2 fun hh => by
        have := List.any_eq_false.1 hx p hp
        exact this hh
    · obtain ⟨m, hm⟩ := ((prA_go ⟨X, 0⟩ l l.length).trans g).ext
      exact ⟨m, by rw [← h1]; exact hm⟩
  · rw [hx, if_pos rfl] at h
    have := congrArg (·.2.2) h; exact absurd this (show ¬ (1 : Int) = 0 by decide)
/-- What does not count for a kind is zero. -/
def paC (p : PR) : Bool := (if p.k = 1 ∨ p.k = 2 then p.n.k == 1 && (p.n.u.length : Int) == 0 else zerB p.n) && (p.k == 3 || p.a == 0) && (p.k == 4 || p.k == 5 || p.t == 0)
theorem zerB_iff {x : TN} : zerB x = true ↔ x = zeroN := by
  unfold zerB
  simp only [Bool.and_eq_true, beq_iff_eq]
  constructor
  · rintro ⟨⟨⟨⟨⟨h1, h2⟩, h3⟩, h4⟩, h5⟩, h6⟩
    obtain ⟨k, i, e, s, h, u⟩ := x
    simp only at h1 h2 h3 h4 h5 h6
    have : u = [] := List.eq_nil_of_length_eq_zero (by omega)
    subst h1; subst h2; subst h3; subst h4; subst h5; subst this
    rfl
  · rintro rfl
    simp [zeroN]
theorem sameN_iff9 {x y : TN} : sameN x y = true ↔ x = y := by
  unfold sameN
  simp only [Bool.and_eq_true, beq_iff_eq]
  obtain ⟨k, i, e, s, h, u⟩ := x
  obtain ⟨k', i', e', s', h', u'⟩ := y
  simp only [TN.mk.injEq]
  constructor
  · rintro ⟨⟨⟨⟨⟨a, b⟩, c⟩, d⟩, e⟩, f⟩; exact ⟨a, b, c, d, e, f⟩
  · rintro ⟨a, b, c, d, e, f⟩; exact ⟨⟨⟨⟨⟨a, b⟩, c⟩, d⟩, e⟩, f⟩
theorem sameT1 (x y : TN) : sameT [x] [y] = sameN x y := by simp [sameT]
theorem samP_iff {p q : PR} : samP p q = true ↔ p = q := by
  unfold samP
  rw [sameT1]
  simp only [Bool.and_eq_true, beq_iff_eq, sameN_iff9]
  obtain ⟨a, b, c, d, e⟩ := p
  obtain ⟨a', b', c', d', e'⟩ := q
  simp only [PR.mk.injEq]
  constructor
  · rintro ⟨⟨⟨⟨h1, h2⟩, h3⟩, h4⟩, h5⟩; exact ⟨h1, h2, h5, h3, h4⟩
  · rintro ⟨h1, h2, h5, h3, h4⟩; exact ⟨⟨⟨⟨h1, h2⟩, h3⟩, h4⟩, h5⟩
theorem txE {s t : ByteArray} (h : txN s = txN t) : s = t := by
  unfold txN at h
  simp only [ND.mk.injEq, true_and, and_true] at h
  exact h
theorem ndE {l m : List Int} (h : ndN 3 l = ndN 3 m) : l = m := by
  unfold ndN at h
  simp only [ND.mk.injEq, true_and, and_true] at h
  exact h
/-- One term, one proposal. -/
theorem PAt.eq {Y : List ND} {p q : PR} {t : Int} (h : PAt Y p t) (k : PAt Y q t) (cp : paC p = true) (cq : paC q = true) (xp : prX p = false) : p = q := by
  obtain ⟨a, b, c, h1, h2, h3, h4⟩ := h
  obtain ⟨a', b', c', k1, k2, k3, k4⟩ := k
  have e := ndE (h4.eq k4)
  simp only [List.cons.injEq, and_true] at e
  obtain ⟨rfl, rfl, rfl⟩ := e
  have ek := digB_inj (txE (h1.eq k1))
  have ef := digB_inj (txE (h2.eq k2))
  obtain ⟨pk, pf, pn, pa, pt⟩ := p
  obtain ⟨qk, qf, qn, qa, qt⟩ := q
  simp only at ek ef
  subst ek; subst ef
  unfold prX at xp
  simp only [Bool.or_eq_false_iff, decide_eq_false_iff_not] at xp
  unfold WAt at h3 k3
  unfold paC at cp cq
  simp only [Bool.and_eq_true, Bool.or_eq_true, beq_iff_eq] at h3 k3 cp cq
  by_cases hk : pk = 1 ∨ pk = 2
  · rw [if_pos hk] at h3 k3 cp cq
    have e := ndE (h3.eq k3)
    simp only [List.cons.injEq, and_true] at e
    obtain ⟨e1, e2, e3, e4⟩ := e
    simp only [Bool.and_eq_true, beq_iff_eq] at cp cq
    obtain ⟨⟨⟨c1, c2⟩, c3⟩, c4⟩ := cp
    obtain ⟨⟨⟨d1, d2⟩, d3⟩, d4⟩ := cq
    obtain ⟨nk, ni, ne, ns, nh, nu⟩ := pn
    obtain ⟨mk, mi, me, ms, mh, mu⟩ := qn
    simp only at *
    have u1 : nu = [] := List.eq_nil_of_length_eq_zero (by omega)
    have u2 : mu = [] := List.eq_nil_of_length_eq_zero (by omega)
    have a1 : pa = 0 := by omega
    have a2 : qa = 0 := by omega
    have t1 : pt = 0 := by omega
    have t2 : qt = 0 := by omega
    subst u1; subst u2; subst a1; subst a2; subst t1; subst t2; subst e1; subst e2; subst e3; subst e4; subst c1; subst d1
    rfl
  · rw [if_neg hk] at h3 k3 cp cq
    have n1 := zerB_iff.1 cp.1.1
    have n2 := zerB_iff.1 cq.1.1
    subst n1; subst n2
    by_cases hk3 : pk = 3
    · rw [if_pos hk3] at h3 k3
      have ea := digB_inj (txE (h3.eq k3))
      subst ea
      have t1 : pt = 0 := by have := cp.2; omega
      have t2 : qt = 0 := by have := cq.2; omega
      subst t1; subst t2
      rfl
    · rw [if_neg hk3] at h3 k3
      have a1 : pa = 0 := by have := cp.1.2; omega
      have a2 : qa = 0 := by have := cq.1.2; omega
      subst a1; subst a2
      have : pt = qt := h3.symm.trans k3
      subst this
      rfl
theorem WAt.uniq {Y : List ND} (ok : Okay Y) {p : PR} {t u : Int} (h : WAt Y p t) (k : WAt Y p u) : t = u := by
  unfold WAt at h k
  by_cases hk : p.k = 1 ∨ p.k = 2
  · rw [if_pos hk] at h k; exact h.uniq ok k
  · rw [if_neg hk] at h k
    by_cases h3 : p.k = 3
    · rw [if_pos h3] at h k; exact h.uniq ok k
    · rw [if_neg h3] at h k; rw [h, k]
theorem PAt.uniq {Y : List ND} (ok : Okay Y) {p : PR} {t u : Int} (h : PAt Y p t) (k : PAt Y p u) : t = u := by
  obtain ⟨a, b, c, h1, h2, h3, h4⟩ := h
  obtain ⟨a', b', c', k1, k2, k3, k4⟩ := k
  have ea := h1.uniq ok k1
  have eb := h2.uniq ok k2
  have ec := h3.uniq ok k3
  subst ea; subst eb; subst ec
  exact h4.uniq ok k4
/-- Other proposals are another term; the same ones the same. -/
theorem LAt.iff {Y : List ND} (ok : Okay Y) {l m : List PR} {x y : Int} (h : LAt Y l x) (k : LAt Y m y) (cl : ∀ p ∈ l, paC p = true) (cm : ∀ p ∈ m, paC p = true) (xl : ∀ p ∈ l, prX p = false) : x = y ↔ l = m := by
  obtain ⟨ts, h1, h2, h3⟩ := h
  obtain ⟨us, k1, k2, k3⟩ := k
  constructor
  · rintro rfl
    have e := ndE (h3.eq k3)
    subst e
    refine List.ext_getElem (by omega) fun j hj hj' => ?_
    have hp : l[j]? = some (l[j]) := List.getElem?_eq_getElem hj
    have hq : m[j]? = some (m[j]) := List.getElem?_eq_getElem hj'
    have ht : ts[j]? = some (ts[j]'(by omega)) := List.getElem?_eq_getElem _
    exact (h2 j _ _ hp ht).eq (k2 j _ _ hq ht) (cl _ (List.getElem_mem hj)) (cm _ (List.getElem_mem hj')) (xl _ (List.getElem_mem hj))
  · rintro rfl
    have e : ts = us := List.ext_getElem (by omega) fun j hj hj' => by
      have hp : l[j]? = some (l[j]'(by omega)) := List.getElem?_eq_getElem _
      have ht : ts[j]? = some (ts[j]) := List.getElem?_eq_getElem hj
      have hu : us[j]? = some (us[j]) := List.getElem?_eq_getElem hj'
      exact (h2 j _ _ hp ht).uniq ok (k2 j _ _ hp hu)
    subst e
    exact h3.uniq ok k3
/-- The two of them, one behind the other. -/
theorem two_apart {X Y V : List ND} {l m : List PR} {x y : Int} (ok : Okay V) (hl : prF X l = (Y, x, 0)) (hm : prF Y m = (V, y, 0)) (cl : ∀ p ∈ l, paC p = true) (cm : ∀ p ∈ m, paC p = true) : x = y ↔ l = m := by
  obtain ⟨h1, h2, -⟩ := prF_at hl
  obtain ⟨k1, -, n, rfl⟩ := prF_at hm
  exact LAt.iff ok (h1.ext n) k1 cl cm h2
end Go.Proofs.YtpkijlmkgomfeaaGreatDoor

/- law 15: numbers beyond, of a tree; the document's Same. -/
namespace Go.Proofs.YtpkijlmkgomfeaaGreatDoor
open Go.RowKit Go.KK Go.Shelf Go.Maps
set_option linter.unusedVariables false
set_option linter.unusedSimpArgs false

end Go.Proofs.YtpkijlmkgomfeaaGreatDoor

/- law 15: dump, same. -/
namespace Go.Proofs.YtpkijlmkgomfeaaGreatDoor
open Go.RowKit Go.KK Go.Shelf Go.Maps
set_option linter.unusedVariables false
set_option linter.unusedSimpArgs false

/-- A row of nodes that the call has made, so far. -/
structure DmP (W U : World) (v : Value) (xs : List ND) (qs : List Value) : Prop where
  row : U.ownsRow W.heap.size 86 4 v xs.length (nds xs qs)
  ql : qs.length = xs.length
  rd : ∀ (j : Nat) x q, xs[j]? = some x → qs[j]? = some q → In1 U q x.l
  own : ∀ (j : Nat) x q b, xs[j]? = some x → qs[j]? = some q → x.l ≠ [] → q.ownBlock = some b → v.ownBlock ≠ some b
  bl : Below W.heap.size W U
section
variable {W U U' : World} {v v' q : Value} {xs : List ND} {qs : List Value} {x : ND}
theorem DmP.ext (h : DmP W U v xs qs) (hb : Below U.heap.size U U') : DmP W U' v xs qs :=
  ⟨own_ext h.row hb, h.ql, fun j x q hx hq => (h.rd j x q hx hq).ext hb, h.own, h.bl.trans (hb.mono h.bl.size)⟩
theorem In1.lt (h : In1 U q x.l) (hn : x.l ≠ []) {b : Nat} (hb : q.ownBlock = some b) : b < U.heap.size := by
  obtain ⟨A, c, rfl, hs⟩ := h
  obtain ⟨b1, o1, z, rfl, -, hc⟩ := hs.elemI (k := 0) (List.length_pos_iff.2 hn)
  have e : b1 = b := by simpa [Value.ownBlock] using hb
  subst e
  exact block_lt_of_cell hc
theorem DmP.push (h : DmP W U v xs qs) (hg : U.grownBy U' v.ownBlock) (hr : U'.ownsRow W.heap.size 86 4 v' (xs.length + 1) (nds xs qs ++ x.cells q)) (hv : v'.ownBlock = v.ownBlock ∨ v'.ownBlock = some U.heap.size) (hq : In1 U q x.l) (hqn : x.l ≠ [] → ∀ b, q.ownBlock = some b → v.ownBlock ≠ some b) : DmP W U' v' (xs ++ [x]) (qs ++ [q]) := by
  have hne : ∀ (y : ND) (p : Value) b, In1 U p y.l → y.l ≠ [] → p.ownBlock = some b → v.ownBlock ≠ some b → v'.ownBlock ≠ some b := fun y p b hi hn hb hvb => by
    rcases hv with e | e
    · rw [e]; exact hvb
    · rw [e]; intro k; injection k with k; have := In1.lt hi hn hb; omega
  have hk : ∀ (y : ND) (p : Value), In1 U p y.l → (∀ b, y.l ≠ [] → p.ownBlock = some b → v.ownBlock ≠ some b) → In1 U' p y.l := fun y p hi ho => hi.kept fun b hn hb => hg.block b (In1.lt hi hn hb) (fun e => ho b hn hb e.symm)
  refine ⟨by rw [nds_snoc h.ql, List.length_append]; exact hr, by simp [h.ql], fun j y p hy hp => ?_, fun j y p b hy hp hn hb => ?_, h.bl.grown hg h.bl.size fun b e => (h.row.lt b e).1⟩
  all_goals
    rcases Nat.lt_or_ge j xs.length with hj | hj
    · rw [List.getElem?_append_left hj] at hy
      rw [List.getElem?_append_left (by rw [h.ql]; exact hj)] at hp
      first
        | exact hk y p (h.rd j y p hy hp) fun b hn hb => h.own j y p b hy hp hn hb
        | exact hne y p b (h.rd j y p hy hp) hn hb (h.own j y p b hy hp hn hb)
    · rw [List.getElem?_append_right hj] at hy
      rw [List.getElem?_append_right (by rw [h.ql]; exact hj), h.ql] at hp
      rcases hk' : j - xs.length with _ | k
      · rw [hk'] at hy hp
        injection hy with hy; injection hp with hp
        subst hy; subst hp
        first
          | exact hk _ _ hq fun b hn hb => hqn hn b hb
          | exact hne _ _ b hq hn hb (hqn hn b hb)
      · rw [hk'] at hy; simp at hy
theorem DmP.nd (h : DmP W U v xs qs) : ∃ A c, v = .slice A xs.length c ∧ NdA U A xs.length c xs := by
  obtain ⟨A, c, rfl, hs⟩ := SlA.owned h.row
  exact ⟨A, c, rfl, qs, h.ql, hs, h.rd⟩
end
end Go.Proofs.YtpkijlmkgomfeaaGreatDoor

/- a walk that makes terms and keeps a row of them: what it carries. -/
namespace Go.Proofs.YtpkijlmkgomfeaaGreatDoor
open Go.RowKit Go.KK Go.Shelf Go.Maps
set_option linter.unusedVariables false
set_option linter.unusedSimpArgs false

section
variable {w0 W V V' : World} {Z Z' Z2 : Nat → Prop} {sa : Nat} {X X2 : List ND} {v v' : Value} {l l' : List Int} {P : World → Prop}
/-- The arena, a row of terms, what is read. -/
structure TM (w0 W V : World) (Z Z' : Nat → Prop) (sa : Nat) (v : Value) (l : List Int) (X : List ND) (P : World → Prop) : Prop where
  la : LA w0 V Z' sa X
  un : V.ownsRow W.heap.size 3 1 v l.length (l.map (.int .i64))
  nu : ∀ b, v.ownBlock = some b → ¬ Z' b
  fu : ∃ R : Nat → Prop, (∀ b, R b → ¬ Z' b ∧ b < W.heap.size) ∧ ∀ V', (∀ b, R b → V'.heap[b]? = V.heap[b]?) → P V'
  m : Mv Z W Z' V
  m0 : w0.heap.size ≤ W.heap.size
theorem TM.here (h : TM w0 W V Z Z' sa v l X P) : P V := by obtain ⟨R, _, r2⟩ := h.fu; exact r2 V fun _ _ => rfl
theorem TM.start (h : LA w0 W Z sa X) (hf : Fx W Z P) : TM w0 W W Z Z sa (.slice none 0 0) [] X P := by
  obtain ⟨R, r1, r2⟩ := hf
  exact ⟨h, World.ownsRow_nil _ _ _ _, fun b hb => by (cases hb), ⟨R, r1, r2⟩, Mv.below (Below.refl _ _), h.bl.size⟩
theorem TM.mv (h : TM w0 W V Z Z' sa v l X P) (k : LA w0 V' Z2 sa X2) (m : Mv Z' V Z2 V') : TM w0 W V' Z Z2 sa v l X2 P := by
  have nz : ∀ b, b < V.heap.size → ¬ Z' b → ¬ Z2 b := fun b hb hz h2 => (m.n b h2).elim hz fun h' => by omega
  obtain ⟨R, r1, r2⟩ := h.fu
  have sz := h.m.t.size
  exact ⟨k, own_block h.un fun b hb => m.t.block b (h.un.lt b hb).2 (h.nu b hb), fun b hb => nz b (h.un.lt b hb).2 (h.nu b hb),
    ⟨R, fun b hr => ⟨nz b (Nat.lt_of_lt_of_le (r1 b hr).2 sz) (r1 b hr).1, (r1 b hr).2⟩, fun V2 hv => r2 V2 fun b hr => (hv b hr).trans (m.t.block b (Nat.lt_of_lt_of_le (r1 b hr).2 sz) (r1 b hr).1)⟩, h.m.trans m, h.m0⟩
theorem TM.ext (h : TM w0 W V Z Z' sa v l X P) (hb : Below V.heap.size V V') : TM w0 W V' Z Z' sa v l X P := h.mv (h.la.ext hb) (Mv.below hb)
theorem TM.app (h : TM w0 W V Z Z' sa v l X P) (hn : V'.ownsRow W.heap.size 3 1 v' l'.length (l'.map (.int .i64))) (hg : V.grownBy V' v.ownBlock) (hl : v'.ownBlock = v.ownBlock ∨ v'.ownBlock = some V.heap.size) : TM w0 W V' Z Z' sa v' l' X P := by
  have ht : Turn (fun b => v.ownBlock = some b) V V' := Turn.grown hg fun b hb => .inl hb
  have sz := h.m.t.size
  obtain ⟨R, r1, r2⟩ := h.fu
  have lo : ∀ b, v.ownBlock = some b → W.heap.size ≤ b := fun b e => (h.un.lt b e).1
  refine ⟨⟨h.la.ar.turn ht (fun b hz e => h.nu b e hz), h.la.z, h.la.bl.trans (ht.below (fun b e => Nat.le_trans h.m0 (lo b e)) h.la.bl.size)⟩, hn, fun b hb => ?_, ⟨R, r1, fun V2 hv => r2 V2 fun b hr => (hv b hr).trans (ht.block b (Nat.lt_of_lt_of_le (r1 b hr).2 sz) fun e => by have := lo b e; have := (r1 b hr).2; omega)⟩, ⟨⟨hg.os.trans h.m.t.os, hg.tape.trans h.m.t.tape, hg.output.trans h.m.t.output, Nat.le_trans sz hg.size, fun b hb hz => (ht.block b (Nat.lt_of_lt_of_le hb sz) fun e => by have := lo b e; omega).trans (h.m.t.block b hb hz)⟩, h.m.n⟩, h.m0⟩
  rcases hl with hl | hl
  · exact h.nu b (hl ▸ hb)
  · rw [hl] at hb; injection hb with hb
    intro hz
    have := h.la.ar.zlt b hz
    omega
end
end Go.Proofs.YtpkijlmkgomfeaaGreatDoor

/- proposal.Term. -/
namespace Go.Proofs.YtpkijlmkgomfeaaGreatDoor
open Go.RowKit Go.KK Go.Shelf Go.Maps
set_option linter.unusedVariables false
set_option linter.unusedSimpArgs false

theorem any_pr {α : Type} {p : α → Bool} {l : List α} {j : Nat} {x : α} (h : l[j]? = some x) : (l.drop j).any p = (p x || (l.drop (j + 1)).any p) := by
  rw [drop_get h, List.any_cons]
/-- A walk with a row of terms, and a box of its own. -/
structure TB (w0 W V : World) (Z Z' : Nat → Prop) (sa : Nat) (v : Value) (l : List Int) (X : List ND) (P : World → Prop) (O : Obj) (bx : Nat) : Prop where
  t : TM w0 W V Z Z' sa v l X P
  o : HasO O bx V
  z : ¬ Z' bx
theorem TB.mv {w0 W V V' : World} {Z Z' Z2 : Nat → Prop} {sa bx : Nat} {v : Value} {l : List Int} {X X2 : List ND} {P : World → Prop} {O : Obj} (h : TB w0 W V Z Z' sa v l X P O bx) (k : LA w0 V' Z2 sa X2) (m : Mv Z' V Z2 V') : TB w0 W V' Z Z2 sa v l X2 P O bx :=
  ⟨h.t.mv k m, (m.t.block bx h.o.lt h.z).trans h.o, fun h2 => (m.n bx h2).elim h.z fun h' => by have := h.o.lt; omega⟩
theorem TB.ext {w0 W V V' : World} {Z Z' : Nat → Prop} {sa bx : Nat} {v : Value} {l : List Int} {X : List ND} {P : World → Prop} {O : Obj} (h : TB w0 W V Z Z' sa v l X P O bx) (hb : Below V.heap.size V V') : TB w0 W V' Z Z' sa v l X P O bx := h.mv (h.t.la.ext hb) (Mv.below hb)
theorem mk_zero9 {xs : List ND} {x : ND} (h : (mk xs x).2.2 ≠ 0) : (mk xs x).2.1 = 0 := by
  unfold mk at *
  dsimp only at *
  unfold makE at h
  unfold makI
  split
  · next hm =>
    rw [if_pos hm] at h
    split
    · next hx => rw [if_pos hx] at h; exact absurd rfl h
    · next hx =>
      rw [if_neg hx] at h
      split
      · rfl
      · next hl => rw [if_neg hl] at h; exact absurd rfl h
  · rfl
theorem prS_i {S : KS} (ok : Okay S.x) (p : PR) : I64 (prS S p).2 := li_i (((prB_go S p).trans (prW_go _ p)).ok ok) _
theorem prA_i {S : KS} (ok : Okay S.x) (l : List PR) : ∀ j, ∀ i ∈ (prA S l j).2, I64 i
  | 0 => fun i hi => by simp [prA] at hi
  | j + 1 => fun i hi => by
    rcases List.mem_append.1 hi with hi | hi
    · exact prA_i ok l j i hi
    · rw [List.mem_singleton.1 hi]
      exact prS_i ((prA_go S l j).ok ok) _
section
variable {w0 W : World} {Z : Nat → Prop} {sa : Nat} {X : List ND}
set_option maxHeartbeats 4000000 in
set_option maxRecDepth 100000 in
theorem l_pterm (h : LA w0 W Z sa X) (hT : Tb w0.heap.size w0) {A : Option Addr} {n c : Nat} {l : List PR} (hf : Fx W Z fun V => Pr V A n c l) (hn : n ≤ 1000000) (hi : ∀ p ∈ l, PrI p) :
    Calls Tryz.prog 14 #[.pointer (some ⟨sa, 0, none⟩), .slice A n c] W (LrS w0 W Z sa (prF X l)) := by
  have H := hid h; have HT := hid hT; have HF := hid hf; have HI := hid hi
  have HL := hid hf.here.len
  have HP := hid hf.here
  obtain ⟨r, hr⟩ : ∃ r : Rs, r = prF X l := ⟨_, rfl⟩
  have HR := hid hr
  rw [← hr]
  clear h hT hf hi hr
  obtain ⟨i0, hii, hz0, hz1, hz2⟩ := info_parts Tryz.infoInt
  go_enter Tryz.func14, Tryz.ntmps14
  go_wp2_with fail
  go_loopw [18] (fun i wr => ∃ j : Nat, i = .int .i64 j ∧ j ≤ n ∧ Hid (l.any prX = (l.drop j).any prX) ∧ Hid (Below W.heap.size W wr)) (fun i _ => n - (intOf i).toNat)
  case atStart => exact ⟨0, rfl, by omega, hid rfl, hid (Below.refl _ _)⟩
  case round =>
    obtain ⟨j, hij, hj, HJ, HB⟩ := hrel
    subst hij
    by_cases hlt : j < n
    · obtain ⟨b, o, p, A', c', rfl, hp, -, d0, d1, d2, d3, d4, d5, d6, d7, d8, d9⟩ := (HP.out.ext HB.out).at hlt
      have hlt' : (j : Int) < (n : Int) := by omega
      have HD := hid (any_pr (p := prX) hp)
      have HB2 := hid (HB.out.alloc HB.out.size (.cells #[.int .i64 p.k, .int .i64 p.f, .int .i64 p.n.k, .int .i64 p.n.i, .int .i64 p.n.e, .int .i64 p.n.s, .int .i64 p.n.h, .slice A' p.n.u.length c', .int .i64 p.a, .int .i64 p.t] 39))
      clear hp
      rcases hx : prX p with _ | _
      · have HF1 := hid (show l.any prX = (l.drop (j + 1)).any prX by rw [HJ.out, HD.out, hx]; rfl)
        unfold prX at hx
        simp only [Bool.or_eq_false_iff, decide_eq_false_iff_not] at hx
        obtain ⟨⟨⟨x1, x2⟩, x3⟩, x4⟩ := hx
        go_wp2_with fail
        go_roundw
        case rel => exact ⟨j + 1, by go_num, by omega, HF1, HB2⟩
        case measure => simp [intOf]; omega
      · have HF1 := hid (show r = (X, 0, 1) by rw [HR.out]; unfold prF; rw [HJ.out, HD.out, hx]; rfl)
        unfold prX at hx
        simp only [Bool.or_eq_true, decide_eq_true_eq] at hx
        by_cases x1 : p.k < 1
        · go_wp2_with fail
          go_ret2
          rw [HF1.out]
          exact ⟨Z, rfl, H.out.ext HB2.out, Mv.below HB2.out⟩
        by_cases x2 : 5 < p.k
        · go_wp2_with fail
          go_ret2
          rw [HF1.out]
          exact ⟨Z, rfl, H.out.ext HB2.out, Mv.below HB2.out⟩
        by_cases x3 : p.f < 0
        · go_wp2_with fail
          go_ret2
          rw [HF1.out]
          exact ⟨Z, rfl, H.out.ext HB2.out, Mv.below HB2.out⟩
        have x4 : p.a < 0 := by omega
        go_wp2_with fail
        go_ret2
        rw [HF1.out]
        exact ⟨Z, rfl, H.out.ext HB2.out, Mv.below HB2.out⟩
    · have HN := hid (show l.any prX = false by rw [HJ.out, List.drop_of_length_le (by have := HL.out; omega)]; rfl)
      have hjn : j = n := by omega
      subst hjn
      clear HJ hlt
      obtain ⟨W1, rfl⟩ : ∃ W1 : World, W1 = wr := ⟨_, rfl⟩
      have T0 := hid (TM.start (P := fun U => Pr U A j c l) (H.out.ext HB.out) (HF.out.ext HB.out))
      clear HF HP
      go_wp2_with fail
      go_loopw [43, 6] (fun i v V => ∃ (k : Nat) (Zq : Nat → Prop), i = .int .i64 k ∧ k ≤ j ∧ TM w0 W1 V Z Zq sa v (prA ⟨X, 0⟩ l k).2 (prA ⟨X, 0⟩ l k).1.x (fun U => Pr U A j c l) ∧ (prA ⟨X, 0⟩ l k).1.e = 0) (fun i _ _ => j - (intOf i).toNat)
      case atStart => exact ⟨0, Z, rfl, by omega, T0.out, rfl⟩
      case round =>
        clear T0
        obtain ⟨k, Zq, hik, hk, htm, he⟩ := hrel
        subst hik
        by_cases hlt : k < j
        · obtain ⟨b, o, p, A', c', rfl, hp, -, d0, d1, d2, d3, d4, d5, d6, d7, d8, d9⟩ := htm.here.at hlt
          have hlt' : (k : Int) < (j : Int) := by omega
          have HTM := hid htm; have HE := hid he
          have HPI := hid (HI.out p (List.mem_of_getElem? hp))
          have HS := hid (prA_succ (S := ⟨X, 0⟩) hp)
          obtain ⟨S, hS⟩ : ∃ S, S = prA ⟨X, 0⟩ l k := ⟨_, rfl⟩
          have HSK := hid hS
          rw [← hS] at HTM HE HS
          clear htm he hp
          obtain ⟨Av, cv, rfl, -⟩ := SlA.owned HTM.out.un
          clear hS
          go_upto_region 11 with fail
          obtain ⟨bx, hbx⟩ : ∃ bx, bx = wr.heap.size := ⟨_, rfl⟩
          have HP := hid (show TM w0 W1 (wr.alloc (.cells #[.int .i64 p.k, .int .i64 p.f, .int .i64 p.n.k, .int .i64 p.n.i, .int .i64 p.n.e, .int .i64 p.n.s, .int .i64 p.n.h, .slice A' p.n.u.length c', .int .i64 p.a, .int .i64 p.t] 39)) Z Zq sa (.slice Av S.2.length cv) S.2 S.1.x (fun U => Pr U (some ⟨b, o, none⟩) j c l) ∧ HasO (.cells #[.int .i64 p.k, .int .i64 p.f, .int .i64 p.n.k, .int .i64 p.n.i, .int .i64 p.n.e, .int .i64 p.n.s, .int .i64 p.n.h, .slice A' p.n.u.length c', .int .i64 p.a, .int .i64 p.t] 39 (0, 0)) bx (wr.alloc (.cells #[.int .i64 p.k, .int .i64 p.f, .int .i64 p.n.k, .int .i64 p.n.i, .int .i64 p.n.e, .int .i64 p.n.s, .int .i64 p.n.h, .slice A' p.n.u.length c', .int .i64 p.a, .int .i64 p.t] 39)) ∧ ¬ Zq bx from
            ⟨HTM.out.ext ((Below.refl _ _).alloc (Nat.le_refl _) _), by rw [hbx]; exact HasO.new _ _, fun hz => by have := HTM.out.la.ar.zlt _ hz; omega⟩)
          rw [← hbx]
          clear hbx d0 d1 d2 d3 d4 d5 d6 d7 d8 d9 HTM
          refine forget (R := fun V => TM w0 W1 V Z Zq sa (.slice Av S.2.length cv) S.2 S.1.x (fun U => Pr U (some ⟨b, o, none⟩) j c l) ∧ HasO (.cells #[.int .i64 p.k, .int .i64 p.f, .int .i64 p.n.k, .int .i64 p.n.i, .int .i64 p.n.e, .int .i64 p.n.s, .int .i64 p.n.h, .slice A' p.n.u.length c', .int .i64 p.a, .int .i64 p.t] 39 (0, 0)) bx V ∧ ¬ Zq bx) ?_ HP.out
          clear HP
          rintro V1 ⟨t1, o1, z1⟩
          have HC := hid (fun (U : World) (h : HasO (.cells #[.int .i64 p.k, .int .i64 p.f, .int .i64 p.n.k, .int .i64 p.n.i, .int .i64 p.n.e, .int .i64 p.n.s, .int .i64 p.n.h, .slice A' p.n.u.length c', .int .i64 p.a, .int .i64 p.t] 39 (0, 0)) bx U) => (show U.cell? ⟨bx, 0, none⟩ = some (.int .i64 p.k) ∧ U.cell? ⟨bx, 1, none⟩ = some (.int .i64 p.f) ∧ U.cell? ⟨bx, 3, none⟩ = some (.int .i64 p.n.i) ∧ U.cell? ⟨bx, 4, none⟩ = some (.int .i64 p.n.e) ∧ U.cell? ⟨bx, 5, none⟩ = some (.int .i64 p.n.s) ∧ U.cell? ⟨bx, 6, none⟩ = some (.int .i64 p.n.h) ∧ U.cell? ⟨bx, 8, none⟩ = some (.int .i64 p.a) ∧ U.cell? ⟨bx, 9, none⟩ = some (.int .i64 p.t) from by
            refine ⟨?_, ?_, ?_, ?_, ?_, ?_, ?_, ?_⟩ <;> (rw [cell_of_row _ bx _ _ _ (0, 0) h]; rfl)))
          generalize hO : (Obj.cells #[.int .i64 p.k, .int .i64 p.f, .int .i64 p.n.k, .int .i64 p.n.i, .int .i64 p.n.e, .int .i64 p.n.s, .int .i64 p.n.h, .slice A' p.n.u.length c', .int .i64 p.a, .int .i64 p.t] 39 (0, 0)) = O at *
          clear hO
          have T1 := hid (show TB w0 W1 V1 Z Zq sa (.slice Av S.2.length cv) S.2 S.1.x (fun U => Pr U (some ⟨b, o, none⟩) j c l) O bx from ⟨t1, o1, z1⟩)
          obtain ⟨k0, -⟩ := HC.out V1 o1
          have HIT := hid (itoa_any p.k HPI.out.1 V1 (Tb.up (HT.out.on t1.la.bl) t1.la.sz))
          clear t1 o1 z1
          go_wp2_with fail
          refine HIT.out.mono ?_
          rintro e w2 ⟨s1, rfl, hs1, b2⟩
          have T2 := hid (T1.out.ext b2)
          have HX1 := hid (l_text T2.out.t.la HT.out s1)
          obtain ⟨⟨X1, i1, e1⟩, hr1⟩ : ∃ q, q = mk S.1.x (txN s1) := ⟨_, rfl⟩
          have HD1 := hid (show doF S.1 (txF (digB p.k)) = (⟨X1, e1⟩, i1) from by unfold doF txF; rw [if_pos HE.out, show digB p.k = s1 from hs1.symm, ← hr1])
          have HI1 := hid (show I64 i1 from by have := tx_i (S := S.1) T2.out.t.la.ar.ok (digB p.k); rw [HD1.out] at this; exact this)
          rw [← hr1] at HX1
          unfold LrS at HX1
          clear hr1 b2 T1 HIT k0 hs1
          go_wp2_with fail
          refine HX1.out.mono ?_
          rintro e w3 ⟨Z3, rfl, l3, m3⟩
          have T3 := hid (T2.out.mv l3 m3)
          clear l3 m3 T2 HX1
          by_cases he1 : e1 = 0
          case neg =>
            have hne : (e1 != 0) = true := bne_iff_ne.2 he1
            have HF1 := hid (show r = (X1, 0, e1) from by
              rw [HR.out]
              exact prF_err HN.out (j := k + 1) (T := ⟨X1, e1⟩) (by have := HL.out; omega) (by rw [HS.out]; exact prS_e1 (by rw [HD1.out]) he1) he1)
            clear he1
            go_wp2_with fail
            go_ret2
            rw [HF1.out]
            exact ⟨Z3, rfl, T3.out.t.la, (Mv.below HB.out).trans T3.out.t.m⟩
          subst he1
          obtain ⟨-, k1, -⟩ := HC.out w3 T3.out.o
          have HIT := hid (itoa_any p.f HPI.out.2.1 w3 (Tb.up (HT.out.on T3.out.t.la.bl) T3.out.t.la.sz))
          go_wp2_with fail
          refine HIT.out.mono ?_
          rintro e w4 ⟨s2, rfl, hs2, b4⟩
          have T4 := hid (T3.out.ext b4)
          have HX2 := hid (l_text T4.out.t.la HT.out s2)
          obtain ⟨⟨X2, i2, e2⟩, hr2⟩ : ∃ q, q = mk X1 (txN s2) := ⟨_, rfl⟩
          have HD2 := hid (show prB S.1 p = (⟨X2, e2⟩, i2) from by
            unfold prB
            rw [HD1.out]
            unfold doF txF
            rw [if_pos rfl, show digB p.f = s2 from hs2.symm]
            dsimp only
            rw [← hr2])
          have HI12 := hid (show I64 i1 ∧ I64 i2 from ⟨HI1.out, by have := tx_i (S := (⟨X1, 0⟩ : KS)) T4.out.t.la.ar.ok (digB p.f); have e := congrArg Prod.snd HD2.out; unfold prB at e; rw [HD1.out] at e; rw [e] at this; exact this⟩)
          clear HI1
          rw [← hr2] at HX2
          unfold LrS at HX2
          clear hr2 b4 T3 HIT k1 hs2
          go_wp2_with fail
          refine HX2.out.mono ?_
          rintro e w5 ⟨Z5, rfl, l5, m5⟩
          have T5 := hid (T4.out.mv l5 m5)
          clear l5 m5 T4 HX2
          by_cases he2 : e2 = 0
          case neg =>
            have hne : (e2 != 0) = true := bne_iff_ne.2 he2
            have HF1 := hid (show r = (X2, 0, e2) from by
              rw [HR.out]
              exact prF_err HN.out (j := k + 1) (T := ⟨X2, e2⟩) (by have := HL.out; omega) (by rw [HS.out]; exact prS_e2 (by rw [HD2.out]) he2) he2)
            clear he2
            go_wp2_with fail
            go_ret2
            rw [HF1.out]
            exact ⟨Z5, rfl, T5.out.t.la, (Mv.below HB.out).trans T5.out.t.m⟩
          subst he2
          obtain ⟨q0, q1, q3, q4, q5, q6, q8, q9⟩ := HC.out w5 T5.out.o
          go_upto_block 4 with fail
          have HI1 := hid (show I64 i1 ∧ I64 i2 from HI12.out)
          clear HI12
          go_cut [14, 12] (fun x e V => ∃ X3 i3 e3 Z6, x = .int .i64 i3 ∧ e = .int .i64 e3 ∧ prW ⟨X2, 0⟩ p = (⟨X3, e3⟩, i3) ∧ TB w0 W1 V Z Z6 sa (.slice Av S.2.length cv) S.2 X3 (fun U => Pr U (some ⟨b, o, none⟩) j c l) O bx ∧ I64 i3)
          case first =>
            obtain ⟨hp1, hp2, hp3, hp4⟩ := HPI.out.2.2.1
            by_cases hk12 : p.k = 1 ∨ p.k = 2
            · have HW := hid (show prW ⟨X2, 0⟩ p = doF ⟨X2, 0⟩ (liF [p.n.i, p.n.e, p.n.s, p.n.h]) from if_pos hk12)
              have HRW := hid (T5.out.ext ((Below.refl w5.heap.size w5).alloc (Nat.le_refl _) (.cells #[.int .i64 p.n.i, .int .i64 p.n.e, .int .i64 p.n.s, .int .i64 p.n.h] 3)))
              have HM := hid (l_list HRW.out.t.la HT.out (l := [p.n.i, p.n.e, p.n.s, p.n.h]) (sla_row #[.int .i64 p.n.i, .int .i64 p.n.e, .int .i64 p.n.s, .int .i64 p.n.h] (by unfold maxLen; simp)) (fun i hi => by
                simp only [List.mem_cons, List.mem_nil_iff, or_false] at hi
                rcases hi with rfl | rfl | rfl | rfl
                · exact hp1
                · exact hp2
                · exact hp3
                · exact hp4))
              obtain ⟨⟨X3, i3, e3⟩, hr3⟩ : ∃ q, q = mk X2 (ndN 3 [p.n.i, p.n.e, p.n.s, p.n.h]) := ⟨_, rfl⟩
              have HI3 := hid (li_i (S := (⟨X2, 0⟩ : KS)) T5.out.t.la.ar.ok [p.n.i, p.n.e, p.n.s, p.n.h])
              have HW3 := hid (show doF ⟨X2, 0⟩ (liF [p.n.i, p.n.e, p.n.s, p.n.h]) = (⟨X3, e3⟩, i3) from by
                unfold doF liF
                rw [if_pos rfl]
                dsimp only
                rw [← hr3])
              rw [HW3.out] at HI3
              rw [← hr3] at HM
              unfold LrS at HM
              clear hr3 hp1 hp2 hp3 hp4
              rcases hk12 with hk | hk
              · have hk1 : (p.k == 1) = true := by rw [hk]; rfl
                clear hk
                go_wp2_with fail
                refine HM.out.mono ?_
                rintro e w6 ⟨Z6, rfl, l6, m6⟩
                have T6 := hid (HRW.out.mv l6 m6)
                clear l6 m6 HM HRW
                go_wp2_with fail
                go_meet
                exact ⟨X3, i3, e3, Z6, rfl, rfl, HW.out.trans HW3.out, T6.out, HI3.out⟩
              · have hk1 : (p.k == 1) = false := by rw [hk]; rfl
                have hk2 : (p.k == 2) = true := by rw [hk]; rfl
                clear hk
                go_wp2_with fail
                refine HM.out.mono ?_
                rintro e w6 ⟨Z6, rfl, l6, m6⟩
                have T6 := hid (HRW.out.mv l6 m6)
                clear l6 m6 HM HRW
                go_wp2_with fail
                go_meet
                exact ⟨X3, i3, e3, Z6, rfl, rfl, HW.out.trans HW3.out, T6.out, HI3.out⟩
            · have hk1 : (p.k == 1) = false := beq_eq_false_iff_ne.2 fun e => hk12 (.inl e)
              have hk2 : (p.k == 2) = false := beq_eq_false_iff_ne.2 fun e => hk12 (.inr e)
              clear hp1 hp2 hp3 hp4
              by_cases hk3 : p.k = 3
              · have HW := hid (show prW ⟨X2, 0⟩ p = doF ⟨X2, 0⟩ (txF (digB p.a)) from by unfold prW; rw [if_neg hk12, if_pos hk3])
                have HIT := hid (itoa_any p.a HPI.out.2.2.2.1 w5 (Tb.up (HT.out.on T5.out.t.la.bl) T5.out.t.la.sz))
                have hk3' : (p.k == 3) = true := by rw [hk3]; rfl
                clear hk12 hk3
                go_wp2_with fail
                refine HIT.out.mono ?_
                rintro e w6 ⟨s3, rfl, hs3, b6⟩
                have T6 := hid (T5.out.ext b6)
                have HX3 := hid (l_text T6.out.t.la HT.out s3)
                obtain ⟨⟨X3, i3, e3⟩, hr3⟩ : ∃ q, q = mk X2 (txN s3) := ⟨_, rfl⟩
                have HI3 := hid (tx_i (S := (⟨X2, 0⟩ : KS)) T6.out.t.la.ar.ok (digB p.a))
                have HW3 := hid (show doF ⟨X2, 0⟩ (txF (digB p.a)) = (⟨X3, e3⟩, i3) from by
                  unfold doF txF
                  rw [if_pos rfl, show digB p.a = s3 from hs3.symm]
                  dsimp only
                  rw [← hr3])
                rw [HW3.out] at HI3
                rw [← hr3] at HX3
                unfold LrS at HX3
                clear hr3 b6 HIT hs3
                go_wp2_with fail
                refine HX3.out.mono ?_
                rintro e w7 ⟨Z7, rfl, l7, m7⟩
                have T7 := hid (T6.out.mv l7 m7)
                clear l7 m7 HX3
                go_wp2_with fail
                go_meet
                exact ⟨X3, i3, e3, Z7, rfl, rfl, HW.out.trans HW3.out, T7.out, HI3.out⟩
              · have HW := hid (show prW ⟨X2, 0⟩ p = (⟨X2, 0⟩, p.t) from by unfold prW; rw [if_neg hk12, if_neg hk3])
                have hk3' : (p.k == 3) = false := beq_eq_false_iff_ne.2 hk3
                clear hk12 hk3
                go_wp2_with fail
                go_meet
                exact ⟨X2, p.t, 0, Z5, rfl, rfl, HW.out, T5.out, HPI.out.2.2.2.2⟩
          case rest =>
            obtain ⟨X3, i3, e3, Z6, rfl, rfl, hW, t6, hi3⟩ := hcut
            have T6 := hid t6; have HW := hid hW; have HI3 := hid hi3
            clear t6 hW hi3 q0 q1 q3 q4 q5 q6 q8 q9 T5
            by_cases he3 : e3 = 0
            case neg =>
              have hne : (e3 != 0) = true := bne_iff_ne.2 he3
              have HF1 := hid (show r = (X3, 0, e3) from by
                rw [HR.out]
                exact prF_err HN.out (j := k + 1) (T := ⟨X3, e3⟩) (by have := HL.out; omega) (by rw [HS.out]; exact prS_e3 (by rw [HD2.out, HW.out]) he3) he3)
              clear he3
              go_wp2_with fail
              go_ret2
              rw [HF1.out]
              exact ⟨Z6, rfl, T6.out.t.la, (Mv.below HB.out).trans T6.out.t.m⟩
            subst he3
            have HRW := hid (T6.out.ext ((Below.refl wc.heap.size wc).alloc (Nat.le_refl _) (.cells #[.int .i64 i1, .int .i64 i2, .int .i64 i3] 3)))
            have HM := hid (l_list HRW.out.t.la HT.out (l := [i1, i2, i3]) (sla_row #[.int .i64 i1, .int .i64 i2, .int .i64 i3] (by unfold maxLen; simp)) (fun i hi => by
              simp only [List.mem_cons, List.mem_nil_iff, or_false] at hi
              rcases hi with rfl | rfl | rfl
              · exact HI1.out.1
              · exact HI1.out.2
              · exact HI3.out))
            obtain ⟨⟨X4, i4, e4⟩, hr4⟩ : ∃ q, q = mk X3 (ndN 3 [i1, i2, i3]) := ⟨_, rfl⟩
            have HSS := hid (show prS S.1 p = (⟨X4, e4⟩, i4) from by
              unfold prS
              rw [HD1.out, HD2.out]
              dsimp only
              rw [HW.out]
              unfold doF liF
              dsimp only
              rw [if_pos rfl, ← hr4])
            rw [← hr4] at HM
            unfold LrS at HM
            clear hr4
            go_wp2_with fail
            refine HM.out.mono ?_
            rintro e w7 ⟨Z7, rfl, l7, m7⟩
            have T7 := hid (HRW.out.mv l7 m7)
            clear l7 m7 HM HRW T6
            by_cases he4 : e4 = 0
            case neg =>
              have hne : (e4 != 0) = true := bne_iff_ne.2 he4
              have HF1 := hid (show r = (X4, 0, e4) from by
                rw [HR.out]
                exact prF_err HN.out (j := k + 1) (T := ⟨X4, e4⟩) (by have := HL.out; omega) (by rw [HS.out, HSS.out]) he4)
              clear he4
              go_wp2_with fail
              go_ret2
              rw [HF1.out]
              exact ⟨Z7, rfl, T7.out.t.la, (Mv.below HB.out).trans T7.out.t.m⟩
            subst he4
            rw [HSS.out] at HS
            have HLS := hid (show S.2.length ≤ 1000000 from by have := prA_len (⟨X, 0⟩ : KS) l k; rw [← HSK.out] at this; omega)
            obtain ⟨ll, hll⟩ : ∃ ll, ll = S.2 := ⟨_, rfl⟩
            rw [← hll] at HS T7 HLS ⊢
            clear hll HD1 HD2 HW HC HPI
            have HLN := hid HLS.out
            clear HLS
            go_wp2_with (first
              | (at_builtin; refine wpList_append_sl _ rfl _ _ 30 rfl W1.heap.size 3 i0 (.int .i64 0) 1 8 Tryz.underlying30 hii hz0 hz1 hz2 rfl (by decide) (.slice Av ll.length cv) ll.length (ll.map (.int .i64)) rfl (T7.out.ext ((Below.refl _ _).alloc (Nat.le_refl _) _)).t.un _ 1 1 [.int .i64 i4] rfl (SlA.lit1 _) (one_int _ _) (by have := HLN.out; unfold maxLen; omega) (by have := HLN.out; omega) (by have := T7.out.t.m.t.size; simp; omega) ?_; intro v8 w8 own8 gr8 loc8; have T8 := hid ((T7.out.ext ((Below.refl _ _).alloc (Nat.le_refl _) (.cells #[.int .i64 i4] 3))).t.app (l' := ll ++ [i4]) (by rw [List.length_append, List.map_append]; exact own8) gr8 loc8); clear own8 gr8 loc8))
            go_roundw
            case rel => exact ⟨k + 1, Z7, by go_num, by omega, by rw [HS.out]; exact T8.out, by rw [HS.out]⟩
            case measure => simp [intOf]; omega
        · have hkj : k = j := by omega
          subst hkj
          clear hlt
          have HTM := hid htm; have HE := hid he
          clear htm he
          obtain ⟨S, hS⟩ : ∃ S, S = prA ⟨X, 0⟩ l k := ⟨_, rfl⟩
          have HSI := hid (prA_i (S := (⟨X, 0⟩ : KS)) H.out.ar.ok l k)
          rw [← hS] at HTM HE HSI
          have HF1 := hid (show r = mk S.1.x (ndN 3 S.2) from by
            rw [HR.out]
            unfold prF prZ
            rw [if_neg (by rw [HN.out]; decide), show l.length = k from HL.out, ← hS]
            unfold doF liF
            rw [if_pos HE.out]
            dsimp only
            by_cases h0 : (mk S.1.x (ndN 3 S.2)).2.2 = 0
            · rw [if_pos h0]
            · rw [if_neg h0, ← mk_zero9 h0])
          obtain ⟨Av, cv, rfl, hsv⟩ := SlA.owned HTM.out.un
          have HM := hid (l_list HTM.out.la HT.out hsv HSI.out)
          rw [← HF1.out] at HM
          unfold LrS at HM
          clear hsv HF1 hS
          go_wp2_with fail
          refine HM.out.mono ?_
          rintro e w7 ⟨Z7, rfl, l7, m7⟩
          have L7 := hid l7; have M7 := hid (((Mv.below HB.out).trans HTM.out.m).trans m7)
          clear l7 m7 HM
          go_wp2_with fail
          go_ret2
          exact ⟨Z7, rfl, L7.out, M7.out⟩
end
end Go.Proofs.YtpkijlmkgomfeaaGreatDoor

/- the document's maker in memory: makes a node, its first error stays. -/
namespace Go.Proofs.YtpkijlmkgomfeaaGreatDoor
open Go.RowKit Go.KK Go.Shelf Go.Maps
set_option linter.unusedVariables false
set_option linter.unusedSimpArgs false

theorem lq_put9 {w0 W : World} {Z : Nat → Prop} {sa b o : Nat} {xs : List ND} (h : LQ w0 W Z sa xs) (v : Value) (hz : ¬ Z b) (hb : w0.heap.size ≤ b) : LQ w0 (W.setCell ⟨b, o, none⟩ v) Z sa xs := by
  have ht : Turn (fun k => k = b) W (W.setCell ⟨b, o, none⟩ v) := Turn.setCell v (.inl rfl)
  exact ⟨h.ar.turn ht fun k hk e => hz (e ▸ hk), h.z, h.bl.trans (ht.below (fun k e => e ▸ hb) h.bl.size)⟩
/-- The maker, and its arena. -/
structure MQ (w0 W : World) (Z : Nat → Prop) (sa bk : Nat) (S : KS) : Prop where
  la : LQ w0 W Z sa S.x
  k : W.heap[bk]? = some (.cells #[.pointer (some ⟨sa, 0, none⟩), .int .i64 S.e] 110 (0, 0))
  nz : ¬ Z bk
  lo : w0.heap.size ≤ bk
section
variable {w0 W W' : World} {Z Z' : Nat → Prop} {sa bk : Nat} {S : KS} {X' : List ND}
theorem MQ.lt (h : MQ w0 W Z sa bk S) : bk < W.heap.size := (Array.getElem?_eq_some_iff.1 h.k).1
theorem MQ.c0 (h : MQ w0 W Z sa bk S) : W.cell? ⟨bk, 0, none⟩ = some (.pointer (some ⟨sa, 0, none⟩)) := by rw [cell_of_row W bk 0 _ _ (0, 0) h.k]; rfl
theorem MQ.c1 (h : MQ w0 W Z sa bk S) : W.cell? ⟨bk, 1, none⟩ = some (.int .i64 S.e) := by rw [cell_of_row W bk 1 _ _ (0, 0) h.k]; rfl
theorem MQ.fz (h : MQ w0 W Z sa bk S) (i : Nat) : W.frozen? ⟨bk, i, none⟩ = false := frozen_of_row W bk i _ _ h.k
theorem MQ.ext (h : MQ w0 W Z sa bk S) (hb : Below W.heap.size W W') : MQ w0 W' Z sa bk S :=
  ⟨h.la.ext hb, (hb.block bk h.lt).trans h.k, h.nz, h.lo⟩
theorem MQ.mv (h : MQ w0 W Z sa bk S) (l : LQ w0 W' Z' sa X') (m : Mv Z W Z' W') : MQ w0 W' Z' sa bk ⟨X', S.e⟩ :=
  ⟨l, (m.t.block bk h.lt h.nz).trans h.k, fun hz => (m.n bk hz).elim h.nz fun h' => by have := h.lt; omega, h.lo⟩
theorem MQ.put (h : MQ w0 W Z sa bk S) (e : Int) : MQ w0 (W.setCell ⟨bk, 1, none⟩ (.int .i64 e)) Z sa bk ⟨S.x, e⟩ := by
  refine ⟨lq_put9 h.la _ h.nz h.lo, ?_, h.nz, h.lo⟩
  rw [heap_setCell_same W bk 1 _ _ _ h.k]; rfl
theorem MQ.i64 (h : MQ w0 W Z sa bk S) {i : Int} (hi : hasB S.x i = true) : I64 i := by
  have a := has_iff.1 hi
  have b := h.la.ar.ok.len
  exact ⟨by omega, by omega⟩
theorem MQ.new (h : MQ w0 W Z sa bk S) : ¬ Zk Z bk W.heap.size := fun hz => hz.elim (fun hz => by have := h.la.ar.zlt _ hz; omega) (fun e => by have := h.lt; omega)
end
section
variable {w0 W : World} {Z : Nat → Prop} {sa bk : Nat} {S : KS}
end
end Go.Proofs.YtpkijlmkgomfeaaGreatDoor

