import Derived.Test.YtpkijlmkgomfeaaGreatDoorY13
import Derived.Test.YtpkijlmkgomfeaaGreatDoorY08
import Derived.Test.YtpkijlmkgomfeaaGreatDoorY06
import Derived.Test.YtpkijlmkgomfeaaGreatDoorY09
import Derived.Test.YtpkijlmkgomfeaaGreatDoorY05
import Derived.Test.YtpkijlmkgomfeaaGreatDoorY10
/- proposals: law 15's live. -/
namespace Go.Proofs.YtpkijlmkgomfeaaGreatDoor
open Go.RowKit Go.KK Go.Shelf Go.Maps
set_option linter.unusedVariables false
set_option linter.unusedSimpArgs false

def lv15 : List TN := [⟨1, 1, 21, 31, 0, []⟩, zeroN, ⟨1, 2, 22, 32, 0, []⟩]
def lvP (a : Int) : PR := ⟨3, 0, zeroN, a, 0⟩
theorem l15a : (paR x15 lv15 0 [lvP 1]).2 = 0 ∧ (paR x15 lv15 0 [lvP 1]).1.t.length = 1 ∧ (paR x15 lv15 0 [lvP 1]).1.go = [1] := by decide +kernel
theorem l15b : (paR x15 lv15 0 [lvP 0]).2 = 70 := by decide +kernel
def lit15 : Array Value := #[.int .i64 1, .int .i64 1, .int .i64 21, .int .i64 31, .int .i64 0, .slice none 0 0, .int .i64 0, .int .i64 0, .int .i64 0, .int .i64 0, .int .i64 0, .slice none 0 0, .int .i64 1, .int .i64 2, .int .i64 22, .int .i64 32, .int .i64 0, .slice none 0 0]
theorem tr_lit15 {V : World} {b : Nat} (h : V.heap[b]? = some (.cells lit15 37 (0, 0))) : Tr V (some ⟨b, 0, none⟩) 3 3 lv15 := by
  refine ⟨[.slice none 0 0, .slice none 0 0, .slice none 0 0], rfl, ⟨Nat.le_refl _, by decide, rfl, fun j u hj => ⟨b, 0, rfl, ?_⟩⟩, fun j x q hx hq => ?_⟩
  · rw [Nat.zero_add, cell_of_row _ b _ _ _ (0, 0) h]
    rw [← hj]; simp [ncs, lv15, TN.cells, lit15, zeroN]
  · match j, hx, hq with
    | 0, hx, hq => injection hx with hx; injection hq with hq; subst hx; subst hq; exact ⟨none, 0, rfl, SlA.nil _ _⟩
    | 1, hx, hq => injection hx with hx; injection hq with hq; subst hx; subst hq; exact ⟨none, 0, rfl, SlA.nil _ _⟩
    | 2, hx, hq => injection hx with hx; injection hq with hq; subst hx; subst hq; exact ⟨none, 0, rfl, SlA.nil _ _⟩
    | j + 3, hx, _ => cases hx
/-- A row of one proposal, laid. -/
theorem pr_one {V : World} {b : Nat} {p : PR} {A : Option Addr} {c : Nat} (h : V.heap[b]? = some (prO p (.slice A p.n.u.length c))) (hs : SlA V 1 A p.n.u.length c (p.n.u.map (.int .i64))) : Pr V (some ⟨b, 0, none⟩) 1 1 [p] := by
  refine ⟨[.slice A p.n.u.length c], ⟨rfl, rfl⟩, ⟨Nat.le_refl _, by decide, rfl, fun j u hj => ⟨b, 0, rfl, ?_⟩⟩, fun j x q hx hq => ?_⟩
  · unfold prO at h
    rw [Nat.zero_add, cell_of_row _ b _ _ _ (0, 0) h]
    rw [← hj]; simp [pcs, PR.cells]
  · match j, hx, hq with
    | 0, hx, hq => injection hx with hx; injection hq with hq; subst hx; subst hq; exact ⟨A, c, rfl, hs⟩
    | j + 1, hx, _ => cases hx
theorem lv15_j : TsJ lv15 := by
  intro j x hx
  match j, hx with
  | 0, hx => injection hx with hx; subst hx; exact ⟨i64_lit (by decide) (by decide), i64_lit (by decide) (by decide), i64_lit (by decide) (by decide)⟩
  | 1, hx => injection hx with hx; subst hx; exact tnJ0
  | 2, hx => injection hx with hx; subst hx; exact ⟨i64_lit (by decide) (by decide), i64_lit (by decide) (by decide), i64_lit (by decide) (by decide)⟩
  | j + 3, hx => cases hx
theorem lv15_s : shU 0 lv15 := by
  intro j x hx
  match j, hx with
  | 0, hx => injection hx with hx; subst hx; exact Nat.le_refl _
  | 1, hx => injection hx with hx; subst hx; exact Nat.le_refl _
  | 2, hx => injection hx with hx; subst hx; exact Nat.le_refl _
  | j + 3, hx => cases hx
theorem lvP_i {a : Int} (h0 : 0 ≤ a) (h1 : a ≤ 100) : PrI (lvP a) := by
  have z : I64 (0 : Int) := i64_lit (by decide) (by decide)
  have t : I64 (3 : Int) := i64_lit (by decide) (by decide)
  exact ⟨t, z, ⟨z, z, z, z⟩, ⟨by show _ ≤ a; omega, by show a ≤ _; omega⟩, z⟩
set_option maxHeartbeats 8000000 in
set_option maxRecDepth 100000 in
theorem live15_any (w : World) (hT : Tb w.heap.size w) (hTab : ∀ U, Below w.heap.size w U → Tab U) : Calls Tryz.prog 8 #[] w fun e w' => e = .returned (.bool true) ∧ Below w.heap.size w w' := by
  have HTB := hid hTab
  have HW := hid (two15_any w hT)
  clear hT hTab
  go_enter Tryz.func8, Tryz.ntmps8
  go_wp2_with fail
  refine HW.out.mono ?_
  rintro e w1 ⟨sa, sb, Z, Z', rfl, htx⟩
  have HTX := hid htx
  clear htx HW
  go_upto_region 5 with fail
  have HP := hid (show Tx w (w1.alloc (.cells lit15 37)) sa sb Z Z' x15 x15 ∧ (w1.alloc (.cells lit15 37)).heap[w1.heap.size]? = some (.cells lit15 37 (0, 0)) from ⟨HTX.out.alloc _, heap_alloc_new w1 _⟩)
  unfold lit15 at HP
  obtain ⟨tb, htb⟩ : ∃ tb, tb = w1.heap.size := ⟨_, rfl⟩
  rw [← htb] at HP ⊢
  clear htb
  refine forget (R := fun V => Tx w V sa sb Z Z' x15 x15 ∧ V.heap[tb]? = some (.cells lit15 37 (0, 0))) ?_ HP.out
  clear HP HTX
  rintro V ⟨htx, hl⟩
  have HTX := hid htx; have HL := hid hl
  have HAP := hid (fun (U : World) (hU : Below V.heap.size V U) (k : Int) (h0 : 0 ≤ k) (h1 : k ≤ 100) => papply_any (y := 0) (B := some ⟨U.heap.size, 0, none⟩) (m := 1) (d := 1) (l := [lvP k]) ((htx.a.ar.vw.ext hU).ext ((Below.refl U.heap.size U).alloc (Nat.le_refl _) (prO (lvP k) (.slice none 0 0)))) ((tr_lit15 ((hU.block _ (Array.getElem?_eq_some_iff.1 hl).1).trans hl)).ext ((Below.refl U.heap.size U).alloc (Nat.le_refl _) (prO (lvP k) (.slice none 0 0)))) (by decide) lv15_s (by decide)
    (fun W hW => HTB.out W (htx.a.bl.trans ((hU.trans (((Below.refl U.heap.size U).alloc (Nat.le_refl _) (prO (lvP k) (.slice none 0 0))).trans (hW.mono (by simp)) |>.mono hU.size)).mono htx.a.bl.size))) lv15_j
    (pr_one (heap_alloc_new U _) (SlA.nil _ _)) (by decide) (fun p hp => by rw [List.mem_singleton.1 hp]; exact lvP_i h0 h1) (fun p hp => by rw [List.mem_singleton.1 hp]; exact Nat.zero_le _))
  have HA1 := hid (HAP.out V (Below.refl _ _) 1 (by decide) (by decide))
  unfold prO lvP zeroN at HA1
  change Hid (Calls _ _ _ _ (ApR _ (paR x15 lv15 0 [lvP 1]))) at HA1
  have HQ := hid l15a
  generalize paR x15 lv15 0 [lvP 1] = r1 at *
  obtain ⟨⟨t1, fr1, go1, ps1, x1, hx1⟩, er1⟩ := r1
  obtain ⟨q1, q2, q3⟩ := HQ.out
  dsimp only at q1 q2 q3
  subst q1; subst q3
  clear HQ
  go_wp2_with fail
  refine HA1.out.mono ?_
  rintro e w2 ⟨vt, vf, vg, vp, rfl, ⟨At, ct, rfl, -⟩, ⟨Af, cf, rfl, -⟩, ⟨Ag, cg, rfl, hsg⟩, ⟨Ae, ce, rfl, -⟩, hb2⟩
  dsimp only at hsg ⊢
  have hsg' : SlA w2 1 Ag 1 cg [.int .i64 1] := hsg
  have hb3 : Below V.heap.size V w2 := ((Below.refl V.heap.size V).alloc (Nat.le_refl _) (prO (lvP 1) (.slice none 0 0))).trans (hb2.mono (by simp))
  rw [q2]
  change _ = _ at q2
  have HP := hid (show Below V.heap.size V (w2.alloc (apO (.slice At 1 ct) (.slice Af fr1.length cf) (.slice Ag 1 cg) (.slice Ae ps1.length ce) x1 hx1)) ∧ (w2.alloc (apO (.slice At 1 ct) (.slice Af fr1.length cf) (.slice Ag 1 cg) (.slice Ae ps1.length ce) x1 hx1)).heap[w2.heap.size]? = some (apO (.slice At 1 ct) (.slice Af fr1.length cf) (.slice Ag 1 cg) (.slice Ae ps1.length ce) x1 hx1) ∧ SlA (w2.alloc (apO (.slice At 1 ct) (.slice Af fr1.length cf) (.slice Ag 1 cg) (.slice Ae ps1.length ce) x1 hx1)) 1 Ag 1 cg [.int .i64 1] from
    ⟨hb3.alloc hb3.size _, heap_alloc_new w2 _, hsg'.ext ((Below.refl _ _).alloc (Nat.le_refl _) _)⟩)
  unfold apO at HP
  clear hsg hsg' hb2 hb3 HA1 q2 htx hl
  go_upto_region 6 with fail
  obtain ⟨b4, hb4⟩ : ∃ b4, b4 = w2.heap.size := ⟨_, rfl⟩
  simp only [List.length_cons, List.length_nil, Nat.zero_add] at HP ⊢
  rw [← hb4] at HP ⊢
  clear hb4
  refine forget (R := fun U => Below V.heap.size V U ∧ U.heap[b4]? = some (apO (.slice At 1 ct) (.slice Af fr1.length cf) (.slice Ag 1 cg) (.slice Ae ps1.length ce) x1 hx1) ∧ SlA U 1 Ag 1 cg [.int .i64 1]) ?_ HP.out
  clear HP
  rintro U ⟨hu, hb4, hsg⟩
  have HU := hid hu; have HB4 := hid hb4; have HSG := hid hsg
  have HA2 := hid (HAP.out U hu 0 (by decide) (by decide))
  unfold prO lvP zeroN at HA2
  change Hid (Calls _ _ _ _ (ApR _ (paR x15 lv15 0 [lvP 0]))) at HA2
  have HQ := hid l15b
  generalize paR x15 lv15 0 [lvP 0] = r2 at *
  obtain ⟨⟨t2, fr2, go2, ps2, x2, hx2⟩, er2⟩ := r2
  have q1 := HQ.out
  dsimp only at q1
  subst q1
  clear HQ hu hb4 hsg
  go_wp2_with fail
  refine HA2.out.mono ?_
  rintro e w3 ⟨vt, vf, vg, vp, rfl, ⟨At2, ct2, rfl, -⟩, ⟨Af2, cf2, rfl, -⟩, ⟨Ag2, cg2, rfl, -⟩, ⟨Ae2, ce2, rfl, -⟩, hb2⟩
  dsimp only
  have hb3 : Below U.heap.size U w3 := ((Below.refl U.heap.size U).alloc (Nat.le_refl _) (prO (lvP 0) (.slice none 0 0))).trans (hb2.mono (by simp))
  have hb5 : Below U.heap.size U (w3.alloc (apO (.slice At2 t2.length ct2) (.slice Af2 fr2.length cf2) (.slice Ag2 go2.length cg2) (.slice Ae2 ps2.length ce2) x2 hx2)) := hb3.alloc hb3.size _
  unfold apO at hb5
  have HP := hid hb5
  clear hb2 hb3 hb5 HA2
  go_upto_region 7 with fail
  refine forget (R := fun U' => Below U.heap.size U U') ?_ HP.out
  clear HP
  intro U2 h2
  have B9 := hid (HTX.out.a.bl.trans ((HU.out.trans (h2.mono HU.out.size)).mono HTX.out.a.bl.size))
  obtain ⟨k0, k1, k2, k3, k4, k5⟩ := ap6 ((h2.block _ (Array.getElem?_eq_some_iff.1 HB4.out).1).trans HB4.out)
  have HSI := hid (same_ints Ag 1 cg [1] (some ⟨U2.heap.size, 0, none⟩) 1 1 [1] (U2.alloc (.cells #[.int .i64 1] 3)) ((HSG.out.ext h2).ext ((Below.refl _ _).alloc (Nat.le_refl _) _)) (SlA.lit1 _) (by decide) (by decide))
  have HBB := hid (B9.out.alloc B9.out.size (.cells #[.int .i64 1] 3))
  clear h2 HAP
  go_wp2_with fail
  refine HSI.out.mono ?_
  rintro e w4 ⟨rfl, q, rfl⟩
  clear HSI
  go_wp2_with fail
  go_ret
  exact ⟨rfl, below_drewN HBB.out _⟩
end Go.Proofs.YtpkijlmkgomfeaaGreatDoor

/- proposals as terms: behind an error nothing is made any more. -/
namespace Go.KK
open Go
set_option linter.unusedVariables false
set_option linter.unusedSimpArgs false

theorem prW_no {S : KS} (h : S.e ≠ 0) (p : PR) : (prW S p).1 = S := by
  unfold prW
  split
  · rw [do_no _ h]
  · split
    · rw [do_no _ h]
    · rfl
theorem prB_no {S : KS} (h : S.e ≠ 0) (p : PR) : (prB S p).1 = S := by
  unfold prB
  rw [do_no _ h, do_no _ h]
theorem prS_no {S : KS} (h : S.e ≠ 0) (p : PR) : (prS S p).1 = S := by
  unfold prS
  rw [prB_no h, prW_no h, do_no _ h]
theorem prA_no {S : KS} {l : List PR} {j : Nat} (h : (prA S l j).1.e ≠ 0) : ∀ k, (prA S l (j + k)).1 = (prA S l j).1
  | 0 => rfl
  | k + 1 => by
    have ih := prA_no h k
    show (prS (prA S l (j + k)).1 _).1 = _
    rw [ih, prS_no h]
/-- An error on the way is the answer. -/
theorem prF_err {X : List ND} {l : List PR} {j : Nat} {T : KS} (hx : l.any prX = false) (hj : j ≤ l.length) (h : (prA ⟨X, 0⟩ l j).1 = T) (he : T.e ≠ 0) : prF X l = (T.x, 0, T.e) := by
  have h1 : (prA ⟨X, 0⟩ l l.length).1 = T := by
    have := prA_no (S := ⟨X, 0⟩) (l := l) (j := j) (by rw [h]; exact he) (l.length - j)
    rw [show j + (l.length - j) = l.length by omega, h] at this
    exact this
  unfold prF prZ
  rw [if_neg (by rw [hx]; decide), h1, do_no _ he, if_neg he]
/-- In a round: the error stands where it came up. -/
theorem prS_e1 {S T : KS} {p : PR} (h : (doF S (txF (digB p.k))).1 = T) (he : T.e ≠ 0) : (prS S p).1 = T := by
  unfold prS prB
  rw [h, do_no _ he]
  dsimp only
  rw [prW_no he, do_no _ he]
theorem prS_e2 {S T : KS} {p : PR} (h : (prB S p).1 = T) (he : T.e ≠ 0) : (prS S p).1 = T := by
  unfold prS
  rw [h, prW_no he, do_no _ he]
theorem prS_e3 {S T : KS} {p : PR} (h : (prW (prB S p).1 p).1 = T) (he : T.e ≠ 0) : (prS S p).1 = T := by
  unfold prS
  rw [h, do_no _ he]
theorem prA_succ {S : KS} {l : List PR} {j : Nat} {p : PR} (hp : l[j]? = some p) : prA S l (j + 1) = ((prS (prA S l j).1 p).1, (prA S l j).2 ++ [(prS (prA S l j).1 p).2]) := by
  show (_, _) = _
  rw [show l.getD j pr0 = p by rw [List.getD_eq_getElem?_getD, hp]; rfl]
end Go.KK

/- proposals apart, in plain words. -/
namespace Go.Proofs.YtpkijlmkgomfeaaGreatDoor
open Go.RowKit Go.KK Go.Shelf Go.Maps
set_option linter.unusedVariables false
set_option linter.unusedSimpArgs false

def WAt (Y : List ND) (p : PR) (c : Int) : Prop := if p.k = 1 ∨ p.k = 2 then At Y c (ndN 3 [p.n.i, p.n.e, p.n.s, p.n.h]) else if p.k = 3 then At Y c (txN (digB p.a)) else c = p.t
/-- A term that says a proposal. -/
def PAt (Y : List ND) (p : PR) (t : Int) : Prop := ∃ a b c, At Y a (txN (digB p.k)) ∧ At Y b (txN (digB p.f)) ∧ WAt Y p c ∧ At Y t (ndN 3 [a, b, c])
def LAt (Y : List ND) (l : List PR) (x : Int) : Prop := ∃ ts : List Int, ts.length = l.length ∧ (∀ (j : Nat) p t, l[j]? = some p → ts[j]? = some t → PAt Y p t) ∧ At Y x (ndN 3 ts)
theorem WAt.ext {Y : List ND} {p : PR} {c : Int} (h : WAt Y p c) (m : List ND) : WAt (Y ++ m) p c := by
  unfold WAt at *
  split
  · next hk => rw [if_pos hk] at h; exact h.ext m
  · next hk =>
    rw [if_neg hk] at h
    split
    · next h3 => rw [if_pos h3] at h; exact h.ext m
    · next h3 => rw [if_neg h3] at h; exact h
theorem PAt.ext {Y : List ND} {p : PR} {t : Int} (h : PAt Y p t) (m : List ND) : PAt (Y ++ m) p t := by
  obtain ⟨a, b, c, h1, h2, h3, h4⟩ := h
  exact ⟨a, b, c, h1.ext m, h2.ext m, h3.ext m, h4.ext m⟩
theorem LAt.ext {Y : List ND} {l : List PR} {x : Int} (h : LAt Y l x) (m : List ND) : LAt (Y ++ m) l x := by
  obtain ⟨ts, h1, h2, h3⟩ := h
  exact ⟨ts, h1, fun j p t hp ht => (h2 j p t hp ht).ext m, h3.ext m⟩
theorem g2_patx {S T : KS} {k : Nat} (h : Go2 S T k) {p : PR} {t : Int} (ha : PAt S.x p t) : PAt T.x p t := by obtain ⟨m, hm⟩ := h.ext; rw [hm]; exact ha.ext m
theorem g2_watx {S T : KS} {k : Nat} (h : Go2 S T k) {p : PR} {t : Int} (ha : WAt S.x p t) : WAt T.x p t := by obtain ⟨m, hm⟩ := h.ext; rw [hm]; exact ha.ext m
theorem do_at9 {S : KS} {x : ND} (h : (doF S fun xs => mk xs x).1.e = 0) : S.e = 0 ∧ At (doF S fun xs => mk xs x).1.x (doF S fun xs => mk xs x).2 x := by
  by_cases he : S.e = 0
  · have e : doF S (fun xs => mk xs x) = (⟨(mk S.x x).1, (mk S.x x).2.2⟩, (mk S.x x).2.1) := if_pos he
    rw [e] at h ⊢
    exact ⟨he, mk_at' h⟩
  · rw [do_no _ he] at h
    exact absurd h he
theorem tx_at9 {S : KS} {s : ByteArray} (h : (doF S (txF s)).1.e = 0) : S.e = 0 ∧ At (doF S (txF s)).1.x (doF S (txF s)).2 (txN s) := do_at9 h
theorem li_at9 {S : KS} {l : List Int} (h : (doF S (liF l)).1.e = 0) : S.e = 0 ∧ At (doF S (liF l)).1.x (doF S (liF l)).2 (ndN 3 l) := do_at9 h
theorem prB_at {S : KS} {p : PR} (h : (prB S p).1.e = 0) : S.e = 0 ∧ At (prB S p).1.x (doF S (txF (digB p.k))).2 (txN (digB p.k)) ∧ At (prB S p).1.x (prB S p).2 (txN (digB p.f)) := by
  obtain ⟨h1, h2⟩ := tx_at9 h
  obtain ⟨h3, h4⟩ := tx_at9 h1
  exact ⟨h3, (tx_go (doF S (txF (digB p.k))).1 (digB p.f)).at h4, h2⟩
theorem prW_at {S : KS} {p : PR} (h : (prW S p).1.e = 0) : S.e = 0 ∧ WAt (prW S p).1.x p (prW S p).2 := by
  unfold prW at *
  unfold WAt
  by_cases hk : p.k = 1 ∨ p.k = 2
  · rw [if_pos hk] at h ⊢
    rw [if_pos hk]
    exact li_at9 h
  · rw [if_neg hk] at h ⊢
    rw [if_neg hk]
    by_cases h3 : p.k = 3
    · rw [if_pos h3] at h ⊢
      rw [if_pos h3]
      exact tx_at9 h
    · rw [if_neg h3] at h ⊢
      rw [if_neg h3]
      exact ⟨h, rfl⟩
theorem prS_at {S : KS} {p : PR} (h : (prS S p).1.e = 0) : S.e = 0 ∧ PAt (prS S p).1.x p (prS S p).2 := by
  obtain ⟨h1, h2⟩ := li_at9 h
  obtain ⟨h3, h4⟩ := prW_at h1
  obtain ⟨h5, h6, h7⟩ := prB_at h3
  have g1 := prW_go (prB S p).1 p
  have g2 := li_go (prW (prB S p).1 p).1 [(doF S (txF (digB p.k))).2, (prB S p).2, (prW (prB S p).1 p).2]
  exact ⟨h5, _, _, _, (g1.trans g2).at h6, (g1.trans g2).at h7, g2_watx g2 h4, h2⟩
theorem prA_at {S : KS} {l : List PR} : ∀ j, j ≤ l.length → (prA S l j).1.e = 0 → ∀ (i : Nat) p t, i < j → l[i]? = some p → (prA S l j).2[i]? = some t → PAt (prA S l j).1.x p t
  | 0, _, _, i, p, t, hi, _, _ => by omega
  | j + 1, hj, h, i, p, t, hi, hp, ht => by
    obtain ⟨q, hq⟩ : ∃ q, l[j]? = some q := ⟨_, List.getElem?_eq_getElem (by omega)⟩
    rw [prA_succ hq] at h ht ⊢
    obtain ⟨h1, h2⟩ := prS_at h
    have hl := prA_len S l j
    dsimp only at ht ⊢
    by_cases e : i = j
    · subst e
      rw [hq] at hp; injection hp with hp; subst hp
      rw [List.getElem?_append_right (by omega), hl, Nat.sub_self] at ht
      injection ht with ht; subst ht
      exact h2
    · rw [List.getElem?_append_left (by omega)] at ht
      exact g2_patx (prS_go _ _) (prA_at j (by omega) h1 i p t (by omega) hp ht)
theorem prF_at {X Y : List ND} {l : List PR} {x : Int} (h : prF X l = (Y, x, 0)) : LAt Y l x ∧ (∀ p ∈ l, prX p = false) ∧ ∃ m, Y = X ++ m := by
  unfold prF at h
  rcases hx : l.any prX with _ | _
  · rw [hx, if_neg (by decide)] at h
    have h1 : (prZ X l).1.x = Y := congrArg (·.1) h
    have h3 : (prZ X l).1.e = 0 := congrArg (·.2.2) h
    have h2 : (if (prZ X l).1.e = 0 then (prZ X l).2 else 0) = x := congrArg (·.2.1) h
    rw [if_pos h3] at h2
    obtain ⟨a1, a2⟩ := li_at9 (S := (prA ⟨X, 0⟩ l l.length).1) (l := (prA ⟨X, 0⟩ l l.length).2) h3
    have g := li_go (prA ⟨X, 0⟩ l l.length).1 (prA ⟨X, 0⟩ l l.length).2
    refine ⟨⟨(prA ⟨X, 0⟩ l l.length).2, prA_len _ _ _, fun j p t hp ht => ?_, ?_⟩, fun p hp => ?_, ?_⟩
    · rw [← h1]
      exact g2_patx g (prA_at l.length (Nat.le_refl _) a1 j p t (List.getElem?_eq_some_iff.1 hp).1 hp ht)
    · rw [← h1, ← h2]
      exact a2
    · exact Bool.eq_false_iff.2 fun hh => by
        have := List.any_eq_false.1 hx p hp
        exact this hh
    · obtain ⟨m, hm⟩ := ((prA_go ⟨X, 0⟩ l l.length).trans g).ext
      exact ⟨m, by rw [← h1]; exact hm⟩
  · rw [hx, if_pos rfl] at h
    have := congrArg (·.2.2) h; exact absurd this (show ¬ (1 : Int) = 0 by decide)
theorem sameN_iff9 {x y : TN} : sameN x y = true ↔ x = y := by
  unfold sameN
  simp only [Bool.and_eq_true, beq_iff_eq]
  obtain ⟨k, i, e, s, h, u⟩ := x
  obtain ⟨k', i', e', s', h', u'⟩ := y
  simp only [TN.mk.injEq]
  constructor
  · rintro ⟨⟨⟨⟨⟨a, b⟩, c⟩, d⟩, e⟩, f⟩; exact ⟨a, b, c, d, e, f⟩
  · rintro ⟨a, b, c, d, e, f⟩; exact ⟨⟨⟨⟨⟨a, b⟩, c⟩, d⟩, e⟩, f⟩
theorem sameT1 (x y : TN) : sameT [x] [y] = sameN x y := by simp [sameT]
theorem samP_iff {p q : PR} : samP p q = true ↔ p = q := by
  unfold samP
  rw [sameT1]
  simp only [Bool.and_eq_true, beq_iff_eq, sameN_iff9]
  obtain ⟨a, b, c, d, e⟩ := p
  obtain ⟨a', b', c', d', e'⟩ := q
  simp only [PR.mk.injEq]
  constructor
  · rintro ⟨⟨⟨⟨h1, h2⟩, h3⟩, h4⟩, h5⟩; exact ⟨h1, h2, h5, h3, h4⟩
  · rintro ⟨h1, h2, h5, h3, h4⟩; exact ⟨⟨⟨⟨h1, h2⟩, h3⟩, h4⟩, h5⟩
theorem WAt.uniq {Y : List ND} (ok : Okay Y) {p : PR} {t u : Int} (h : WAt Y p t) (k : WAt Y p u) : t = u := by
  unfold WAt at h k
  by_cases hk : p.k = 1 ∨ p.k = 2
  · rw [if_pos hk] at h k; exact h.uniq ok k
  · rw [if_neg hk] at h k
    by_cases h3 : p.k = 3
    · rw [if_pos h3] at h k; exact h.uniq ok k
    · rw [if_neg h3] at h k; rw [h, k]
theorem PAt.uniq {Y : List ND} (ok : Okay Y) {p : PR} {t u : Int} (h : PAt Y p t) (k : PAt Y p u) : t = u := by
  obtain ⟨a, b, c, h1, h2, h3, h4⟩ := h
  obtain ⟨a', b', c', k1, k2, k3, k4⟩ := k
  have ea := h1.uniq ok k1
  have eb := h2.uniq ok k2
  have ec := h3.uniq ok k3
  subst ea; subst eb; subst ec
  exact h4.uniq ok k4
end Go.Proofs.YtpkijlmkgomfeaaGreatDoor

/- law 15: numbers beyond, of a tree; the document's Same. -/
namespace Go.Proofs.YtpkijlmkgomfeaaGreatDoor
open Go.RowKit Go.KK Go.Shelf Go.Maps
set_option linter.unusedVariables false
set_option linter.unusedSimpArgs false

set_option maxHeartbeats 4000000 in
set_option maxRecDepth 100000 in
theorem rpsame_any {W : World} {p q : PR} {A B : Option Addr} {c d : Nat} (h : SlA W 1 A p.n.u.length c (p.n.u.map (.int .i64))) (h' : SlA W 1 B q.n.u.length d (q.n.u.map (.int .i64))) (hx : p.n.u.length ≤ 2147483648) (hy : q.n.u.length ≤ 2147483648) :
    Calls Tryz.prog 19 #[prV p (.slice A p.n.u.length c), prV q (.slice B q.n.u.length d)] W fun e w' => e = .returned (.bool (samP p q)) ∧ Below W.heap.size W w' := by
  have b1 : Below W.heap.size W (W.alloc (prO p (.slice A p.n.u.length c))) := (Below.refl _ _).alloc (Nat.le_refl _) _
  have b2 : Below W.heap.size W ((W.alloc (prO p (.slice A p.n.u.length c))).alloc (prO q (.slice B q.n.u.length d))) := b1.alloc (by simp) _
  have HP := hid (show Below W.heap.size W ((W.alloc (prO p (.slice A p.n.u.length c))).alloc (prO q (.slice B q.n.u.length d))) ∧ ((W.alloc (prO p (.slice A p.n.u.length c))).alloc (prO q (.slice B q.n.u.length d))).heap[W.heap.size]? = some (prO p (.slice A p.n.u.length c)) ∧ ((W.alloc (prO p (.slice A p.n.u.length c))).alloc (prO q (.slice B q.n.u.length d))).heap[W.heap.size + 1]? = some (prO q (.slice B q.n.u.length d)) from by
    refine ⟨b2, (heap_alloc_old _ _ (by simp)).trans (heap_alloc_new W _), ?_⟩
    have := heap_alloc_new (W.alloc (prO p (.slice A p.n.u.length c))) (prO q (.slice B q.n.u.length d))
    rw [size_al] at this
    exact this)
  have HC := hid (fun (U : World) (hU : Below W.heap.size W U) => samenode_any p.n q.n A c B d U (h.ext hU) (h'.ext hU) hx hy)
  obtain ⟨r, hr⟩ : ∃ r, r = samP p q := ⟨_, rfl⟩
  rw [← hr]
  have HR := hid (show r = (p.k == q.k && p.f == q.f && p.a == q.a && p.t == q.t && sameN p.n q.n) from by rw [hr]; unfold samP; rw [sameT1])
  clear h h' b1 b2 hx hy hr
  unfold prV
  unfold prO at HP
  go_enter Tryz.func19, Tryz.ntmps19
  go_upto_region 1 with fail
  try simp only [Nat.add_assoc, Nat.reduceAdd]
  obtain ⟨b0, hb0⟩ : ∃ b0, b0 = W.heap.size := ⟨_, rfl⟩
  obtain ⟨b1, hb1⟩ : ∃ b1, b1 = W.heap.size + 1 := ⟨_, rfl⟩
  rw [← hb1, ← hb0] at HP ⊢
  refine forget (R := fun V => Below b0 W V ∧ V.heap[b0]? = some (prO p (.slice A p.n.u.length c)) ∧ V.heap[b1]? = some (prO q (.slice B q.n.u.length d))) ?_ HP.out
  clear HP
  rintro V ⟨hb, h0, h1⟩
  rw [hb0] at hb
  have B1 := hid hb
  obtain ⟨x0, x1, x2, x3, x4, x5, x6, x7, x8, x9⟩ := prA10 h0
  obtain ⟨y0, y1, y2, y3, y4, y5, y6, y7, y8, y9⟩ := prA10 h1
  replace HC := hid (HC.out V hb)
  clear hb h0 h1 hb0 hb1
  rcases h1 : (p.k == q.k) with _ | _
  · have HE := hid (show r = false from by rw [HR.out, h1]; rfl)
    clear HR
    go_wp2_with fail
    go_ret
    exact ⟨by first | rfl | (rw [HE.out]; try rfl), B1.out⟩
  rcases h2 : (p.f == q.f) with _ | _
  · have HE := hid (show r = false from by rw [HR.out, h1, h2]; rfl)
    clear HR
    go_wp2_with fail
    go_ret
    exact ⟨by first | rfl | (rw [HE.out]; try rfl), B1.out⟩
  rcases h3 : (p.a == q.a) with _ | _
  · have HE := hid (show r = false from by rw [HR.out, h1, h2, h3]; rfl)
    clear HR
    go_wp2_with fail
    go_ret
    exact ⟨by first | rfl | (rw [HE.out]; try rfl), B1.out⟩
  rcases h4 : (p.t == q.t) with _ | _
  · have HE := hid (show r = false from by rw [HR.out, h1, h2, h3, h4]; rfl)
    clear HR
    go_wp2_with fail
    go_ret
    exact ⟨by first | rfl | (rw [HE.out]; try rfl), B1.out⟩
  have HE := hid (show r = sameN p.n q.n from by rw [HR.out, h1, h2, h3, h4]; rfl)
  clear HR
  generalize sameN p.n q.n = z at *
  go_wp2_with fail
  refine HC.out.mono ?_
  rintro e w6 ⟨rfl, b6⟩
  have B6 := hid (B1.out.trans (b6.mono B1.out.size))
  clear b6 HC
  go_wp2_with fail
  go_ret
  exact ⟨by first | rfl | (rw [HE.out]; try rfl), B6.out⟩
set_option maxHeartbeats 2000000 in
theorem rbey7_any {W : World} {A : Option Addr} {n c : Nat} {xs : List TN} (h : Tr W A n c xs) (lim : Int) (hn : n ≤ 600) :
    Calls Tryz.prog 13 #[.int .i64 lim, .slice A n c] W fun e w' => (∃ b, e = .returned (.bool b)) ∧ Below W.heap.size W w' := by
  have H := hid h
  clear h
  go_enter Tryz.func13, Tryz.ntmps13
  go_wp2_with fail
  go_loopw [9] (fun i wr => ∃ j : Nat, i = .int .i64 j ∧ j ≤ n ∧ Hid (Below W.heap.size W wr)) (fun i _ => n - (intOf i).toNat)
  case atStart => exact ⟨0, rfl, by omega, hid (Below.refl _ _)⟩
  case round =>
    obtain ⟨j, hij, hj, HB⟩ := hrel
    subst hij
    by_cases hlt : j < n
    · obtain ⟨b, o, x, A', c', rfl, hx, d0, d1, d2, d3, d4, d5, hsx⟩ := (H.out.ext HB.out).at hlt
      have hlt' : (j : Int) < (n : Int) := by omega
      have HB1 := hid (HB.out.alloc HB.out.size (tnC x (.slice A' x.u.length c')))
      have HHO := hid (heap_alloc_new wr (tnC x (.slice A' x.u.length c')))
      clear hx hsx
      unfold tnC at HB1 HHO
      go_upto_region 4 with fail
      obtain ⟨bx, hbx⟩ : ∃ bx, bx = wr.heap.size := ⟨_, rfl⟩
      rw [← hbx] at HHO ⊢
      clear d0 d1 d2 d3 d4 d5 hbx
      refine forget (R := fun V => Below W.heap.size W V ∧ V.heap[bx]? = some (tnC x (.slice A' x.u.length c'))) ?_ ⟨HB1.out, HHO.out⟩
      clear HB1 HHO HB
      rintro V ⟨bv, ho⟩
      obtain ⟨x0, x1, x2, x3, x4, x5⟩ := tn6 ho
      have HC := hid (beyond_any lim (some ⟨V.heap.size, 0, none⟩) 4 4 [x.i, x.e, x.s, x.h] (V.alloc (.cells #[.int .i64 x.i, .int .i64 x.e, .int .i64 x.s, .int .i64 x.h] 3)) (sla_row #[.int .i64 x.i, .int .i64 x.e, .int .i64 x.s, .int .i64 x.h] (by unfold maxLen; simp)) (by decide))
      have HB2 := hid (bv.alloc bv.size (.cells #[.int .i64 x.i, .int .i64 x.e, .int .i64 x.s, .int .i64 x.h] 3))
      clear bv ho
      go_wp2_with fail
      refine HC.out.mono ?_
      rintro e w2 ⟨⟨b2, rfl⟩, hw⟩
      have hw' := hw.symm
      clear hw
      subst hw'
      clear HC
      rcases b2 with _ | _
      · go_wp2_with fail
        go_roundw
        case rel => exact ⟨j + 1, by go_num, by omega, HB2⟩
        case measure => simp [intOf]; omega
      · go_wp2_with fail
        go_ret
        exact ⟨⟨_, rfl⟩, HB2.out⟩
    · go_wp2_with fail
      go_ret
      exact ⟨⟨_, rfl⟩, HB.out⟩
end Go.Proofs.YtpkijlmkgomfeaaGreatDoor

/- law 15: dump, same. -/
namespace Go.Proofs.YtpkijlmkgomfeaaGreatDoor
open Go.RowKit Go.KK Go.Shelf Go.Maps
set_option linter.unusedVariables false
set_option linter.unusedSimpArgs false

theorem infoND : (Tryz.prog.info? 86).map (fun i => (i.zero, i.size, i.bytes)) = some (some (.agg #[.int .i64 0, .int .i64 0, .string ⟨#[]⟩, .slice none 0 0]), 4, 56) := by kernel_rfl
theorem sla_lit {w : World} {T : TypeId} (vs : Array Value) (size : Nat) (hs : vs.size = size) (hm : vs.size ≤ maxLen) : SlA (w.alloc (.cells vs T)) size (some ⟨w.heap.size, 0, none⟩) 1 1 vs.toList :=
  ⟨Nat.le_refl _, by unfold maxLen; omega, by simp [hs], (sla_row (w := w) (T := T) vs hm).cells⟩
/-- A row of nodes that the call has made, so far. -/
structure DmP (W U : World) (v : Value) (xs : List ND) (qs : List Value) : Prop where
  row : U.ownsRow W.heap.size 86 4 v xs.length (nds xs qs)
  ql : qs.length = xs.length
  rd : ∀ (j : Nat) x q, xs[j]? = some x → qs[j]? = some q → In1 U q x.l
  own : ∀ (j : Nat) x q b, xs[j]? = some x → qs[j]? = some q → x.l ≠ [] → q.ownBlock = some b → v.ownBlock ≠ some b
  bl : Below W.heap.size W U
section
variable {W U U' : World} {v v' q : Value} {xs : List ND} {qs : List Value} {x : ND}
theorem DmP.ext (h : DmP W U v xs qs) (hb : Below U.heap.size U U') : DmP W U' v xs qs :=
  ⟨own_ext h.row hb, h.ql, fun j x q hx hq => (h.rd j x q hx hq).ext hb, h.own, h.bl.trans (hb.mono h.bl.size)⟩
theorem In1.lt (h : In1 U q x.l) (hn : x.l ≠ []) {b : Nat} (hb : q.ownBlock = some b) : b < U.heap.size := by
  obtain ⟨A, c, rfl, hs⟩ := h
  obtain ⟨b1, o1, z, rfl, -, hc⟩ := hs.elemI (k := 0) (List.length_pos_iff.2 hn)
  have e : b1 = b := by simpa [Value.ownBlock] using hb
  subst e
  exact block_lt_of_cell hc
theorem DmP.push (h : DmP W U v xs qs) (hg : U.grownBy U' v.ownBlock) (hr : U'.ownsRow W.heap.size 86 4 v' (xs.length + 1) (nds xs qs ++ x.cells q)) (hv : v'.ownBlock = v.ownBlock ∨ v'.ownBlock = some U.heap.size) (hq : In1 U q x.l) (hqn : x.l ≠ [] → ∀ b, q.ownBlock = some b → v.ownBlock ≠ some b) : DmP W U' v' (xs ++ [x]) (qs ++ [q]) := by
  have hne : ∀ (y : ND) (p : Value) b, In1 U p y.l → y.l ≠ [] → p.ownBlock = some b → v.ownBlock ≠ some b → v'.ownBlock ≠ some b := fun y p b hi hn hb hvb => by
    rcases hv with e | e
    · rw [e]; exact hvb
    · rw [e]; intro k; injection k with k; have := In1.lt hi hn hb; omega
  have hk : ∀ (y : ND) (p : Value), In1 U p y.l → (∀ b, y.l ≠ [] → p.ownBlock = some b → v.ownBlock ≠ some b) → In1 U' p y.l := fun y p hi ho => hi.kept fun b hn hb => hg.block b (In1.lt hi hn hb) (fun e => ho b hn hb e.symm)
  refine ⟨by rw [nds_snoc h.ql, List.length_append]; exact hr, by simp [h.ql], fun j y p hy hp => ?_, fun j y p b hy hp hn hb => ?_, h.bl.grown hg h.bl.size fun b e => (h.row.lt b e).1⟩
  all_goals
    rcases Nat.lt_or_ge j xs.length with hj | hj
    · rw [List.getElem?_append_left hj] at hy
      rw [List.getElem?_append_left (by rw [h.ql]; exact hj)] at hp
      first
        | exact hk y p (h.rd j y p hy hp) fun b hn hb => h.own j y p b hy hp hn hb
        | exact hne y p b (h.rd j y p hy hp) hn hb (h.own j y p b hy hp hn hb)
    · rw [List.getElem?_append_right hj] at hy
      rw [List.getElem?_append_right (by rw [h.ql]; exact hj), h.ql] at hp
      rcases hk' : j - xs.length with _ | k
      · rw [hk'] at hy hp
        injection hy with hy; injection hp with hp
        subst hy; subst hp
        first
          | exact hk _ _ hq fun b hn hb => hqn hn b hb
          | exact hne _ _ b hq hn hb (hqn hn b hb)
      · rw [hk'] at hy; simp at hy
theorem DmP.nd (h : DmP W U v xs qs) : ∃ A c, v = .slice A xs.length c ∧ NdA U A xs.length c xs := by
  obtain ⟨A, c, rfl, hs⟩ := SlA.owned h.row
  exact ⟨A, c, rfl, qs, h.ql, hs, h.rd⟩
end
set_option maxHeartbeats 4000000 in
set_option maxRecDepth 100000 in
theorem dump_any (sa : Nat) (X : List ND) (W : World) (h : ArV W 151 sa X) :
    Calls Tryz.prog 17 #[.pointer (some ⟨sa, 0, none⟩)] W fun e w' => ∃ A c, e = .returned (.slice A X.length c) ∧ NdA w' A X.length c X ∧ Below W.heap.size W w' := by
  obtain ⟨i0, hi, hz0, hz1, hz2⟩ := info_parts infoND
  have H := hid h; have HLN := hid h.ok.len
  clear h
  go_enter Tryz.func17, Tryz.ntmps17
  go_wp2_with fail
  refine (len_any sa X W H.out).mono ?_
  rintro e w1 ⟨rfl, hw0⟩
  have hw := hw0.symm
  clear hw0
  subst hw
  go_wp2_with fail
  go_loopw [9, 3] (fun i l wr => ∃ (j : Nat) (v : Value) (qs : List Value), i = .int .i64 j ∧ j ≤ X.length ∧ l = v ∧ Hid (DmP W wr v (X.take j) qs)) (fun i _ _ => X.length - (intOf i).toNat)
  case atStart => exact ⟨0, _, [], rfl, Nat.zero_le _, rfl, hid ⟨World.ownsRow_nil _ _ _ _, rfl, fun j x q h => by simp at h, fun j x q b h => by simp at h, Below.refl _ _⟩⟩
  case round =>
    obtain ⟨j, v, qs, hv, hj, hl, HD⟩ := hrel
    subst hv; subst hl
    have hXl := HLN.out
    obtain ⟨A, c, hvv, -⟩ := HD.out.nd
    rw [List.length_take, Nat.min_eq_left hj] at hvv
    subst hvv
    by_cases hlt : j < X.length
    · have hlt' : (j : Int) < (X.length : Int) := by omega
      have HLT := hid hlt
      have HN := hid (node_any sa X (j : Int) wr (H.out.ext HD.out.bl))
      have hxj : X[j]? = some (nodeF X (j : Int)) := by
        unfold nodeF
        rw [if_pos (has_iff.2 ⟨by omega, by omega⟩), Int.toNat_natCast, List.getD, List.getElem?_eq_getElem hlt]; rfl
      have HE := hid (show nodeE X (j : Int) = 0 by unfold nodeE; rw [if_pos (has_iff.2 ⟨by omega, by omega⟩)])
      rw [HE.out] at HN
      have HXJ := hid hxj
      clear hxj hlt HE
      generalize nodeF X (j : Int) = x at *
      obtain ⟨xo, xn, xs, xl⟩ := x
      dsimp only at HN
      go_wp2_with fail
      refine HN.out.mono ?_
      rintro e w2 ⟨A2, c2, rfl, hrow, hb⟩
      have D2 := hid (HD.out.ext hb)
      have HQ := hid (show In1 w2 (.slice A2 xl.length c2) xl from by
        obtain ⟨A', c', e', hs⟩ := SlA.owned hrow
        injection e' with e1 e2 e3
        subst e1; subst e3
        exact ⟨_, _, rfl, hs⟩)
      have HQN := hid (show ∀ b, (Value.slice A2 xl.length c2).ownBlock = some b → (Value.slice A j c).ownBlock ≠ some b from fun b hb' hv' => by
        have h1 := (hrow.lt b hb').1
        have h2 := (HD.out.row.lt b hv').2
        omega)
      have D3 := hid ((D2.out.ext ((Below.refl _ _).alloc (Nat.le_refl _) (.cells #[.int .i64 xo, .int .i64 xn, .string xs, .slice A2 xl.length c2] 86))).ext ((Below.refl _ _).alloc (Nat.le_refl _) (.cells #[.int .i64 xo, .int .i64 xn, .string xs, .slice A2 xl.length c2] 86)))
      have HQ3 := hid (show In1 ((w2.alloc (.cells #[.int .i64 xo, .int .i64 xn, .string xs, .slice A2 xl.length c2] 86)).alloc (.cells #[.int .i64 xo, .int .i64 xn, .string xs, .slice A2 xl.length c2] 86)) (.slice A2 xl.length c2) xl from (HQ.out.ext ((Below.refl _ _).alloc (Nat.le_refl _) _)).ext ((Below.refl _ _).alloc (Nat.le_refl _) _))
      have HOW := hid (show ((w2.alloc (.cells #[.int .i64 xo, .int .i64 xn, .string xs, .slice A2 xl.length c2] 86)).alloc (.cells #[.int .i64 xo, .int .i64 xn, .string xs, .slice A2 xl.length c2] 86)).ownsRow W.heap.size 86 4 (.slice A j c) j (nds (X.take j) qs) from by
        have := D3.out.row
        rwa [List.length_take, Nat.min_eq_left hj] at this)
      have hsz := D3.out.bl.size
      have hj5 : j ≤ 100000 := by omega
      have hones : ∀ u ∈ [Value.int .i64 xo, .int .i64 xn, .string xs, .slice A2 xl.length c2], u.oneCell' = true := fun u hu => by
        simp only [List.mem_cons, List.mem_nil_iff, or_false] at hu
        rcases hu with rfl | rfl | rfl | rfl <;> rfl
      have HSL := hid (show SlA ((w2.alloc (.cells #[.int .i64 xo, .int .i64 xn, .string xs, .slice A2 xl.length c2] 86)).alloc (.cells #[.int .i64 xo, .int .i64 xn, .string xs, .slice A2 xl.length c2] 86)) 4 (some ⟨w2.heap.size + 1, 0, none⟩) 1 1 [.int .i64 xo, .int .i64 xn, .string xs, .slice A2 xl.length c2] from by
        have := sla_lit (w := w2.alloc (.cells #[.int .i64 xo, .int .i64 xn, .string xs, .slice A2 xl.length c2] 86)) (T := 86) #[.int .i64 xo, .int .i64 xn, .string xs, .slice A2 xl.length c2] 4 rfl (by unfold maxLen; simp)
        rw [show (w2.alloc (.cells #[.int .i64 xo, .int .i64 xn, .string xs, .slice A2 xl.length c2] 86)).heap.size = w2.heap.size + 1 by simp] at this
        exact this)
      have hm1 : j + 1 ≤ maxLen := by unfold maxLen; omega
      have hm2 : (j + 1) * 56 ≤ 140737488355328 := by omega
      clear hrow hb HN HD D2
      go_wp2_with (at_builtin; refine wpList_append_sl _ rfl _ _ 47 rfl W.heap.size 86 i0 (.agg #[.int .i64 0, .int .i64 0, .string ⟨#[]⟩, .slice none 0 0]) 4 56 Tryz.underlying47 hi hz0 hz1 hz2 rfl (by decide) (.slice A j c) j (nds (X.take j) qs) rfl HOW.out _ 1 1 [.int .i64 xo, .int .i64 xn, .string xs, .slice A2 xl.length c2] rfl HSL.out hones hm1 hm2 hsz ?_; intro v5 w5 own5 gr5 loc5; have HO5 := hid own5; have HG5 := hid gr5; have HL5 := hid loc5; clear own5 gr5 loc5)
      have HDN := hid (D3.out.push (x := ⟨xo, xn, xs, xl⟩) (q := .slice A2 xl.length c2) HG5.out (by rw [List.length_take, Nat.min_eq_left hj]; exact HO5.out) HL5.out HQ3.out fun _ => HQN.out)
      go_roundw
      case rel => exact ⟨j + 1, v5, _, by go_num, by have := HLT.out; omega, rfl, hid (by rw [take_one HXJ.out]; exact HDN.out)⟩
      case measure => have := HLT.out; simp [intOf]; omega
    · obtain rfl : j = X.length := by omega
      have hlt' : ¬ (X.length : Int) < (X.length : Int) := by omega
      obtain ⟨A', c', e', hn⟩ := HD.out.nd
      rw [List.take_length] at e' hn
      injection e' with e1 e2 e3
      subst e1; subst e3
      have HNN := hid hn
      clear hn e2
      go_wp2_with fail
      go_ret
      exact ⟨A, c, rfl, HNN.out, HD.out.bl⟩
end Go.Proofs.YtpkijlmkgomfeaaGreatDoor

/- a walk that makes terms and keeps a row of them: what it carries. -/
namespace Go.Proofs.YtpkijlmkgomfeaaGreatDoor
open Go.RowKit Go.KK Go.Shelf Go.Maps
set_option linter.unusedVariables false
set_option linter.unusedSimpArgs false

section
variable {w0 W V V' : World} {Z Z' Z2 : Nat → Prop} {sa : Nat} {X X2 : List ND} {v v' : Value} {l l' : List Int} {P : World → Prop}
/-- The arena, a row of terms, what is read. -/
structure TM (w0 W V : World) (Z Z' : Nat → Prop) (sa : Nat) (v : Value) (l : List Int) (X : List ND) (P : World → Prop) : Prop where
  la : LA w0 V Z' sa X
  un : V.ownsRow W.heap.size 3 1 v l.length (l.map (.int .i64))
  nu : ∀ b, v.ownBlock = some b → ¬ Z' b
  fu : ∃ R : Nat → Prop, (∀ b, R b → ¬ Z' b ∧ b < W.heap.size) ∧ ∀ V', (∀ b, R b → V'.heap[b]? = V.heap[b]?) → P V'
  m : Mv Z W Z' V
  m0 : w0.heap.size ≤ W.heap.size
theorem TM.here (h : TM w0 W V Z Z' sa v l X P) : P V := by obtain ⟨R, _, r2⟩ := h.fu; exact r2 V fun _ _ => rfl
theorem TM.start (h : LA w0 W Z sa X) (hf : Fx W Z P) : TM w0 W W Z Z sa (.slice none 0 0) [] X P := by
  obtain ⟨R, r1, r2⟩ := hf
  exact ⟨h, World.ownsRow_nil _ _ _ _, fun b hb => by (cases hb), ⟨R, r1, r2⟩, Mv.below (Below.refl _ _), h.bl.size⟩
theorem TM.mv (h : TM w0 W V Z Z' sa v l X P) (k : LA w0 V' Z2 sa X2) (m : Mv Z' V Z2 V') : TM w0 W V' Z Z2 sa v l X2 P := by
  have nz : ∀ b, b < V.heap.size → ¬ Z' b → ¬ Z2 b := fun b hb hz h2 => (m.n b h2).elim hz fun h' => by omega
  obtain ⟨R, r1, r2⟩ := h.fu
  have sz := h.m.t.size
  exact ⟨k, own_block h.un fun b hb => m.t.block b (h.un.lt b hb).2 (h.nu b hb), fun b hb => nz b (h.un.lt b hb).2 (h.nu b hb),
    ⟨R, fun b hr => ⟨nz b (Nat.lt_of_lt_of_le (r1 b hr).2 sz) (r1 b hr).1, (r1 b hr).2⟩, fun V2 hv => r2 V2 fun b hr => (hv b hr).trans (m.t.block b (Nat.lt_of_lt_of_le (r1 b hr).2 sz) (r1 b hr).1)⟩, h.m.trans m, h.m0⟩
theorem TM.ext (h : TM w0 W V Z Z' sa v l X P) (hb : Below V.heap.size V V') : TM w0 W V' Z Z' sa v l X P := h.mv (h.la.ext hb) (Mv.below hb)
theorem TM.app (h : TM w0 W V Z Z' sa v l X P) (hn : V'.ownsRow W.heap.size 3 1 v' l'.length (l'.map (.int .i64))) (hg : V.grownBy V' v.ownBlock) (hl : v'.ownBlock = v.ownBlock ∨ v'.ownBlock = some V.heap.size) : TM w0 W V' Z Z' sa v' l' X P := by
  have ht : Turn (fun b => v.ownBlock = some b) V V' := Turn.grown hg fun b hb => .inl hb
  have sz := h.m.t.size
  obtain ⟨R, r1, r2⟩ := h.fu
  have lo : ∀ b, v.ownBlock = some b → W.heap.size ≤ b := fun b e => (h.un.lt b e).1
  refine ⟨⟨h.la.ar.turn ht (fun b hz e => h.nu b e hz), h.la.z, h.la.bl.trans (ht.below (fun b e => Nat.le_trans h.m0 (lo b e)) h.la.bl.size)⟩, hn, fun b hb => ?_, ⟨R, r1, fun V2 hv => r2 V2 fun b hr => (hv b hr).trans (ht.block b (Nat.lt_of_lt_of_le (r1 b hr).2 sz) fun e => by have := lo b e; have := (r1 b hr).2; omega)⟩, ⟨⟨hg.os.trans h.m.t.os, hg.tape.trans h.m.t.tape, hg.output.trans h.m.t.output, Nat.le_trans sz hg.size, fun b hb hz => (ht.block b (Nat.lt_of_lt_of_le hb sz) fun e => by have := lo b e; omega).trans (h.m.t.block b hb hz)⟩, h.m.n⟩, h.m0⟩
  rcases hl with hl | hl
  · exact h.nu b (hl ▸ hb)
  · rw [hl] at hb; injection hb with hb
    intro hz
    have := h.la.ar.zlt b hz
    omega
end
end Go.Proofs.YtpkijlmkgomfeaaGreatDoor

