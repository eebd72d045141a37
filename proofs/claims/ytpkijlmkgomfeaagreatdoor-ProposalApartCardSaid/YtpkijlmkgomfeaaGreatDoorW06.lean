import Derived.Test.YtpkijlmkgomfeaaGreatDoorW05
import Derived.Deep.QuietTactic
import Derived.BigQuiet
import Derived.Deep.RegionHeld3
import Derived.Test.YtpkijlmkgomfeaaGreatDoorW02
import Derived.Test.YtpkijlmkgomfeaaGreatDoorRows
import Derived.Test.YtpkijlmkgomfeaaGreatDoorW03
import Derived.Laws.EntriesVeiled
/- ratchet: whether a node may be a parent at its place. -/
namespace Go.Proofs.YtpkijlmkgomfeaaGreatDoor
open Go.RowKit Go.KK
set_option linter.unusedVariables false
set_option linter.unusedSimpArgs false

/-- A node's list. -/
def um (xs : List TN) (j : Nat) : List Int := match xs[j]? with | some x => x.u | none => []
/-- The parents between a leaf and a node above it have the leaf. -/
def pthB (xs : List TN) (x i : Int) : Bool := ((pathL (2 * i) (lvN xs.length)).takeWhile (fun y => y != x)).all fun y => kd xs y.toNat != 2 || (um xs y.toNat).contains i
def oneB (xs : List TN) (x i : Int) : Bool := decide (lfA x ≤ i) && decide (i < lfB x) && pres xs i && pthB xs x i
def parB (xs : List TN) (x : Int) (p : TN) : Bool := (p.k == 2) && (p.i == 0) && (p.s == 0) && riseB p.u && p.u.all (oneB xs x)

theorem parent_k (A : Option Addr) (n c : Nat) (x : Int) (k i e s h : Int) (B : Option Addr) (m d : Nat) (w : World) (hk : ¬ k = 2) :
    Calls Tryz.prog 176 #[.slice A n c, .int .i64 x, .agg #[.int .i64 k, .int .i64 i, .int .i64 e, .int .i64 s, .int .i64 h, .slice B m d]] w fun e w' => e = .returned (.bool false) ∧ Below w.heap.size w w' := by
  have hk' : (k != 2) = true := bne_iff_ne.2 hk
  go_enter Tryz.func176, Tryz.ntmps176
  go_wp2
  go_quiet (fail)
  go_wp2
  go_ret
  exact ⟨rfl, below_drewN ((Below.refl _ _).alloc (Nat.le_refl _) _) _⟩
set_option maxHeartbeats 2000000 in
theorem parent_c (A : Option Addr) (n c : Nat) (x : Int) (e h : Int) (u : List Int) (B : Option Addr) (m d : Nat) (w : World) (hs : SlA w 1 B m d (u.map (.int .i64))) (hm47 : m ≤ 2147483648) (hso : sortB u = true) (hr : riseB u = false) :
    Calls Tryz.prog 176 #[.slice A n c, .int .i64 x, .agg #[.int .i64 2, .int .i64 0, .int .i64 e, .int .i64 0, .int .i64 h, .slice B m d]] w fun e w' => e = .returned (.bool false) ∧ Below w.heap.size w w' := by
  have HN := hid hs.lenI
  have hc : ((Lib.compact u).length : Int) != (m : Int) := by
    unfold riseB at hr
    rw [hso, HN.out] at hr
    simpa [bne] using hr
  have HSO := hid hso; have HS := hid hs
  clear hr hso hs
  go_enter Tryz.func176, Tryz.ntmps176
  go_wp2
  have hb0 : Below w.heap.size w (w.alloc (.cells #[.int .i64 2, .int .i64 0, .int .i64 e, .int .i64 0, .int .i64 h, .slice B m d] 37)) := (Below.refl _ _).alloc (Nat.le_refl _) _
  have hz0 : w.heap.size + 1 ≤ (w.alloc (.cells #[.int .i64 2, .int .i64 0, .int .i64 e, .int .i64 0, .int .i64 h, .slice B m d] 37)).heap.size := by simp
  have k0 : (w.alloc (.cells #[.int .i64 2, .int .i64 0, .int .i64 e, .int .i64 0, .int .i64 h, .slice B m d] 37)).cell? ⟨w.heap.size, 0, none⟩ = some (.int .i64 2) := by rw [World.cell?_alloc_new]; rfl
  have k1 : (w.alloc (.cells #[.int .i64 2, .int .i64 0, .int .i64 e, .int .i64 0, .int .i64 h, .slice B m d] 37)).cell? ⟨w.heap.size, 1, none⟩ = some (.int .i64 0) := by rw [World.cell?_alloc_new]; rfl
  have k3 : (w.alloc (.cells #[.int .i64 2, .int .i64 0, .int .i64 e, .int .i64 0, .int .i64 h, .slice B m d] 37)).cell? ⟨w.heap.size, 3, none⟩ = some (.int .i64 0) := by rw [World.cell?_alloc_new]; rfl
  have k5 : (w.alloc (.cells #[.int .i64 2, .int .i64 0, .int .i64 e, .int .i64 0, .int .i64 h, .slice B m d] 37)).cell? ⟨w.heap.size, 5, none⟩ = some (.slice B m d) := by rw [World.cell?_alloc_new]; rfl
  generalize w.alloc (.cells #[.int .i64 2, .int .i64 0, .int .i64 e, .int .i64 0, .int .i64 h, .slice B m d] 37) = W0 at hb0 hz0 k0 k1 k3 k5 ⊢
  go_region_held3 (fun w' => w'.cell? ⟨w.heap.size, 0, none⟩ = some (.int .i64 2) ∧ w'.cell? ⟨w.heap.size, 1, none⟩ = some (.int .i64 0) ∧ w'.cell? ⟨w.heap.size, 3, none⟩ = some (.int .i64 0) ∧ w'.cell? ⟨w.heap.size, 5, none⟩ = some (.slice B m d) ∧ Below w.heap.size w w' ∧ w.heap.size + 1 ≤ w'.heap.size) (first | exact ⟨k0, k1, k3, k5, hb0, hz0⟩ | exact ⟨k0, k1, k3, k5, below_drew hb0, hz0⟩ | exact ⟨k0, k1, k3, k5, below_drewN hb0 _, hz0⟩ | exact ⟨r0, r1, r3, r5, rb, rz⟩ | exact ⟨s0, s1, s3, s5, sb, sz⟩ | go_keep) (first
    | (go_at_call 234; refine (sorted_any B m d u _ (HS.out.ext (below_drew hb0)) hm47).mono ?_; rintro e1 w1 ⟨rfl, q, rfl⟩; rw [HSO.out])
    | (go_at_call 99; refine (clone_int B m d u _ (HS.out.ext (below_drewN hb0 (1 + q))) hm47).mono ?_; rintro e2 w2 ⟨v2, rfl, hown2, hb2⟩; have r0 := (hb2.cell (p := ⟨w.heap.size, 0, none⟩) hz0).trans k0; have r1 := (hb2.cell (p := ⟨w.heap.size, 1, none⟩) hz0).trans k1; have r3 := (hb2.cell (p := ⟨w.heap.size, 3, none⟩) hz0).trans k3; have r5 := (hb2.cell (p := ⟨w.heap.size, 5, none⟩) hz0).trans k5; have rb := (below_drewN hb0 (1 + q)).trans (hb2.mono (Nat.le_of_succ_le hz0)); have rz := Nat.le_trans hz0 hb2.size)
    | (go_at_call 235; refine (compact_own _ v2 m u _ hown2 hm47).mono ?_; rintro e3 w3 ⟨A3, c3, rfl, hb3⟩; have s0 := (hb3.cell (p := ⟨w.heap.size, 0, none⟩) hz0).trans r0; have s1 := (hb3.cell (p := ⟨w.heap.size, 1, none⟩) hz0).trans r1; have s3 := (hb3.cell (p := ⟨w.heap.size, 3, none⟩) hz0).trans r3; have s5 := (hb3.cell (p := ⟨w.heap.size, 5, none⟩) hz0).trans r5; have sb := rb.trans (hb3.mono (Nat.le_of_succ_le hz0)); have sz := Nat.le_trans rz hb3.size))
  go_wp2
  go_ret
  exact ⟨rfl, sb⟩
theorem parent_i (A : Option Addr) (n c : Nat) (x : Int) (i e s h : Int) (B : Option Addr) (m d : Nat) (w : World) (hi : ¬ i = 0) :
    Calls Tryz.prog 176 #[.slice A n c, .int .i64 x, .agg #[.int .i64 2, .int .i64 i, .int .i64 e, .int .i64 s, .int .i64 h, .slice B m d]] w fun e w' => e = .returned (.bool false) ∧ Below w.heap.size w w' := by
  have hk' : (i != 0) = true := bne_iff_ne.2 hi
  go_enter Tryz.func176, Tryz.ntmps176
  go_wp2
  go_quiet (fail)
  go_wp2
  go_ret
  exact ⟨rfl, below_drewN ((Below.refl _ _).alloc (Nat.le_refl _) _) _⟩
theorem parent_s (A : Option Addr) (n c : Nat) (x : Int) (e s h : Int) (B : Option Addr) (m d : Nat) (w : World) (hs : ¬ s = 0) :
    Calls Tryz.prog 176 #[.slice A n c, .int .i64 x, .agg #[.int .i64 2, .int .i64 0, .int .i64 e, .int .i64 s, .int .i64 h, .slice B m d]] w fun e w' => e = .returned (.bool false) ∧ Below w.heap.size w w' := by
  have hk' : (s != 0) = true := bne_iff_ne.2 hs
  go_enter Tryz.func176, Tryz.ntmps176
  go_wp2
  go_quiet (fail)
  go_wp2
  go_ret
  exact ⟨rfl, below_drewN ((Below.refl _ _).alloc (Nat.le_refl _) _) _⟩
theorem parent_o (A : Option Addr) (n c : Nat) (x : Int) (e h : Int) (u : List Int) (B : Option Addr) (m d : Nat) (w : World) (hs : SlA w 1 B m d (u.map (.int .i64))) (hm47 : m ≤ 2147483648) (hso : sortB u = false) :
    Calls Tryz.prog 176 #[.slice A n c, .int .i64 x, .agg #[.int .i64 2, .int .i64 0, .int .i64 e, .int .i64 0, .int .i64 h, .slice B m d]] w fun e w' => e = .returned (.bool false) ∧ Below w.heap.size w w' := by
  have hcall : ∀ k, Calls Tryz.prog 234 #[.slice B m d] ((w.alloc (.cells #[.int .i64 2, .int .i64 0, .int .i64 e, .int .i64 0, .int .i64 h, .slice B m d] 37)).drewN k) fun r w' => r = .returned (.bool false) ∧ ∃ q, w' = ((w.alloc (.cells #[.int .i64 2, .int .i64 0, .int .i64 e, .int .i64 0, .int .i64 h, .slice B m d] 37)).drewN k).drewN q := fun k => by
    have := sorted_any B m d u _ ((hs.alloc (.cells #[.int .i64 2, .int .i64 0, .int .i64 e, .int .i64 0, .int .i64 h, .slice B m d] 37)).drewN k) hm47
    rw [hso] at this
    exact this
  go_enter Tryz.func176, Tryz.ntmps176
  go_wp2
  go_quiet ((go_at_call 234; exact Calls.quiet_of (hcall _)))
  go_wp2
  go_ret
  exact ⟨rfl, below_drewN ((Below.refl _ _).alloc (Nat.le_refl _) _) _⟩
end Go.Proofs.YtpkijlmkgomfeaaGreatDoor

/- ratchet: whether a node may be a parent at its place: where its head may be. -/
namespace Go.Proofs.YtpkijlmkgomfeaaGreatDoor
open Go.RowKit Go.KK
set_option linter.unusedVariables false
set_option linter.unusedSimpArgs false

theorem tdrop_get {α : Type} {l : List α} {k : Nat} {x : α} (h : l[k]? = some x) : l.drop k = x :: l.drop (k + 1) := by
  obtain ⟨hk, rfl⟩ := List.getElem?_eq_some_iff.1 h
  exact List.drop_eq_getElem_cons hk
theorem pres_in {xs : List TN} {i : Int} (h : pres xs i = true) : 0 ≤ i ∧ i < lvN xs.length := by
  unfold pres at h
  simp only [Bool.and_eq_true, decide_eq_true_eq] at h
  exact h.1
theorem all_no {f : Int → Bool} {z : Int} {l : List Int} (h : f z = false) : Ending.returned (.bool ((z :: l).all f)) = Ending.returned (.bool false) := by rw [List.all_cons, h]; rfl
theorem one_lo {xs : List TN} {x z : Int} (h : z < lfA x) : oneB xs x z = false := by unfold oneB; rw [decide_eq_false (by omega)]; rfl
theorem one_hi {xs : List TN} {x z : Int} (h : lfB x ≤ z) : oneB xs x z = false := by unfold oneB; rw [decide_eq_false (show ¬ z < lfB x by omega), Bool.and_false]; rfl
theorem one_pres {xs : List TN} {x z : Int} (h : pres xs z = false) : oneB xs x z = false := by unfold oneB; simp [h]
theorem one_path {xs : List TN} {x z : Int} (h : pthB xs x z = false) : oneB xs x z = false := by unfold oneB; simp [h]
theorem one_yes {xs : List TN} {x z : Int} (h1 : lfA x ≤ z) (h2 : z < lfB x) (h3 : pres xs z = true) (h4 : pthB xs x z = true) : oneB xs x z = true := by unfold oneB; simp [h1, h2, h3, h4]
/-- What is looked at up to a node. -/
def twB (f : Int → Bool) (x : Int) (l : List Int) : Bool := (l.takeWhile (fun y => y != x)).all f
def goodB (xs : List TN) (z y : Int) : Bool := kd xs y.toNat != 2 || (um xs y.toNat).contains z
theorem tw_stop (f : Int → Bool) (x : Int) (l : List Int) : twB f x (x :: l) = true := by unfold twB; rw [List.takeWhile_cons]; simp
theorem tw_no {f : Int → Bool} {x y : Int} {l : List Int} (h : ¬ y = x) (hf : f y = false) : twB f x (y :: l) = false := by unfold twB; rw [List.takeWhile_cons, if_pos (by simpa using h), List.all_cons, hf, Bool.false_and]
theorem tw_go {f : Int → Bool} {x y : Int} {l : List Int} (h : ¬ y = x) (hf : f y = true) : twB f x (y :: l) = twB f x l := by unfold twB; rw [List.takeWhile_cons, if_pos (by simpa using h), List.all_cons, hf, Bool.true_and]
theorem good_is {xs : List TN} {z : Int} {j : Nat} {q : TN} {b : Bool} (h : xs[j]? = some q) (hb : (q.k != 2 || q.u.contains z) = b) : goodB xs z (j : Int) = b := by
  unfold goodB kd um; rw [Int.toNat_natCast, h]; exact hb
theorem pathF_le (n : Int) : ∀ (f : Nat) (x : Int), (pathF f x n).length ≤ f
  | 0, _ => Nat.le_refl _
  | f + 1, x => by
    rw [pathF]
    split
    · simp
    · have := pathF_le n f (upV x); simp; omega
theorem pathL_le (x n : Int) : (pathL x n).length ≤ 9 := pathF_le n 9 x
theorem pathF_in {n : Int} (hf : fullN n = true) : ∀ (f : Nat) (x : Int), 0 ≤ x → x < 2 * n - 1 → ∀ y ∈ pathF f x n, 0 ≤ y ∧ y < 2 * n - 1
  | 0, _, _, _, _, h => by cases h
  | f + 1, x, h0, h1, y, h => by
    rw [pathF] at h
    split at h
    · cases h
    · rename_i hne
      obtain ⟨a, b, _⟩ := up_in hf h0 h1 hne
      rcases List.mem_cons.1 h with rfl | h
      · exact ⟨a, b⟩
      · exact pathF_in hf f _ a b y h
theorem path_in {x n : Int} (hf : fullN n = true) (h0 : 0 ≤ x) (h1 : x < 2 * n - 1) : ∀ y ∈ pathL x n, 0 ≤ y ∧ y < 2 * n - 1 := pathF_in hf 9 x h0 h1
set_option maxHeartbeats 2000000 in
theorem parent_go (A : Option Addr) (n c : Nat) (xs : List TN) (x : Int) (e h : Int) (u : List Int) (B : Option Addr) (m d : Nat) (w : World) (hs : SlA w 1 B m d (u.map (.int .i64))) (hm47 : m ≤ 2147483648) (hr : riseB u = true) (h0 : Tr w A n c xs) (hnm : n ≤ 600) (hx0 : 0 ≤ x) (hx1 : x ≤ 510) (hf : fullN (lvN n) = true) (hT : Tab w) (hu : ∀ (j : Nat) (q : TN), xs[j]? = some q → q.u.length ≤ 2147483648) :
    Calls Tryz.prog 176 #[.slice A n c, .int .i64 x, .agg #[.int .i64 2, .int .i64 0, .int .i64 e, .int .i64 0, .int .i64 h, .slice B m d]] w fun e w' => e = .returned (.bool (u.all (oneB xs x))) ∧ Below w.heap.size w w' := by
  have HN := hid hs.lenI
  have hh : sortB u = true ∧ ((Lib.compact u).length : Int) = (m : Int) := by
    unfold riseB at hr
    rw [Bool.and_eq_true, HN.out] at hr
    exact ⟨hr.1, by simpa using hr.2⟩
  have hso := hh.1
  have hc : (((Lib.compact u).length : Int) != (m : Int)) = false := by rw [hh.2]; simp
  clear hh
  have H0 := hid h0; have HT := hid hT; have HF := hid hf; have HU := hid hu; clear hu
  clear h0 hT hf
  have HSO := hid hso; have HS := hid hs
  clear hr hso hs
  go_enter Tryz.func176, Tryz.ntmps176
  go_wp2
  have hb0 : Below w.heap.size w (w.alloc (.cells #[.int .i64 2, .int .i64 0, .int .i64 e, .int .i64 0, .int .i64 h, .slice B m d] 37)) := (Below.refl _ _).alloc (Nat.le_refl _) _
  have hz0 : w.heap.size + 1 ≤ (w.alloc (.cells #[.int .i64 2, .int .i64 0, .int .i64 e, .int .i64 0, .int .i64 h, .slice B m d] 37)).heap.size := by simp
  have k0 : (w.alloc (.cells #[.int .i64 2, .int .i64 0, .int .i64 e, .int .i64 0, .int .i64 h, .slice B m d] 37)).cell? ⟨w.heap.size, 0, none⟩ = some (.int .i64 2) := by rw [World.cell?_alloc_new]; rfl
  have k1 : (w.alloc (.cells #[.int .i64 2, .int .i64 0, .int .i64 e, .int .i64 0, .int .i64 h, .slice B m d] 37)).cell? ⟨w.heap.size, 1, none⟩ = some (.int .i64 0) := by rw [World.cell?_alloc_new]; rfl
  have k3 : (w.alloc (.cells #[.int .i64 2, .int .i64 0, .int .i64 e, .int .i64 0, .int .i64 h, .slice B m d] 37)).cell? ⟨w.heap.size, 3, none⟩ = some (.int .i64 0) := by rw [World.cell?_alloc_new]; rfl
  have k5 : (w.alloc (.cells #[.int .i64 2, .int .i64 0, .int .i64 e, .int .i64 0, .int .i64 h, .slice B m d] 37)).cell? ⟨w.heap.size, 5, none⟩ = some (.slice B m d) := by rw [World.cell?_alloc_new]; rfl
  generalize w.alloc (.cells #[.int .i64 2, .int .i64 0, .int .i64 e, .int .i64 0, .int .i64 h, .slice B m d] 37) = W0 at hb0 hz0 k0 k1 k3 k5 ⊢
  go_region_held3 (fun w' => w'.cell? ⟨w.heap.size, 0, none⟩ = some (.int .i64 2) ∧ w'.cell? ⟨w.heap.size, 1, none⟩ = some (.int .i64 0) ∧ w'.cell? ⟨w.heap.size, 3, none⟩ = some (.int .i64 0) ∧ w'.cell? ⟨w.heap.size, 5, none⟩ = some (.slice B m d) ∧ Below w.heap.size w w' ∧ w.heap.size + 1 ≤ w'.heap.size) (first | exact ⟨k0, k1, k3, k5, hb0, hz0⟩ | exact ⟨k0, k1, k3, k5, below_drew hb0, hz0⟩ | exact ⟨k0, k1, k3, k5, below_drewN hb0 _, hz0⟩ | exact ⟨r0, r1, r3, r5, rb, rz⟩ | exact ⟨s0, s1, s3, s5, sb, sz⟩ | go_keep) (first
    | (go_at_call 234; refine (sorted_any B m d u _ (HS.out.ext (below_drew hb0)) hm47).mono ?_; rintro e1 w1 ⟨rfl, q, rfl⟩; rw [HSO.out])
    | (go_at_call 99; refine (clone_int B m d u _ (HS.out.ext (below_drewN hb0 (1 + q))) hm47).mono ?_; rintro e2 w2 ⟨v2, rfl, hown2, hb2⟩; have r0 := (hb2.cell (p := ⟨w.heap.size, 0, none⟩) hz0).trans k0; have r1 := (hb2.cell (p := ⟨w.heap.size, 1, none⟩) hz0).trans k1; have r3 := (hb2.cell (p := ⟨w.heap.size, 3, none⟩) hz0).trans k3; have r5 := (hb2.cell (p := ⟨w.heap.size, 5, none⟩) hz0).trans k5; have rb := (below_drewN hb0 (1 + q)).trans (hb2.mono (Nat.le_of_succ_le hz0)); have rz := Nat.le_trans hz0 hb2.size)
    | (go_at_call 235; refine (compact_own _ v2 m u _ hown2 hm47).mono ?_; rintro e3 w3 ⟨A3, c3, rfl, hb3⟩; have s0 := (hb3.cell (p := ⟨w.heap.size, 0, none⟩) hz0).trans r0; have s1 := (hb3.cell (p := ⟨w.heap.size, 1, none⟩) hz0).trans r1; have s3 := (hb3.cell (p := ⟨w.heap.size, 3, none⟩) hz0).trans r3; have s5 := (hb3.cell (p := ⟨w.heap.size, 5, none⟩) hz0).trans r5; have sb := rb.trans (hb3.mono (Nat.le_of_succ_le hz0)); have sz := Nat.le_trans rz hb3.size))
  have SB := hid sb
  clear s0 s1 s3 r0 r1 r3 r5 rb k0 k1 k3 k5 hb0 hb3 hb2 hown2 hc
  have hsn := SB.out.size
  go_wp2_with (first
    | (go_at_call 194; refine (leaves_any x _ hx0 hx1 (HT.out.ext SB.out)).mono ?_; rintro e4 w4 ⟨rfl, rfl⟩))
  have HX := hid H0.out.len
  go_loopw [55, 6] (fun i _ wr => ∃ j : Nat, i = .int .i64 j ∧ j ≤ m ∧ Hid (u.all (oneB xs x) = (u.drop j).all (oneB xs x)) ∧ Below w.heap.size w wr) (fun i _ _ => m - (intOf i).toNat)
  case atStart => exact ⟨0, rfl, by omega, hid rfl, SB.out⟩
  case round =>
    obtain ⟨j, hi, hj, HD, hbr⟩ := hrel
    subst hi
    have HB := hid hbr; clear hbr
    by_cases hlt : j < m
    · obtain ⟨b, o, z, rfl, hz, hc⟩ := (HS.out.ext HB.out).elemI hlt
      have HC := hid (tdrop_get hz); clear hz
      by_cases h1 : lfA x ≤ z
      · by_cases h2 : z < lfB x
        · rcases hp : pres xs z with _ | _
          · go_wp2_with (go_at_call 114; refine (present_any _ n c xs _ _ (H0.out.ext HB.out) hnm).mono ?_; rintro e w' ⟨rfl, rfl⟩; rw [hp])
            go_ret
            exact ⟨by rw [HD.out, HC.out]; exact (all_no (one_pres hp)).symm, HB.out⟩
          · obtain ⟨z0, z1⟩ := pres_in hp
            rw [HX.out] at z1
            have hN : lvN n ≤ 301 := by unfold lvN; omega
            have HP := hid hp
            go_wp2_with (first
              | (go_at_call 114; refine (present_any _ n c xs _ _ (H0.out.ext HB.out) hnm).mono ?_; rintro e w' ⟨rfl, rfl⟩; rw [hp])
              | (go_at_call 115; refine (leavesT_any _ n c _ hnm).mono ?_; rintro e w' ⟨rfl, rfl⟩)
              | (go_at_call 182; refine (path_any (2 * z) (lvN n) _ HF.out (by omega) (by omega) (HT.out.ext HB.out)).mono ?_; rintro e5 w5 ⟨v5, rfl, hown5, hb5⟩; obtain ⟨A5, c5, rfl, hs5⟩ := SlA.owned hown5))
            have HL := hid hs5.lenI
            have HS5 := hid hs5
            have HB5 := hid (HB.out.trans (hb5.mono HB.out.size))
            have HI := hid (@path_in (2 * z) (lvN n) HF.out (by omega) (by omega))
            clear hs5 hown5 hb5 hp
            have hpl : (pathL (2 * z) (lvN n)).length ≤ 9 := pathL_le _ _
            go_loop [83, 6] (fun i _ => ∃ k : Nat, i = .int .i64 k ∧ k ≤ (pathL (2 * z) (lvN n)).length ∧ Hid (pthB xs x z = twB (goodB xs z) x ((pathL (2 * z) (lvN n)).drop k))) (fun i _ => (pathL (2 * z) (lvN n)).length - (intOf i).toNat)
            case atStart => exact ⟨0, rfl, by omega, hid (by unfold pthB twB goodB; rw [HX.out]; rfl)⟩
            case round =>
              obtain ⟨k, hi, hk, HK⟩ := hrel
              subst hi
              by_cases hlk : k < (pathL (2 * z) (lvN n)).length
              · obtain ⟨b5, o5, y, rfl, hy, hcy⟩ := HS5.out.elemI hlk
                have HY := hid (tdrop_get hy)
                obtain ⟨y0, y1⟩ := HI.out y (List.mem_of_getElem? hy)
                clear hy
                by_cases hyx : y = x
                · subst hyx
                  have hpt : pthB xs y z = true := by rw [HK.out, HY.out]; exact tw_stop _ _ _
                  have HO := hid (one_yes h1 h2 HP.out hpt); clear hpt
                  go_wp2
                  go_roundw
                  case rel => exact ⟨j + 1, by go_num, by omega, hid (by rw [HD.out, HC.out, List.all_cons, HO.out, Bool.true_and]), HB5.out⟩
                  case measure => simp [intOf]; omega
                · have hyx' : (y == x) = false := beq_eq_false_iff_ne.2 hyx
                  obtain ⟨yn, rfl⟩ := Int.eq_ofNat_of_zero_le y0
                  have hyn : yn < n := by unfold lvN at y1; omega
                  obtain ⟨b0, o0, q, Aq, cq, rfl, hq, c0, -, -, -, -, cq5, hsq⟩ := (H0.out.ext HB5.out).at hyn
                  have hqu := HU.out _ _ hq; have HQ := hid hq; clear hq
                  by_cases hq2 : q.k = 2
                  · have HQ2 := hid hq2
                    rw [hq2] at c0
                    rcases hct : q.u.contains z with _ | _
                    · have hpt : pthB xs x z = false := by rw [HK.out, HY.out]; exact tw_no hyx (good_is HQ.out (by rw [hct, HQ2.out]; rfl))
                      have HO := hid (one_path hpt); clear hpt hq2 hyx
                      go_wp2_with (go_at_call 126; refine (contains_any Aq _ cq q.u z _ hsq (by omega)).mono ?_; rintro e w' ⟨rfl, rfl⟩; rw [hct])
                      go_ret
                      exact ⟨by rw [HD.out, HC.out]; exact (all_no HO.out).symm, HB5.out⟩
                    · have hpt : pthB xs x z = twB (goodB xs z) x ((pathL (2 * z) (lvN n)).drop (k + 1)) := by rw [HK.out, HY.out]; exact tw_go hyx (good_is HQ.out (by rw [hct, HQ2.out]; rfl))
                      have HO := hid hpt; clear hpt hq2 hyx
                      go_wp2_with (go_at_call 126; refine (contains_any Aq _ cq q.u z _ hsq (by omega)).mono ?_; rintro e w' ⟨rfl, rfl⟩; rw [hct])
                      go_round
                      case rel => exact ⟨k + 1, by go_num, by omega, HO⟩
                      case measure => simp [intOf]; omega
                  · have hq2' : (q.k == 2) = false := beq_eq_false_iff_ne.2 hq2
                    have hpt : pthB xs x z = twB (goodB xs z) x ((pathL (2 * z) (lvN n)).drop (k + 1)) := by rw [HK.out, HY.out]; exact tw_go hyx (good_is HQ.out (by simp [hq2]))
                    have HO := hid hpt; clear hpt hq2 hyx
                    go_wp2
                    go_round
                    case rel => exact ⟨k + 1, by go_num, by omega, HO⟩
                    case measure => simp [intOf]; omega
              · have hpt : pthB xs x z = true := by rw [HK.out, List.drop_of_length_le (by omega)]; rfl
                have HO := hid (one_yes h1 h2 HP.out hpt); clear hpt
                go_wp2
                go_roundw
                case rel => exact ⟨j + 1, by go_num, by omega, hid (by rw [HD.out, HC.out, List.all_cons, HO.out, Bool.true_and]), HB5.out⟩
                case measure => simp [intOf]; omega
        · go_wp2
          go_ret
          exact ⟨by rw [HD.out, HC.out]; exact (all_no (one_hi (by omega))).symm, HB.out⟩
      · go_wp2
        go_ret
        exact ⟨by rw [HD.out, HC.out]; exact (all_no (one_lo (by omega))).symm, HB.out⟩
    · go_wp2
      go_ret
      exact ⟨by rw [HD.out, List.drop_of_length_le (by have := HN.out; omega)]; rfl, HB.out⟩

end Go.Proofs.YtpkijlmkgomfeaaGreatDoor

/- ratchet: whether a node may be a parent; whether a tree may be. -/
namespace Go.Proofs.YtpkijlmkgomfeaaGreatDoor
open Go.RowKit Go.KK
set_option linter.unusedVariables false
set_option linter.unusedSimpArgs false

theorem below_new {B : Nat} {a wr w2 : World} {o : Obj} (h : Below B a wr) (hB : B ≤ wr.heap.size) (hb : Below (wr.alloc o).heap.size (wr.alloc o) w2) : Below B a w2 ∧ wr.heap.size + 1 ≤ w2.heap.size := by
  have h1 := hb.size
  rw [World.size_alloc] at h1
  exact ⟨(h.alloc hB o).trans (hb.mono (by rw [World.size_alloc]; omega)), h1⟩
theorem new_cell {w w2 : World} {xs : Array Value} {t : TypeId} (hb : Below (w.alloc (.cells xs t)).heap.size (w.alloc (.cells xs t)) w2) (i : Nat) : w2.cell? ⟨w.heap.size, i, none⟩ = xs[i]? := by
  rw [hb.cell (p := ⟨w.heap.size, i, none⟩) (by rw [World.size_alloc]; exact Nat.lt_succ_self _), World.cell?_alloc_at xs t _ i rfl]
/-- All lists of a tree are short. -/
def Shorts (xs : List TN) : Prop := ∀ (j : Nat) (q : TN), xs[j]? = some q → q.u.length ≤ 2147483648

theorem parent_any (A : Option Addr) (n c : Nat) (xs : List TN) (x : Int) (k i e s h : Int) (u : List Int) (B : Option Addr) (m d : Nat) (w : World) (hs : SlA w 1 B m d (u.map (.int .i64))) (hm47 : m ≤ 2147483648) (h0 : Tr w A n c xs) (hnm : n ≤ 600) (hx0 : 0 ≤ x) (hx1 : x ≤ 510) (hf : fullN (lvN n) = true) (hT : Tab w) (hu : Shorts xs) :
    Calls Tryz.prog 176 #[.slice A n c, .int .i64 x, .agg #[.int .i64 k, .int .i64 i, .int .i64 e, .int .i64 s, .int .i64 h, .slice B m d]] w fun r w' => r = .returned (.bool (parB xs x ⟨k, i, e, s, h, u⟩)) ∧ Below w.heap.size w w' := by
  by_cases hk : k = 2
  · subst hk
    by_cases hi : i = 0
    · subst hi
      by_cases hss : s = 0
      · subst hss
        rcases hso : sortB u with _ | _
        · have hp : parB xs x ⟨2, 0, e, 0, h, u⟩ = false := by unfold parB riseB; simp [hso]
          rw [hp]; exact parent_o A n c x e h u B m d w hs hm47 hso
        · rcases hr : riseB u with _ | _
          · have hp : parB xs x ⟨2, 0, e, 0, h, u⟩ = false := by unfold parB; simp [hr]
            rw [hp]; exact parent_c A n c x e h u B m d w hs hm47 hso hr
          · have hp : parB xs x ⟨2, 0, e, 0, h, u⟩ = u.all (oneB xs x) := by unfold parB; simp [hr]
            rw [hp]; exact parent_go A n c xs x e h u B m d w hs hm47 hr h0 hnm hx0 hx1 hf hT hu
      · have hp : parB xs x ⟨2, 0, e, s, h, u⟩ = false := by unfold parB; simp [hss]
        rw [hp]; exact parent_s A n c x e s h B m d w hss
    · have hp : parB xs x ⟨2, i, e, s, h, u⟩ = false := by unfold parB; simp [hi]
      rw [hp]; exact parent_i A n c x i e s h B m d w hi
  · have hp : parB xs x ⟨k, i, e, s, h, u⟩ = false := by unfold parB; simp [hk]
    rw [hp]; exact parent_k A n c x k i e s h B m d w hk

/-- A node may stand at its place. -/
def okB (xs : List TN) (j : Nat) (x : TN) : Bool :=
  if x.k = 0 then (orN x.k x.i x.e x.s x.h == 0 && ((x.u.length : Nat) : Int) == 0)
  else if (j : Int) % 2 = 0 then (x.k == 1 && ((x.u.length : Nat) : Int) == 0) else parB xs j x
def okAt (xs : List TN) (j : Nat) : Bool := match xs[j]? with | some x => okB xs j x | none => true
/-- A tree may be. -/
def chkB (xs : List TN) : Bool := fullN (lvN xs.length) && (2 * (lvN xs.length : Int) - 1 == (xs.length : Int)) && !halfB xs && (List.range xs.length).all (okAt xs)

def allR (xs : List TN) : Int := if (List.range xs.length).all (okAt xs) then 0 else 1
theorem allR_yes {xs : List TN} (h : ∀ k, k < xs.length → okAt xs k = true) : allR xs = 0 := by
  unfold allR; rw [if_pos (List.all_eq_true.2 fun k hk => h k (List.mem_range.1 hk))]
theorem allR_no {xs : List TN} {k : Nat} (hk : k < xs.length) (h : okAt xs k = false) : allR xs = 1 := by
  unfold allR; rw [if_neg fun hh => by rw [List.all_eq_true.1 hh k (List.mem_range.2 hk)] at h; cases h]
theorem check_no (A : Option Addr) (n c : Nat) (xs : List TN) (w : World) (h : Tr w A n c xs) (hnm : n ≤ 600) (hno : fullN (lvN n) = false ∨ fullN (lvN n) = true ∧ 2 * (lvN n : Int) - 1 ≠ n ∨ fullN (lvN n) = true ∧ 2 * (lvN n : Int) - 1 = n ∧ halfB xs = true) :
    Calls Tryz.prog 100 #[.slice A n c] w fun e w' => e = .returned (.int .i64 1) ∧ Below w.heap.size w w' := by
  rcases hno with hno | ⟨hf, hno⟩ | ⟨hf, hno, hh⟩
  · go_enter Tryz.func100, Tryz.ntmps100
    go_wp2_with (first
      | (go_at_call 115; refine (leavesT_any _ n c _ hnm).mono ?_; rintro e w' ⟨rfl, hw'⟩; subst w')
      | (go_at_call 174; refine (width_any _ _).mono ?_; rintro e w1 ⟨rfl, hb⟩; rw [hno]))
    go_ret
    exact ⟨rfl, hb⟩
  · have hne : ((2 * (lvN n : Int) - 1) != (n : Int)) = true := bne_iff_ne.2 hno
    go_enter Tryz.func100, Tryz.ntmps100
    go_wp2_with (first
      | (go_at_call 115; refine (leavesT_any _ n c _ hnm).mono ?_; rintro e w' ⟨rfl, hw'⟩; subst w')
      | (go_at_call 174; refine (width_any _ _).mono ?_; rintro e w1 ⟨rfl, hb⟩; rw [hf]))
    go_ret
    exact ⟨rfl, hb⟩
  · have hne : ((2 * (lvN n : Int) - 1) != (n : Int)) = false := by rw [hno]; simp
    clear hno
    have HH := hid h; clear h
    go_enter Tryz.func100, Tryz.ntmps100
    go_wp2_with (first
      | (go_at_call 115; refine (leavesT_any _ n c _ hnm).mono ?_; rintro e w' ⟨rfl, hw'⟩; subst w')
      | (go_at_call 174; refine (width_any _ _).mono ?_; rintro e w1 ⟨rfl, hb⟩; rw [hf]; have HB := hid hb; clear hb)
      | (go_at_call 113; refine (half_any _ n c xs _ (HH.out.ext HB.out) hnm).mono ?_; rintro e w' ⟨rfl, hw'⟩; subst w'; rw [hh]))
    go_ret
    exact ⟨rfl, HB.out⟩

set_option maxHeartbeats 1000000 in
theorem check_go (A : Option Addr) (n c : Nat) (xs : List TN) (w : World) (h : Tr w A n c xs) (hnm : n ≤ 600) (hf : fullN (lvN n) = true) (hn : 2 * (lvN n : Int) - 1 = n) (hh : halfB xs = false) (hT : Tab w) (hu : Shorts xs) :
    Calls Tryz.prog 100 #[.slice A n c] w fun e w' => e = .returned (.int .i64 (allR xs)) ∧ Below w.heap.size w w' := by
  have hne : ((2 * (lvN n : Int) - 1) != (n : Int)) = false := by rw [hn]; simp
  have hn2 : n ≤ 511 := by have := fullN_le hf; omega
  clear hn
  have HL := hid h.len
  have HT := hid hT; have HU := hid hu; have H0 := hid h
  clear h hT hu
  go_enter Tryz.func100, Tryz.ntmps100
  go_wp2_with (first
    | (go_at_call 115; refine (leavesT_any _ n c _ hnm).mono ?_; rintro e w' ⟨rfl, hw'⟩; subst w')
    | (go_at_call 174; refine (width_any _ _).mono ?_; rintro e w1 ⟨rfl, hb⟩; rw [hf]; have HB := hid hb; clear hb)
    | (go_at_call 113; refine (half_any _ n c xs _ (H0.out.ext HB.out) hnm).mono ?_; rintro e w' ⟨rfl, hw'⟩; subst w'; rw [hh]))
  have HF := hid hf; clear hf hh hne
  go_loopw [28, 2] (fun i _ wr => ∃ j : Nat, i = .int .i64 j ∧ j ≤ n ∧ Hid (∀ k, k < j → okAt xs k = true) ∧ Below w.heap.size w wr) (fun i _ _ => n - (intOf i).toNat)
  case atStart => exact ⟨0, rfl, by omega, hid (fun k hk => by omega), HB.out⟩
  case round =>
    obtain ⟨j, hi, hj, HJ, hbr⟩ := hrel
    subst hi
    have HBr := hid hbr; clear hbr
    by_cases hlt : j < n
    · obtain ⟨b0, o0, q, Aq, cq, rfl, hq, c0, c1, c2, c3, c4, c5, hsq⟩ := (H0.out.ext HBr.out).at hlt
      have hqu := HU.out _ _ hq
      have HO := hid (show okAt xs j = okB xs j q by unfold okAt; rw [hq])
      have HSQ := hid hsq
      clear hq hsq
      have hzr := HBr.out.size
      by_cases hk0 : q.k = 0
      · have hk0' : (q.k == 0) = true := beq_iff_eq.2 hk0
        have hok : okB xs j q = (orN q.k q.i q.e q.s q.h == 0 && ((q.u.length : Nat) : Int) == 0) := by unfold okB; rw [if_pos hk0]
        rcases hv : (orN q.k q.i q.e q.s q.h == 0 && ((q.u.length : Nat) : Int) == 0) with _ | _
        · have HN := hid (HO.out.trans (hok.trans hv)); clear hok hk0
          go_wp2_with (first
            | (go_at_call 175; refine (zero_any _ _ _ _ _ _ _ _ _).mono ?_; rintro e2 w2 ⟨rfl, hb2⟩; rw [hv]; obtain ⟨hb3, hz3⟩ := below_new HBr.out HBr.out.size hb2; have k20 := new_cell hb2 0; have k21 := new_cell hb2 1; have k22 := new_cell hb2 2; have k23 := new_cell hb2 3; have k24 := new_cell hb2 4; have k25 := new_cell hb2 5; have HB2 := hid hb3; clear hb3 hb2))
          go_ret
          exact ⟨by rw [allR_no (by have := HL.out; omega) HN.out]; rfl, HB2.out⟩
        · have HN := hid (HO.out.trans (hok.trans hv)); clear hok hk0
          go_wp2_with (first
            | (go_at_call 175; refine (zero_any _ _ _ _ _ _ _ _ _).mono ?_; rintro e2 w2 ⟨rfl, hb2⟩; rw [hv]; obtain ⟨hb3, hz3⟩ := below_new HBr.out HBr.out.size hb2; have k20 := new_cell hb2 0; have k21 := new_cell hb2 1; have k22 := new_cell hb2 2; have k23 := new_cell hb2 3; have k24 := new_cell hb2 4; have k25 := new_cell hb2 5; have HB2 := hid hb3; clear hb3 hb2))
          go_roundw
          case rel => exact ⟨j + 1, by go_num, by omega, hid (fun k hk => by
            by_cases hkj : k < j
            · exact HJ.out k hkj
            · rw [show k = j by omega]; exact HN.out), HB2.out⟩
          case measure => simp [intOf]; omega
      · have hk0' : (q.k == 0) = false := beq_eq_false_iff_ne.2 hk0
        by_cases hj2 : (j : Int) % 2 = 0
        · have hj2' : ((j : Int) % 2 == 0) = true := beq_iff_eq.2 hj2
          have hok : okB xs j q = (q.k == 1 && ((q.u.length : Nat) : Int) == 0) := by unfold okB; rw [if_neg hk0, if_pos hj2]
          rcases hv : (q.k == 1 && ((q.u.length : Nat) : Int) == 0) with _ | _
          · have HN := hid (HO.out.trans (hok.trans hv)); clear hok hk0 hj2
            go_wp2_with (first
              | (go_at_call 175; refine (zero_any _ _ _ _ _ _ _ _ _).mono ?_; rintro e2 w2 ⟨rfl, hb2⟩; obtain ⟨hb3, hz3⟩ := below_new HBr.out HBr.out.size hb2; have k20 := new_cell hb2 0; have k21 := new_cell hb2 1; have k22 := new_cell hb2 2; have k23 := new_cell hb2 3; have k24 := new_cell hb2 4; have k25 := new_cell hb2 5; have HB2 := hid hb3; clear hb3 hb2)
              | (go_at_call 111; refine (leaf_any _ _ _ _ _ _ _ _ _).mono ?_; rintro e4 w4 ⟨rfl, hb4⟩; rw [hv]; have HB4 := hid (HB2.out.trans (hb4.mono HB2.out.size)); clear hb4))
            go_ret
            exact ⟨by rw [allR_no (by have := HL.out; omega) HN.out]; rfl, HB4.out⟩
          · have HN := hid (HO.out.trans (hok.trans hv)); clear hok hk0 hj2
            go_wp2_with (first
              | (go_at_call 175; refine (zero_any _ _ _ _ _ _ _ _ _).mono ?_; rintro e2 w2 ⟨rfl, hb2⟩; obtain ⟨hb3, hz3⟩ := below_new HBr.out HBr.out.size hb2; have k20 := new_cell hb2 0; have k21 := new_cell hb2 1; have k22 := new_cell hb2 2; have k23 := new_cell hb2 3; have k24 := new_cell hb2 4; have k25 := new_cell hb2 5; have HB2 := hid hb3; clear hb3 hb2)
              | (go_at_call 111; refine (leaf_any _ _ _ _ _ _ _ _ _).mono ?_; rintro e4 w4 ⟨rfl, hb4⟩; rw [hv]; have HB4 := hid (HB2.out.trans (hb4.mono HB2.out.size)); clear hb4))
            go_roundw
            case rel => exact ⟨j + 1, by go_num, by omega, hid (fun k hk => by
              by_cases hkj : k < j
              · exact HJ.out k hkj
              · rw [show k = j by omega]; exact HN.out), HB4.out⟩
            case measure => simp [intOf]; omega

        · have hj2' : ((j : Int) % 2 == 0) = false := beq_eq_false_iff_ne.2 hj2
          have hok : okB xs j q = parB xs j q := by unfold okB; rw [if_neg hk0, if_neg hj2]
          rcases hv : parB xs j q with _ | _
          · have HN := hid (HO.out.trans (hok.trans hv)); clear hok hk0 hj2
            go_wp2_with (first
              | (go_at_call 175; refine (zero_any _ _ _ _ _ _ _ _ _).mono ?_; rintro e2 w2 ⟨rfl, hb2⟩; obtain ⟨hb3, hz3⟩ := below_new HBr.out HBr.out.size hb2; have k20 := new_cell hb2 0; have k21 := new_cell hb2 1; have k22 := new_cell hb2 2; have k23 := new_cell hb2 3; have k24 := new_cell hb2 4; have k25 := new_cell hb2 5; have HB2 := hid hb3; have HBX := hid (((Below.refl wr.heap.size wr).alloc (Nat.le_refl _) _).trans (hb2.mono (by rw [World.size_alloc]; omega))); clear hb3 hb2)
              | (go_at_call 176; refine (parent_any _ n c xs j _ _ _ _ _ q.u _ _ _ _ (HSQ.out.ext HBX.out) hqu (H0.out.ext HB2.out) hnm (by omega) (by omega) HF.out (HT.out.ext HB2.out) HU.out).mono ?_; rintro e4 w4 ⟨rfl, hb4⟩; rw [hv]; have HB4 := hid (HB2.out.trans (hb4.mono HB2.out.size)); clear hb4))
            go_ret
            exact ⟨by rw [allR_no (by have := HL.out; omega) HN.out]; rfl, HB4.out⟩
          · have HN := hid (HO.out.trans (hok.trans hv)); clear hok hk0 hj2
            go_wp2_with (first
              | (go_at_call 175; refine (zero_any _ _ _ _ _ _ _ _ _).mono ?_; rintro e2 w2 ⟨rfl, hb2⟩; obtain ⟨hb3, hz3⟩ := below_new HBr.out HBr.out.size hb2; have k20 := new_cell hb2 0; have k21 := new_cell hb2 1; have k22 := new_cell hb2 2; have k23 := new_cell hb2 3; have k24 := new_cell hb2 4; have k25 := new_cell hb2 5; have HB2 := hid hb3; have HBX := hid (((Below.refl wr.heap.size wr).alloc (Nat.le_refl _) _).trans (hb2.mono (by rw [World.size_alloc]; omega))); clear hb3 hb2)
              | (go_at_call 176; refine (parent_any _ n c xs j _ _ _ _ _ q.u _ _ _ _ (HSQ.out.ext HBX.out) hqu (H0.out.ext HB2.out) hnm (by omega) (by omega) HF.out (HT.out.ext HB2.out) HU.out).mono ?_; rintro e4 w4 ⟨rfl, hb4⟩; rw [hv]; have HB4 := hid (HB2.out.trans (hb4.mono HB2.out.size)); clear hb4))
            go_roundw
            case rel => exact ⟨j + 1, by go_num, by omega, hid (fun k hk => by
              by_cases hkj : k < j
              · exact HJ.out k hkj
              · rw [show k = j by omega]; exact HN.out), HB4.out⟩
            case measure => simp [intOf]; omega
    · go_wp2
      go_ret
      exact ⟨by rw [allR_yes fun k hk => HJ.out k (by have := HL.out; omega)]; rfl, HBr.out⟩

end Go.Proofs.YtpkijlmkgomfeaaGreatDoor

/- A tree that is the call's own: a row of nodes that may be written, whose parents' lists are rows of their own. -/
namespace Go.KK
open Go.RowKit
set_option linter.unusedVariables false
set_option linter.unusedSimpArgs false

theorem ncs_ext {L : List Value} {xs : List TN} {qs : List Value} (hq : qs.length = xs.length) (hl : L.length = xs.length * 6)
    (h : ∀ (j : Nat) x q, xs[j]? = some x → qs[j]? = some q → ∀ k, k < 6 → L[j * 6 + k]? = (x.cells q)[k]?) : L = ncs xs qs := by
  apply List.ext_getElem?
  intro i
  by_cases hi : i < xs.length * 6
  · have hx : xs[i / 6]? = some (xs[i / 6]'(by omega)) := List.getElem?_eq_getElem _
    have hqq : qs[i / 6]? = some (qs[i / 6]'(by omega)) := List.getElem?_eq_getElem _
    have h1 := h _ _ _ hx hqq (i % 6) (Nat.mod_lt _ (by omega))
    have h2 := ncs_get hx hqq (Nat.mod_lt i (show 0 < 6 by omega))
    rw [show i / 6 * 6 + i % 6 = i by omega] at h1 h2
    rw [h1, h2]
  · rw [List.getElem?_eq_none (by omega), List.getElem?_eq_none (by rw [ncs_len hq]; omega)]

/-- A node is stored, cell by cell. -/
theorem ncs_set {xs : List TN} {qs : List Value} (hq : qs.length = xs.length) {j : Nat} (hj : j < xs.length) (y : TN) (q : Value) :
    ((((((ncs xs qs).set (j * 6) (.int .i64 y.k)).set (j * 6 + 1) (.int .i64 y.i)).set (j * 6 + 2) (.int .i64 y.e)).set (j * 6 + 3) (.int .i64 y.s)).set (j * 6 + 4) (.int .i64 y.h)).set (j * 6 + 5) q = ncs (xs.set j y) (qs.set j q) := by
  refine ncs_ext (by simpa using hq) (by simp [ncs_len hq]) ?_
  intro i x p hx hp k hk
  have hlen : (ncs xs qs).length = xs.length * 6 := ncs_len hq
  by_cases hij : i = j
  · subst hij
    rw [List.getElem?_set_self (by omega)] at hx hp
    injection hx with hx; injection hp with hp
    subst hx; subst hp
    have hk' : k = 0 ∨ k = 1 ∨ k = 2 ∨ k = 3 ∨ k = 4 ∨ k = 5 := by omega
    rcases hk' with rfl | rfl | rfl | rfl | rfl | rfl <;> simp [TN.cells, List.getElem?_set, hlen] <;> omega
  · rw [List.getElem?_set_ne (by omega)] at hx hp
    have h0 := ncs_get hx hp hk
    rw [← h0]
    repeat rw [List.getElem?_set_ne (by omega)]
/-- One cell of a node is stored. -/
theorem ncs_set1 {xs : List TN} {qs : List Value} (hq : qs.length = xs.length) {j d : Nat} {x y : TN} {p q : Value} (hx : xs[j]? = some x) (hp : qs[j]? = some p) (hd : d < 6) (v : Value)
    (h : (x.cells p).set d v = y.cells q) : (ncs xs qs).set (j * 6 + d) v = ncs (xs.set j y) (qs.set j q) := by
  have hj : j < xs.length := (List.getElem?_eq_some_iff.1 hx).1
  refine ncs_ext (by simpa using hq) (by simp [ncs_len hq]) ?_
  intro i x' p' hx' hp' k hk
  have hlen : (ncs xs qs).length = xs.length * 6 := ncs_len hq
  by_cases hij : i = j
  · subst hij
    rw [List.getElem?_set_self (by omega)] at hx' hp'
    injection hx' with hx'; injection hp' with hp'
    subst hx'; subst hp'
    rw [← h]
    by_cases hkd : k = d
    · subst hkd
      rw [List.getElem?_set_self (by omega), List.getElem?_set_self (by simp [TN.cells]; omega)]
    · rw [List.getElem?_set_ne (by omega), List.getElem?_set_ne (by omega), ncs_get hx hp hk]
  · rw [List.getElem?_set_ne (by omega)] at hx' hp'
    rw [← ncs_get hx' hp' hk, List.getElem?_set_ne (by omega)]

/-- A node's list, in a tree of the call's own: a parent's is a row of its own; all others' are empty. -/
def LsO (w : World) (base g : Nat) (x : TN) (q : Value) : Prop :=
  (x.k = 2 → w.ownsRow base 3 1 q x.u.length (x.u.map (.int .i64)) ∧ q.ownBlock ≠ some g) ∧ (x.k ≠ 2 → x.u = [] ∧ ∃ A c, q = .slice A 0 c ∧ c ≤ maxLen)
structure TrW (w : World) (base g cap : Nat) (xs : List TN) (qs : List Value) : Prop where
  row : w.ownsRow base 37 6 (.slice (some ⟨g, 0, none⟩) xs.length cap) xs.length (ncs xs qs)
  ql : qs.length = xs.length
  own : ∀ (j : Nat) x q, xs[j]? = some x → qs[j]? = some q → LsO w base g x q
  apart : ∀ (i j : Nat) x y p q b, xs[i]? = some x → xs[j]? = some y → qs[i]? = some p → qs[j]? = some q → x.k = 2 → y.k = 2 → p.ownBlock = some b → q.ownBlock = some b → i = j

theorem LsO.in1 {w : World} {base g : Nat} {x : TN} {q : Value} (h : LsO w base g x q) : In1 w q x.u := by
  by_cases hk : x.k = 2
  · obtain ⟨A, c, e, hs⟩ := SlA.owned (h.1 hk).1
    exact ⟨A, c, e, hs⟩
  · obtain ⟨hu, A, c, e, hc⟩ := h.2 hk
    rw [hu]
    exact ⟨A, c, e, SlA.zero _ _ _ _ hc⟩
theorem LsO.grown {w w' : World} {base g : Nat} {x : TN} {q : Value} {r : Option Nat} (h : LsO w base g x q) (hg : w.grownBy w' r) (hr : x.k = 2 → q.ownBlock = none ∨ q.ownBlock ≠ r) : LsO w' base g x q :=
  ⟨fun hk => ⟨(h.1 hk).1.kept hg (hr hk), (h.1 hk).2⟩, h.2⟩

section
variable {w w' : World} {base g cap : Nat} {xs : List TN} {qs : List Value}
theorem TrW.tr (h : TrW w base g cap xs qs) : Tr w (some ⟨g, 0, none⟩) xs.length cap xs := by
  refine ⟨qs, h.ql, (SlA.of_own h.row).2, fun j x q hx hq => (h.own j x q hx hq).in1⟩
theorem TrW.lt (h : TrW w base g cap xs qs) : base ≤ g ∧ g < w.heap.size := h.row.lt g rfl
/-- Another row turned, or new blocks. -/
theorem TrW.grown {r : Option Nat} (h : TrW w base g cap xs qs) (hg : w.grownBy w' r) (hr : r ≠ some g) (hrq : ∀ (j : Nat) x q, xs[j]? = some x → qs[j]? = some q → x.k = 2 → q.ownBlock = none ∨ q.ownBlock ≠ r) : TrW w' base g cap xs qs :=
  ⟨h.row.kept hg (.inr (by simpa [Value.ownBlock] using fun e => hr e.symm)), h.ql, fun j x q hx hq => (h.own j x q hx hq).grown hg (hrq j x q hx hq), h.apart⟩
theorem TrW.ext (h : TrW w base g cap xs qs) (hb : Below w.heap.size w w') : TrW w' base g cap xs qs :=
  h.grown (grown_of_below hb none) (by simp) (fun j x q _ _ _ => by cases q.ownBlock <;> simp)
theorem TrW.alloc (h : TrW w base g cap xs qs) (o : Obj) : TrW (w.alloc o) base g cap xs qs := h.ext ((Below.refl _ _).alloc (Nat.le_refl _) o)
theorem TrW.drew (h : TrW w base g cap xs qs) : TrW w.drew base g cap xs qs := ⟨h.row, h.ql, h.own, h.apart⟩
theorem TrW.drewN (h : TrW w base g cap xs qs) (k : Nat) : TrW (w.drewN k) base g cap xs qs := ⟨h.row, h.ql, h.own, h.apart⟩
theorem TrW.to (h : TrW w base g cap xs qs) {p : Nat} (hp : p ≤ xs.length) : TrW w base g cap (xs.take p) (qs.take p) := by
  have hlp : (xs.take p).length = p := by rw [List.length_take, Nat.min_eq_left hp]
  have hlq : (qs.take p).length = p := by rw [List.length_take, h.ql, Nat.min_eq_left hp]
  have tk : ∀ {α : Type} {l : List α} {j : Nat} {x : α}, (l.take p)[j]? = some x → l[j]? = some x := by
    intro α l j x hx
    rw [List.getElem?_take] at hx
    split at hx
    · exact hx
    · cases hx
  refine ⟨?_, by rw [hlp, hlq], fun j x q hx hq => h.own j x q (tk hx) (tk hq), fun i j x y a q b hx hy ha hq k1 k2 => h.apart i j x y a q b (tk hx) (tk hy) (tk ha) (tk hq) k1 k2⟩
  rcases h.row with ⟨h1, h2⟩
  refine ⟨by rw [ncs_len (by rw [hlp, hlq])], ?_⟩
  rcases h2 with ⟨e, _⟩ | ⟨g', cap', cur, e, hb, hg, hnc, hcm, hcs, htake⟩
  · cases e
  · injection e with e1 e2 e3
    injection e1 with e1
    injection e1 with e4 e5
    subst e4; subst e3
    refine .inr ⟨g, cap, cur, rfl, hb, hg, by omega, hcm, hcs, ?_⟩
    rw [hlp]
    have e : ncs (xs.take p) (qs.take p) = (ncs xs qs).take (p * 6) := by
      symm
      refine ncs_ext (by rw [hlp, hlq]) (by rw [List.length_take, ncs_len h.ql, hlp]; omega) ?_
      intro j x q hx hq k hk
      have hjp : j < p := by
        rcases Nat.lt_or_ge j p with hh | hh
        · exact hh
        · rw [List.getElem?_eq_none (by omega)] at hx; cases hx
      rw [List.getElem?_take, if_pos (by omega), ncs_get (tk hx) (tk hq) hk]
    rw [e, ← htake, List.take_take, Nat.min_eq_left (by omega)]
theorem set_get {α : Type} {l : List α} {i j : Nat} {x y : α} (h : (l.set j y)[i]? = some x) : (i = j ∧ x = y) ∨ (i ≠ j ∧ l[i]? = some x) := by
  by_cases hij : i = j
  · subst hij
    have hl : i < l.length := by
      rcases Nat.lt_or_ge i l.length with hh | hh
      · exact hh
      · rw [List.getElem?_eq_none (by simpa using hh)] at h; cases h
    rw [List.getElem?_set_self hl] at h
    injection h with h
    exact .inl ⟨rfl, h.symm⟩
  · rw [List.getElem?_set_ne (by omega)] at h
    exact .inr ⟨hij, h⟩
/-- What the row holds has turned; a node is another one. -/
theorem TrW.put' {L : List Value} {j : Nat} {y : TN} {q : Value} (h : TrW w base g cap xs qs) (hw : ∀ (i : Nat) x p, i ≠ j → xs[i]? = some x → qs[i]? = some p → x.k = 2 → w'.ownsRow base 3 1 p x.u.length (x.u.map (.int .i64))) (hrow : w'.ownsRow base 37 6 (.slice (some ⟨g, 0, none⟩) xs.length cap) xs.length L)
    (hL : L = ncs (xs.set j y) (qs.set j q)) (hy : LsO w' base g y q) (hap : y.k = 2 → ∀ b, q.ownBlock = some b → ∀ (i : Nat) x p, xs[i]? = some x → qs[i]? = some p → i ≠ j → x.k = 2 → p.ownBlock ≠ some b) :
    TrW w' base g cap (xs.set j y) (qs.set j q) := by
  subst hL
  refine ⟨by simpa using hrow, by simpa using h.ql, fun i x p hx hp => ?_, fun i k x z p r b hx hz hp hr k1 k2 hb1 hb2 => ?_⟩
  · rcases set_get hx with ⟨rfl, rfl⟩ | ⟨hij, hx⟩
    · rcases set_get hp with ⟨_, rfl⟩ | ⟨hij, _⟩
      · exact hy
      · exact absurd rfl hij
    · rcases set_get hp with ⟨hh, _⟩ | ⟨_, hp⟩
      · exact absurd hh hij
      · exact ⟨fun hk => ⟨hw i x p hij hx hp hk, ((h.own i x p hx hp).1 hk).2⟩, (h.own i x p hx hp).2⟩
  · rcases set_get hx with ⟨rfl, rfl⟩ | ⟨hij, hx'⟩
    · rcases set_get hz with ⟨rfl, rfl⟩ | ⟨hkj, hz'⟩
      · rfl
      · rcases set_get hp with ⟨_, rfl⟩ | ⟨hh, _⟩
        · rcases set_get hr with ⟨hh, _⟩ | ⟨_, hr'⟩
          · exact absurd hh hkj
          · exact absurd hb2 (hap k1 b hb1 k z r hz' hr' hkj k2)
        · exact absurd rfl hh
    · rcases set_get hp with ⟨hh, _⟩ | ⟨_, hp'⟩
      · exact absurd hh hij
      · rcases set_get hz with ⟨rfl, rfl⟩ | ⟨hkj, hz'⟩
        · rcases set_get hr with ⟨_, rfl⟩ | ⟨hh, _⟩
          · exact absurd hb1 (hap k2 b hb2 i x p hx' hp' hij k1)
          · exact absurd rfl hh
        · rcases set_get hr with ⟨hh, _⟩ | ⟨_, hr'⟩
          · exact absurd hh hkj
          · exact h.apart i k x z p r b hx' hz' hp' hr' k1 k2 hb1 hb2
theorem TrW.put {L : List Value} {j : Nat} {y : TN} {q : Value} (h : TrW w base g cap xs qs) (hw : w.grownBy w' (some g)) (hrow : w'.ownsRow base 37 6 (.slice (some ⟨g, 0, none⟩) xs.length cap) xs.length L)
    (hL : L = ncs (xs.set j y) (qs.set j q)) (hy : LsO w' base g y q) (hap : y.k = 2 → ∀ b, q.ownBlock = some b → ∀ (i : Nat) x p, xs[i]? = some x → qs[i]? = some p → i ≠ j → x.k = 2 → p.ownBlock ≠ some b) :
    TrW w' base g cap (xs.set j y) (qs.set j q) :=
  h.put' (fun i x p _ hx hp hk => ((h.own i x p hx hp).1 hk).1.kept hw (.inr ((h.own i x p hx hp).1 hk).2)) hrow hL hy hap
theorem grown_setCell {a : World} {p : Addr} (h : a.grownBy w (some g)) (hp : p.block = g) (u : Value) : a.grownBy (w.setCell p u) (some g) :=
  ⟨h.os, h.tape, h.output, by simpa [World.setCell] using h.size, fun i hi hne => (Below.heap_setCell w p u i (by rintro rfl; exact hne (by rw [hp]))).trans (h.block i hi hne)⟩
/-- A node is stored that is no parent. -/
theorem TrW.node (h : TrW w base g cap xs qs) {j : Nat} (hj : j < xs.length) (y : TN) (A : Option Addr) (c : Nat) (hk : y.k ≠ 2) (hu : y.u = []) (hc : c ≤ maxLen) :
    TrW ((((((w.setCell ⟨g, j * 6, none⟩ (.int .i64 y.k)).setCell ⟨g, j * 6 + 1, none⟩ (.int .i64 y.i)).setCell ⟨g, j * 6 + 2, none⟩ (.int .i64 y.e)).setCell ⟨g, j * 6 + 3, none⟩ (.int .i64 y.s)).setCell ⟨g, j * 6 + 4, none⟩ (.int .i64 y.h)).setCell ⟨g, j * 6 + 5, none⟩ (.slice A 0 c)) base g cap (xs.set j y) (qs.set j (.slice A 0 c)) := by
  have g1 := grown_setCell (World.grownBy.refl w (some g)) (p := ⟨g, j * 6, none⟩) rfl (.int .i64 y.k)
  have g2 := grown_setCell g1 (p := ⟨g, j * 6 + 1, none⟩) rfl (.int .i64 y.i)
  have g3 := grown_setCell g2 (p := ⟨g, j * 6 + 2, none⟩) rfl (.int .i64 y.e)
  have g4 := grown_setCell g3 (p := ⟨g, j * 6 + 3, none⟩) rfl (.int .i64 y.s)
  have g5 := grown_setCell g4 (p := ⟨g, j * 6 + 4, none⟩) rfl (.int .i64 y.h)
  have g6 := grown_setCell g5 (p := ⟨g, j * 6 + 5, none⟩) rfl (.slice A 0 c)
  have r1 := (h.row.stored (j * 6) (.int .i64 y.k)).1
  have r2 := (r1.stored (j * 6 + 1) (.int .i64 y.i)).1
  have r3 := (r2.stored (j * 6 + 2) (.int .i64 y.e)).1
  have r4 := (r3.stored (j * 6 + 3) (.int .i64 y.s)).1
  have r5 := (r4.stored (j * 6 + 4) (.int .i64 y.h)).1
  exact h.put g6 (r5.stored (j * 6 + 5) (.slice A 0 c)).1 (ncs_set h.ql hj y _) ⟨fun hh => absurd hh hk, fun _ => ⟨hu, A, c, rfl, hc⟩⟩ (fun hh => absurd hh hk)
/-- A parent's list has turned in its row (or lies in a new one), and is stored. -/
theorem TrW.list' {w2 : World} (h : TrW w base g cap xs qs) {j : Nat} {x : TN} {p : Value} (hx : xs[j]? = some x) (hp : qs[j]? = some p) (u : List Int) (q : Value) (hk : x.k = 2) (hg2 : w.grownBy w2 p.ownBlock) (hq : w2.ownsRow base 3 1 q u.length (u.map (.int .i64)))
    (hnew : q.ownBlock = p.ownBlock ∨ q.ownBlock = some w.heap.size) : TrW (w2.setCell ⟨g, j * 6 + 5, none⟩ q) base g cap (xs.set j { x with u := u }) (qs.set j q) := by
  have hpg := ((h.own j x p hx hp).1 hk).2
  have hqg : q.ownBlock ≠ some g := by
    rcases hnew with e | e <;> rw [e]
    · exact hpg
    · intro e2; injection e2 with e2; have := h.lt.2; omega
  have g1 := grown_setCell (World.grownBy.refl w2 (some g)) (p := ⟨g, j * 6 + 5, none⟩) rfl q
  have r2 : w2.ownsRow base 37 6 (.slice (some ⟨g, 0, none⟩) xs.length cap) xs.length (ncs xs qs) := h.row.kept hg2 (.inr fun e => hpg e.symm)
  refine h.put' (fun i y r hij hy hr hk2 => ?_) (r2.stored (j * 6 + 5) q).1 (ncs_set1 (d := 5) h.ql hx hp (by omega) q rfl) ⟨fun _ => ⟨hq.kept g1 (.inr hqg), hqg⟩, fun hh => absurd hk hh⟩ (fun _ b hb i y r hy hr hij hk2 e => ?_)
  · obtain ⟨o1, o2⟩ := (h.own i y r hy hr).1 hk2
    have hne : r.ownBlock = none ∨ r.ownBlock ≠ p.ownBlock := by
      rcases hb : r.ownBlock with _ | b
      · exact .inl rfl
      · exact .inr fun e => hij (h.apart i j y x r p b hy hx hr hp hk2 hk hb e.symm)
    exact (o1.kept hg2 hne).kept g1 (.inr o2)
  · rcases hnew with e2 | e2
    · exact hij (h.apart i j y x r p b hy hx hr hp hk2 hk e (e2.symm.trans hb))
    · rw [e2] at hb
      injection hb with hb
      have := (((h.own i y r hy hr).1 hk2).1.lt b e).2
      omega
end
end Go.KK

/- ratchet: whether a tree may be, as one answer; who is in it; a tree copied. -/
namespace Go.Proofs.YtpkijlmkgomfeaaGreatDoor
open Go.RowKit Go.KK
set_option linter.unusedVariables false
set_option linter.unusedSimpArgs false

def chkE (xs : List TN) : Int := if chkB xs then 0 else 1
theorem chk_any (A : Option Addr) (n c : Nat) (xs : List TN) (w : World) (h : Tr w A n c xs) (hnm : n ≤ 600) (hT : Tab w) (hu : Shorts xs) :
    Calls Tryz.prog 100 #[.slice A n c] w fun e w' => e = .returned (.int .i64 (chkE xs)) ∧ Below w.heap.size w w' := by
  have hl := h.len
  rcases hf : fullN (lvN n) with _ | _
  · have hc : chkE xs = 1 := by unfold chkE chkB; rw [hl, hf]; rfl
    rw [hc]; exact check_no A n c xs w h hnm (.inl hf)
  · by_cases hn : 2 * (lvN n : Int) - 1 = n
    · rcases hh : halfB xs with _ | _
      · have hc : chkE xs = allR xs := by
          unfold chkE chkB allR
          rw [hl, hf, hh, hn]
          simp
        rw [hc]; exact check_go A n c xs w h hnm hf hn hh hT hu
      · have hc : chkE xs = 1 := by unfold chkE chkB; rw [hh]; simp
        rw [hc]; exact check_no A n c xs w h hnm (.inr (.inr ⟨hf, hn, hh⟩))
    · have hc : chkE xs = 1 := by
        unfold chkE chkB
        rw [hl, show (2 * (lvN n : Int) - 1 == (n : Int)) = false from beq_eq_false_iff_ne.2 hn]
        simp
      rw [hc]; exact check_no A n c xs w h hnm (.inr (.inl ⟨hf, hn⟩))
theorem chk_full {xs : List TN} (h : chkB xs = true) : fullN (lvN xs.length) = true ∧ 2 * (lvN xs.length : Int) - 1 = (xs.length : Int) ∧ halfB xs = false ∧ ∀ k, k < xs.length → okAt xs k = true := by
  unfold chkB at h
  simp only [Bool.and_eq_true, beq_iff_eq, Bool.not_eq_true', List.all_eq_true, List.mem_range] at h
  exact ⟨h.1.1.1, h.1.1.2, h.1.2, h.2⟩

end Go.Proofs.YtpkijlmkgomfeaaGreatDoor

/- layer 9: whether a tree's terms are terms. -/
namespace Go.Proofs.YtpkijlmkgomfeaaGreatDoor
open Go.RowKit Go.KK Go.Shelf Go.Maps
set_option linter.unusedVariables false
set_option linter.unusedSimpArgs false

section
variable {W : World} {sa b : Nat} {X : List ND}
end
end Go.Proofs.YtpkijlmkgomfeaaGreatDoor

/- proposals as terms, in plain words. -/
namespace Go.KK
open Go
set_option linter.unusedVariables false
set_option linter.unusedSimpArgs false

/-- A proposal: its kind, who made it, its leaf, whom it takes out, its term. -/
structure PR where
  k : Int
  f : Int
  n : TN
  a : Int
  t : Int
def pr0 : PR := ⟨0, 0, tn0, 0, 0⟩
def PR.cells (p : PR) (q : Value) : List Value := [.int .i64 p.k, .int .i64 p.f, .int .i64 p.n.k, .int .i64 p.n.i, .int .i64 p.n.e, .int .i64 p.n.s, .int .i64 p.n.h, q, .int .i64 p.a, .int .i64 p.t]
/-- What it is of: its leaf's terms, whom it takes out, or its term. -/
def prW (S : KS) (p : PR) : KS × Int := if p.k = 1 ∨ p.k = 2 then doF S (liF [p.n.i, p.n.e, p.n.s, p.n.h]) else if p.k = 3 then doF S (txF (digB p.a)) else (S, p.t)
def prB (S : KS) (p : PR) : KS × Int := doF (doF S (txF (digB p.k))).1 (txF (digB p.f))
/-- One proposal. -/
def prS (S : KS) (p : PR) : KS × Int := doF (prW (prB S p).1 p).1 (liF [(doF S (txF (digB p.k))).2, (prB S p).2, (prW (prB S p).1 p).2])
/-- The first j of them. -/
def prA (S : KS) (l : List PR) : Nat → KS × List Int
  | 0 => (S, [])
  | j + 1 => ((prS (prA S l j).1 (l.getD j pr0)).1, (prA S l j).2 ++ [(prS (prA S l j).1 (l.getD j pr0)).2])
/-- A proposal that no term is made of. -/
def prX (p : PR) : Bool := decide (p.k < 1) || decide (5 < p.k) || decide (p.f < 0) || decide (p.a < 0)
def prZ (X : List ND) (l : List PR) : KS × Int := doF (prA ⟨X, 0⟩ l l.length).1 (liF (prA ⟨X, 0⟩ l l.length).2)
/-- Proposals as one term. -/
def prF (X : List ND) (l : List PR) : Rs := if l.any prX then (X, 0, 1) else ((prZ X l).1.x, if (prZ X l).1.e = 0 then (prZ X l).2 else 0, (prZ X l).1.e)
theorem prW_go (S : KS) (p : PR) : Go2 S (prW S p).1 1 := by
  unfold prW
  split
  · exact li_go S _
  · split
    · exact tx_go S _
    · exact (Go2.refl S).mono (by omega)
theorem prB_go (S : KS) (p : PR) : Go2 S (prB S p).1 2 := (tx_go S _).trans (tx_go _ _)
theorem prS_go (S : KS) (p : PR) : Go2 S (prS S p).1 4 := ((prB_go S p).trans (prW_go _ p)).trans (li_go _ _)
theorem prA_go (S : KS) (l : List PR) : ∀ j, Go2 S (prA S l j).1 (4 * j)
  | 0 => (Go2.refl S).mono (by omega)
  | j + 1 => ((prA_go S l j).trans (prS_go _ _)).mono (by omega)
theorem prA_len (S : KS) (l : List PR) : ∀ j, (prA S l j).2.length = j
  | 0 => rfl
  | j + 1 => by show (_ ++ [_]).length = _; rw [List.length_append, prA_len S l j]; rfl
end Go.KK

/- a row of proposals in memory. -/
namespace Go.KK
open Go Go.RowKit
set_option linter.unusedVariables false
set_option linter.unusedSimpArgs false

def pcs (l : List PR) (qs : List Value) : List Value := (List.zipWith PR.cells l qs).flatten
theorem pcs_mem (l : List PR) (qs : List Value) : ∀ c ∈ List.zipWith PR.cells l qs, c.length = 10 := by
  intro c hc
  obtain ⟨j, hj, rfl⟩ := List.mem_iff_getElem.1 hc
  rw [List.getElem_zipWith]
  rfl
theorem pcs_get {l : List PR} {qs : List Value} {j k : Nat} {p : PR} {q : Value} (hp : l[j]? = some p) (hq : qs[j]? = some q) (hk : k < 10) : (pcs l qs)[j * 10 + k]? = (p.cells q)[k]? :=
  flat_get 10 _ j k _ (pcs_mem l qs) (by rw [List.getElem?_zipWith, hp, hq]) hk
/-- The slice reads as a row of proposals. -/
def Pr (w : World) (A : Option Addr) (n c : Nat) (l : List PR) : Prop :=
  ∃ qs : List Value, (qs.length = l.length ∧ l.length = n) ∧ SlA w 10 A n c (pcs l qs) ∧ ∀ (j : Nat) p q, l[j]? = some p → qs[j]? = some q → In1 w q p.n.u
section
variable {w w' : World} {A : Option Addr} {n c : Nat} {l : List PR}
theorem Pr.len (h : Pr w A n c l) : l.length = n := by obtain ⟨qs, h1, -⟩ := h; exact h1.2
theorem Pr.nc (h : Pr w A n c l) : n ≤ c ∧ c ≤ maxLen := by obtain ⟨qs, h1, h2, -⟩ := h; exact ⟨h2.nc, h2.cm⟩
theorem Pr.keep (h : Pr w A n c l) (hk : ∀ b o u, w.cell? ⟨b, o, none⟩ = some u → w'.cell? ⟨b, o, none⟩ = some u) : Pr w' A n c l := by
  obtain ⟨qs, h1, h2, h3⟩ := h
  exact ⟨qs, h1, h2.keep hk, fun j p q hp hq => (h3 j p q hp hq).keep hk⟩
theorem Pr.ext (h : Pr w A n c l) (hb : Below w.heap.size w w') : Pr w' A n c l := by
  obtain ⟨qs, h1, h2, h3⟩ := h
  exact ⟨qs, h1, h2.ext hb, fun j p q hp hq => (h3 j p q hp hq).ext hb⟩
/-- One proposal's cells. -/
theorem Pr.at (h : Pr w A n c l) {j : Nat} (hj : j < n) : ∃ b off p A' c', A = some ⟨b, off, none⟩ ∧ l[j]? = some p ∧ SlA w 1 A' p.n.u.length c' (p.n.u.map (.int .i64)) ∧
    (w.cell? ⟨b, off + j * 10, none⟩ = some (.int .i64 p.k) ∧ w.cell? ⟨b, off + j * 10 + 1, none⟩ = some (.int .i64 p.f) ∧ w.cell? ⟨b, off + j * 10 + 2, none⟩ = some (.int .i64 p.n.k) ∧ w.cell? ⟨b, off + j * 10 + 3, none⟩ = some (.int .i64 p.n.i) ∧ w.cell? ⟨b, off + j * 10 + 4, none⟩ = some (.int .i64 p.n.e) ∧
      w.cell? ⟨b, off + j * 10 + 5, none⟩ = some (.int .i64 p.n.s) ∧ w.cell? ⟨b, off + j * 10 + 6, none⟩ = some (.int .i64 p.n.h) ∧ w.cell? ⟨b, off + j * 10 + 7, none⟩ = some (.slice A' p.n.u.length c') ∧ w.cell? ⟨b, off + j * 10 + 8, none⟩ = some (.int .i64 p.a) ∧ w.cell? ⟨b, off + j * 10 + 9, none⟩ = some (.int .i64 p.t)) := by
  obtain ⟨qs, ⟨h1, hn⟩, h2, h3⟩ := h
  have hx : l[j]? = some (l[j]'(by omega)) := List.getElem?_eq_getElem (by omega)
  have hq : qs[j]? = some (qs[j]'(by omega)) := List.getElem?_eq_getElem (by omega)
  obtain ⟨A', c', e, hs⟩ := h3 j _ _ hx hq
  rw [e] at hq
  generalize l[j]'(by omega) = p at *
  have cell : ∀ k (u : Value), k < 10 → (p.cells (.slice A' p.n.u.length c'))[k]? = some u → ∃ b off, A = some ⟨b, off, none⟩ ∧ w.cell? ⟨b, off + j * 10 + k, none⟩ = some u := by
    intro k u hk hu
    obtain ⟨b, off, e, hc⟩ := h2.cells (j * 10 + k) u ((pcs_get hx hq hk).trans hu)
    exact ⟨b, off, e, by rw [Nat.add_assoc]; exact hc⟩
  obtain ⟨b, off, rfl, c0⟩ := cell 0 _ (by omega) rfl
  have more : ∀ k (u : Value), k < 10 → (p.cells (.slice A' p.n.u.length c'))[k]? = some u → w.cell? ⟨b, off + j * 10 + k, none⟩ = some u := by
    intro k u hk hu
    obtain ⟨b', off', e, hc⟩ := cell k u hk hu
    injection e with e; injection e with e1 e2
    subst e1; subst e2
    exact hc
  exact ⟨b, off, p, A', c', rfl, hx, hs, c0, more 1 _ (by omega) rfl, more 2 _ (by omega) rfl, more 3 _ (by omega) rfl, more 4 _ (by omega) rfl, more 5 _ (by omega) rfl, more 6 _ (by omega) rfl, more 7 _ (by omega) rfl, more 8 _ (by omega) rfl, more 9 _ (by omega) rfl⟩
end
end Go.KK

/- nodes: which node is bad; begin; what a longer walk carries. -/
namespace Go.Proofs.YtpkijlmkgomfeaaGreatDoor
open Go.RowKit Go.KK Go.Shelf Go.Maps
set_option linter.unusedVariables false
set_option linter.unusedSimpArgs false

section
variable {W : World} {sa b : Nat} {X : List ND}
end
section
variable {w0 W V V' : World} {Z Z' Z2 : Nat → Prop} {sa bk b3 : Nat} {S S' S2 : KS} {ex cx : Int} {v v' : Value} {l l' : List Int} {P : World → Prop} {bs : List (Nat × Obj)} {X : List ND}
end
end Go.Proofs.YtpkijlmkgomfeaaGreatDoor

