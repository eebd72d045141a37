import Derived.Test.YtekfjcaihocmmaaGreatDoorY12
import Derived.Test.YtekfjcaihocmmaaGreatDoorY10
import Derived.Test.YtekfjcaihocmmaaGreatDoorY03
import Derived.Deep.DeepCutAuto
import Derived.Deep.RegionHeld3
import Derived.Test.YtekfjcaihocmmaaGreatDoorY01
import Derived.ProofKit
import Derived.OpenShut
import Derived.ShutString
import Derived.ChangeOld
import Derived.Deep.Slices
import Derived.Deep.Fields
import Derived.ChangeArms
import Derived.Test.YtekfjcaihocmmaaGreatDoorY05
import Derived.Test.YtekfjcaihocmmaaGreatDoorCards
import Derived.Test.YtekfjcaihocmmaaGreatDoorTie
import Derived.SevenTiedAt
import Derived.Lib.LaidTab
import Derived.Stop.LaidErr
import Derived.LaidMore
import Derived.Lay
import Derived.Handed
import Derived.MakeChecks
/- hashes: HashVouches' four answers. -/
namespace Go.Proofs.YtekfjcaihocmmaaGreatDoor
open Go.RowKit Go.KK Go.Shelf Go.Maps
set_option linter.unusedVariables false
set_option linter.unusedSimpArgs false

theorem half_fact : ∀ x : Nat, x < 511 → wrap64 ((bits .and .i64 ((x : Int) + 1) (bits .xor .i64 (-1) (x : Int))).tdiv 2) = ((if lvl (x : Int) = 0 then 0 else 2 ^ (lvl (x : Int) - 1) : Nat) : Int) := by decide +kernel
theorem atoms_has {e : Int} (h : hasB (atoms 10) e = true) : 0 ≤ e ∧ e < 10 := by
  have := has_iff.1 h
  have hl : (atoms 10).length = 10 := rfl
  rw [hl] at this
  exact ⟨this.1, this.2⟩
theorem enc_ne {e : Int} (h0 : 0 ≤ e) (h1 : e < 10) : (e + 1).tmod 9 ≠ e ∧ 0 ≤ (e + 1).tmod 9 ∧ (e + 1).tmod 9 < 10 := by
  obtain ⟨m, rfl⟩ := Int.eq_ofNat_of_zero_le h0
  have h : ∀ m : Nat, m < 10 → ((m : Int) + 1).tmod 9 ≠ (m : Int) ∧ 0 ≤ ((m : Int) + 1).tmod 9 ∧ ((m : Int) + 1).tmod 9 < 10 := by decide
  exact h m (by omega)
/-- The node with another Enc. -/
def encN (n : TN) : TN := ⟨n.k, n.i, (n.e + 1).tmod 9, n.s, n.h, n.u⟩
theorem tn_set {xs : List TN} {x : Nat} {y : TN} (hx : x < xs.length) : tnF (xs.set x y) x = y := by
  unfold tnF; rw [List.getD_eq_getElem?_getD, List.getElem?_set_self hx]; rfl
theorem few_set {xs : List TN} {x : Nat} {a b : TN} (ha : xs[x]? = some a) (hu : b.u = a.u) (hf : few9 xs = true) : few9 (xs.set x b) = true := by
  have h1 := few_n hf
  unfold few9
  rw [List.length_set, decide_eq_true h1, Bool.true_and, List.all_eq_true]
  intro n hn
  obtain ⟨j, hj, e⟩ := List.getElem_of_mem hn
  have hg : (xs.set x b)[j]? = some n := by rw [← e]; exact List.getElem?_eq_getElem hj
  apply decide_eq_true
  by_cases hz : x = j
  · subst hz
    rw [List.getElem?_set_self (by simpa using hj)] at hg
    injection hg with hg
    rw [← hg, hu]; exact few_u hf ha
  · rw [List.getElem?_set_ne hz] at hg
    exact few_u hf hg
theorem trm_set {X : List ND} {xs : List TN} {x : Nat} {a : TN} (ha : xs[x]? = some a) (hk : a.k = 2) (ht : trmB X xs = true) (he : hasB X ((a.e + 1).tmod 9) = true) : trmB X (xs.set x (encN a)) = true := by
  have hc := trm_chk ht
  unfold trmB
  rw [chk_set (b := encN a) ha rfl rfl rfl rfl (by rw [hk]; decide), hc, Bool.true_and, Bool.not_eq_true']
  rcases hh : (xs.set x (encN a)).any (thnB X) with _ | _
  · rfl
  · obtain ⟨n, hn, h⟩ := List.any_eq_true.1 hh
    obtain ⟨j, hj, e⟩ := List.getElem_of_mem hn
    have hg : (xs.set x (encN a))[j]? = some n := by rw [← e]; exact List.getElem?_eq_getElem hj
    by_cases hz : x = j
    · subst hz
      rw [List.getElem?_set_self (by simpa using hj)] at hg
      injection hg with hg
      obtain ⟨-, h2, -⟩ := trm_at ht ha (by rw [hk]; decide)
      rw [← hg] at h
      unfold thnB encN at h
      simp [hk, he, h2] at h
    · rw [List.getElem?_set_ne hz] at hg
      unfold trmB at ht
      rw [Bool.and_eq_true, Bool.not_eq_true'] at ht
      have := List.any_eq_true.2 ⟨n, List.mem_of_getElem? hg, h⟩
      rw [ht.2] at this; cases this
/-- HashVouches' four answers. -/
theorem hv_plain {xs : List TN} {x : Nat} (ok0 : Okay (atoms 10)) (hf : few9 xs = true) (ht : trmB (atoms 10) xs = true) (hx : x < xs.length) (hk : (tnF xs x).k = 2) :
    ∃ (m : Nat) (X1 : List ND) (v : Int) (X2 : List ND) (u : Int) (X3 : List ND) (v' : Int), m ≤ x ∧ x + m < xs.length ∧ wrap64 ((bits .and .i64 ((x : Int) + 1) (bits .xor .i64 (-1) (x : Int))).tdiv 2) = (m : Int) ∧
      vchF (atoms 10) xs x ((x : Int) - (m : Int)) = (X1, v, 0) ∧ vchF X1 xs x ((x : Int) + (m : Int)) = (X2, u, 0) ∧ vchF X2 xs x (x : Int) = (X2, 0, 1) ∧
      vchF X2 (xs.set x (encN (tnF xs x))) x ((x : Int) - (m : Int)) = (X3, v', 0) ∧ (v' == v) = false ∧ (((tnF xs x).e + 1).tmod 9 == (tnF xs x).e) = false ∧ 0 ≤ (tnF xs x).e ∧ (tnF xs x).e < 10 := by
  have hn := few_n hf
  have ha := tn_get hx
  have hx5 : x < 511 := by omega
  have ho : x % 2 = 1 := by
    rcases Nat.mod_two_eq_zero_or_one x with h | h
    · have h1 := ok_at (trm_chk ht) ha
      unfold okB at h1
      rw [if_neg (by rw [hk]; decide), if_pos (by omega), hk] at h1
      exact absurd h1 (by simp)
    · exact h
  have hfc := (ch_facts x hx5).1
  obtain ⟨k, hkk⟩ : ∃ k, lvl (x : Int) = k + 1 := ⟨lvl (x : Int) - 1, by
    have : lvl (x : Int) ≠ 0 := fun e => by rw [e, ho] at hfc; exact absurd hfc (by decide)
    omega⟩
  obtain ⟨-, h2, -, -⟩ := lvl_kids x hx5 k hkk
  obtain ⟨e1, e2⟩ := lf_nat ho hkk h2
  have hin := chk_in (trm_chk ht) hx
  have ep : 2 ^ lvl (x : Int) = 2 * 2 ^ k := by rw [hkk, Nat.pow_succ]; omega
  rw [ep] at hin
  have e3 : 1 ≤ 2 ^ k := Nat.one_le_two_pow
  have hhf := half_fact x hx5
  rw [if_neg (by omega), hkk, Nat.add_sub_cancel] at hhf
  have hkl : kidL x = [(x : Int) - ((2 ^ k : Nat) : Int), (x : Int) + ((2 ^ k : Nat) : Int)] := by
    unfold kidL
    rw [if_neg (by omega)]
    have : lfN x = (x : Int) - ((2 ^ k : Nat) : Int) := by rw [e1]; omega
    have h' : rgN x = (x : Int) + ((2 ^ k : Nat) : Int) := by rw [e2]; omega
    first
      | rw [this, h']
      | (rw [this]; congr 1; congr 1; omega)
  obtain ⟨t1, t2, -⟩ := trm_at ht ha (by rw [hk]; decide)
  obtain ⟨g0, g1⟩ := atoms_has t1
  obtain ⟨n1, n2, n3⟩ := enc_ne g0 g1
  have hl0 : (atoms 10).length = 10 := rfl
  obtain ⟨a1, a2, a3, a4, M1, a5⟩ := vch_fine (ch := (x : Int) - ((2 ^ k : Nat) : Int)) hf ht ok0 (by rw [hl0]; decide) hx hk (by rw [hkl]; simp)
  rcases hr1 : vchF (atoms 10) xs x ((x : Int) - ((2 ^ k : Nat) : Int)) with ⟨X1, v, z1⟩
  rw [hr1] at a1 a2 a3 a4 a5
  dsimp only at a1 a2 a3 a4 a5
  subst a1
  have ht1 : trmB X1 xs = true := by rw [a5]; exact trm_ext ht M1
  obtain ⟨b1, b2, b3, b4, M2, b5⟩ := vch_fine (ch := (x : Int) + ((2 ^ k : Nat) : Int)) hf ht1 a2 (by omega) hx hk (by rw [hkl]; simp)
  rcases hr2 : vchF X1 xs x ((x : Int) + ((2 ^ k : Nat) : Int)) with ⟨X2, u, z2⟩
  rw [hr2] at b1 b2 b3 b4 b5
  dsimp only at b1 b2 b3 b4 b5
  subst b1
  have ht2 : trmB X2 xs = true := by rw [b5]; exact trm_ext ht1 M2
  have hr3 : vchF X2 xs x (x : Int) = (X2, 0, 1) := by
    unfold vchF
    rw [if_neg]
    unfold vchB
    rw [Int.toNat_natCast, hkl]
    have hp : (1 : Int) ≤ ((2 ^ k : Nat) : Int) := by omega
    generalize ((2 ^ k : Nat) : Int) = q at hp
    have : ([(x : Int) - q, (x : Int) + q] : List Int).contains (x : Int) = false := by
      rcases hh : ([(x : Int) - q, (x : Int) + q] : List Int).contains (x : Int) with _ | _
      · rfl
      · have := List.contains_iff_mem.1 hh
        simp only [List.mem_cons, List.mem_nil_iff, or_false] at this
        omega
    rw [this, Bool.and_false]; decide
  have hb2 : hasB X2 (((tnF xs x).e + 1).tmod 9) = true := has_iff.2 ⟨n2, by rw [b5, a5]; simp [hl0]; omega⟩
  have ht3 : trmB X2 (xs.set x (encN (tnF xs x))) = true := trm_set ha hk ht2 hb2
  obtain ⟨c1, c2, c3, c4, M3, c5⟩ := vch_fine (xs := xs.set x (encN (tnF xs x))) (x := x) (ch := (x : Int) - ((2 ^ k : Nat) : Int)) (few_set ha rfl hf) ht3 b2 (by omega) (by simpa using hx) (by rw [tn_set hx]; exact hk) (by rw [hkl]; simp)
  rw [tn_set hx] at c4
  rcases hr4 : vchF X2 (xs.set x (encN (tnF xs x))) x ((x : Int) - ((2 ^ k : Nat) : Int)) with ⟨X3, v', z3⟩
  rw [hr4] at c1 c2 c3 c4 c5
  dsimp only at c1 c2 c3 c4 c5
  subst c1
  refine ⟨2 ^ k, X1, v, X2, u, X3, v', h2, by omega, hhf, hr1, hr2, hr3, hr4, beq_eq_false_iff_ne.2 fun e => ?_, beq_eq_false_iff_ne.2 n1, g0, g1⟩
  have a6 : VoAt X3 v (tnF xs x).e (tnF xs x).h := by rw [c5, b5]; exact (a4.ext M2).ext M3
  rw [e] at c4
  exact n1 (c4.eq a6).1
end Go.Proofs.YtekfjcaihocmmaaGreatDoor

/- the reference of layer 7: Members; the law's few. -/
namespace Go.Proofs.YtekfjcaihocmmaaGreatDoor
open Go.RowKit Go.KK Go.Shelf
set_option linter.unusedVariables false
set_option linter.unusedSimpArgs false

/-- A value that reads as a tree. -/
def TrV (w : World) (v : Value) (xs : List TN) : Prop := ∃ A n c, v = .slice A n c ∧ Tr w A n c xs
theorem TrV.ext {w w' : World} {v : Value} {xs : List TN} (h : TrV w v xs) (hb : Below w.heap.size w w') : TrV w' v xs := by
  obtain ⟨A, n, c, e, ht⟩ := h
  exact ⟨A, n, c, e, ht.ext hb⟩
end Go.Proofs.YtekfjcaihocmmaaGreatDoor

/- the reference of layer 7: Copy. -/
namespace Go.Proofs.YtekfjcaihocmmaaGreatDoor
open Go.RowKit Go.KK Go.Shelf
set_option linter.unusedVariables false
set_option linter.unusedSimpArgs false

/-- A copy whose lists are rows of its own. -/
structure CpS (base : Nat) (wr : World) (v : Value) (xs : List TN) (rs : List Value) : Prop where
  ql : rs.length = xs.length
  row : wr.ownsRow base 37 6 v xs.length (ncs xs rs)
  new : ∀ (k : Nat) x q, xs[k]? = some x → rs[k]? = some q → wr.ownsRow base 3 1 q x.u.length (x.u.map (.int .i64)) ∧ (q.ownBlock = none ∨ q.ownBlock ≠ v.ownBlock)
  apart : ∀ (i k : Nat) p q b, rs[i]? = some p → rs[k]? = some q → p.ownBlock = some b → q.ownBlock = some b → i = k
theorem CpS.nil (base : Nat) (w : World) : CpS base w (.slice none 0 0) [] [] := ⟨rfl, World.ownsRow_nil _ _ _ _, fun k x q h => by simp at h, fun i k p q b h => by simp at h⟩
theorem app_get {α : Type} {l : List α} {y z : α} {k : Nat} (h : (l ++ [y])[k]? = some z) : (k < l.length ∧ l[k]? = some z) ∨ (k = l.length ∧ z = y) := by
  by_cases hk : k < l.length
  · rw [List.getElem?_append_left hk] at h; exact .inl ⟨hk, h⟩
  · by_cases hkl : k = l.length
    · subst hkl
      rw [List.getElem?_append_right (Nat.le_refl _), Nat.sub_self] at h
      injection h with h
      exact .inr ⟨rfl, h.symm⟩
    · rw [List.getElem?_eq_none (by simp; omega)] at h; cases h
theorem CpS.snoc {base : Nat} {wr w2 W : World} {v v' q : Value} {xs : List TN} {rs : List Value} {x : TN} (h : CpS base wr v xs rs) (hb : Below wr.heap.size wr w2) (hbase : base ≤ wr.heap.size)
    (hq : w2.ownsRow wr.heap.size 3 1 q x.u.length (x.u.map (.int .i64))) (hg : w2.grownBy W v.ownBlock) (hv : v'.ownBlock = v.ownBlock ∨ v'.ownBlock = some w2.heap.size) (hrow : W.ownsRow base 37 6 v' (xs.length + 1) (ncs xs rs ++ x.cells q)) :
    CpS base W v' (xs ++ [x]) (rs ++ [q]) := by
  have hvlt : ∀ b, v.ownBlock = some b → b < wr.heap.size := fun b e => (h.row.lt b e).2
  have hqge : ∀ b, q.ownBlock = some b → wr.heap.size ≤ b ∧ b < w2.heap.size := fun b e => hq.lt b e
  have hz := hb.size
  refine ⟨by simp [h.ql], ?_, fun k y p hy hp => ?_, fun i k p r b hp hr h1 h2 => ?_⟩
  · rw [ncs_app h.ql rfl, List.length_append]
    have : ncs [x] [q] = x.cells q := by unfold ncs; simp
    rw [this]
    exact hrow
  · rcases app_get hy with ⟨hk, hy'⟩ | ⟨hk, rfl⟩
    · rcases app_get hp with ⟨_, hp'⟩ | ⟨hk2, _⟩
      · obtain ⟨o1, o2⟩ := h.new k y p hy' hp'
        refine ⟨(own_ext o1 hb).kept hg o2, ?_⟩
        rcases o2 with o2 | o2
        · exact .inl o2
        · rcases hv with e | e
          · rw [e]; exact .inr o2
          · refine .inr fun e2 => ?_
            rw [e] at e2
            have := (o1.lt _ e2).2
            omega
      · have := h.ql; omega
    · rcases app_get hp with ⟨hk2, _⟩ | ⟨_, rfl⟩
      · have := h.ql; omega
      · refine ⟨(own_mono hq hbase).kept hg ?_, ?_⟩
        · rcases hb2 : p.ownBlock with _ | b
          · exact .inl rfl
          · refine .inr fun e => ?_
            have h1 := hvlt b e.symm
            have h2 := (hqge b hb2).1
            omega
        · rcases hb2 : p.ownBlock with _ | b
          · exact .inl rfl
          · refine .inr fun e => ?_
            have h2 := hqge b hb2
            rcases hv with e3 | e3
            · rw [e3] at e
              have h1 := hvlt b e.symm
              omega
            · rw [e3] at e; injection e with e; omega
  · rcases app_get hp with ⟨hk, hp'⟩ | ⟨hk, rfl⟩
    · rcases app_get hr with ⟨hk2, hr'⟩ | ⟨hk2, rfl⟩
      · exact h.apart i k p r b hp' hr' h1 h2
      · have hx : xs[i]? = some (xs[i]'(by have := h.ql; omega)) := List.getElem?_eq_getElem _
        have a := ((h.new i _ p hx hp').1.lt b h1).2
        have b2 := (hqge b h2).1
        omega
    · rcases app_get hr with ⟨hk2, hr'⟩ | ⟨hk2, rfl⟩
      · have hx : xs[k]? = some (xs[k]'(by have := h.ql; omega)) := List.getElem?_eq_getElem _
        have a := ((h.new k _ r hx hr').1.lt b h2).2
        have b2 := (hqge b h1).1
        omega
      · omega
theorem CpS.ext {base : Nat} {wr w2 : World} {v : Value} {xs : List TN} {rs : List Value} (h : CpS base wr v xs rs) (hb : Below wr.heap.size wr w2) : CpS base w2 v xs rs :=
  ⟨h.ql, own_ext h.row hb, fun k x q hx hq => ⟨own_ext (h.new k x q hx hq).1 hb, (h.new k x q hx hq).2⟩, h.apart⟩
theorem new_frozen {w w2 : World} {xs : Array Value} {t : TypeId} (hb : Below (w.alloc (.cells xs t)).heap.size (w.alloc (.cells xs t)) w2) (i : Nat) : w2.frozen? ⟨w.heap.size, i, none⟩ = false := by
  rw [hb.frozen (p := ⟨w.heap.size, i, none⟩) (by rw [World.size_alloc]; exact Nat.lt_succ_self _), World.frozen?_alloc_at xs t _ i rfl]
theorem cp_below {wr w3 : World} {o : Obj} (h : Below wr.heap.size wr (wr.alloc o)) (hb : Below (wr.alloc o).heap.size (wr.alloc o) w3) (v : Value) : Below wr.heap.size wr (w3.setCell ⟨wr.heap.size, 5, none⟩ v) :=
  (h.trans (hb.mono (by simp))).setCell (Nat.le_refl _) v
theorem cp_own {wr w3 : World} {o : Obj} {e : TypeId} {v u : Value} {n : Nat} {xs : List Value} (h : w3.ownsRow (wr.alloc o).heap.size e 1 v n xs) : (w3.setCell ⟨wr.heap.size, 5, none⟩ u).ownsRow wr.heap.size e 1 v n xs := by
  refine (own_mono h (by simp)).kept (row := some wr.heap.size) (grown_setCell (World.grownBy.refl _ _) rfl u) ?_
  rcases hb : v.ownBlock with _ | b
  · exact .inl rfl
  · refine .inr fun e => ?_
    injection e with e
    have := (h.lt b hb).1
    rw [World.size_alloc] at this
    omega
theorem sla_lit6 {w : World} {T : TypeId} (b : Nat) (hb : b = w.heap.size) (a0 a1 a2 a3 a4 a5 : Value) : SlA (w.alloc (.cells #[a0, a1, a2, a3, a4, a5] T)) 6 (some ⟨b, 0, none⟩) 1 1 [a0, a1, a2, a3, a4, a5] :=
  ⟨Nat.le_refl _, by decide, rfl, fun j u hj => ⟨b, 0, rfl, by rw [World.cell?_alloc_at _ _ _ _ hb, Nat.zero_add]; simpa using hj⟩⟩
theorem cp_row {base : Nat} {wr : World} {v : Value} {xs : List TN} {rs : List Value} {j : Nat} (h : CpS base wr v xs rs) (hj : xs.length = j) : wr.ownsRow base 37 6 v j (ncs xs rs) := by
  subst hj; exact h.row
theorem cells_one (x : TN) (A : Option Addr) (n c : Nat) : ∀ u ∈ x.cells (.slice A n c), u.oneCell' = true := by
  intro u hu
  simp only [TN.cells, List.mem_cons, List.not_mem_nil, or_false] at hu
  rcases hu with rfl | rfl | rfl | rfl | rfl | rfl <;> rfl
set_option maxHeartbeats 2000000 in
set_option maxRecDepth 100000 in
theorem copy_any (A : Option Addr) (n c : Nat) (xs : List TN) (w : World) (h : Tr w A n c xs) (hnm : n ≤ 600) (hu : Shorts xs) :
    Calls Tryz.prog 28 #[.slice A n c] w fun e w' => ∃ v rs, e = .returned v ∧ CpS w.heap.size w' v xs rs ∧ Below w.heap.size w w' := by
  have H := hid h; have HU := hid hu
  have HL := hid h.len
  clear h hu
  obtain ⟨i0, hi, hz0, hz1, hz2⟩ := info_parts Tryz.infoTN
  obtain ⟨i1, hi1, hy0, hy1, hy2⟩ := info_parts Tryz.infoInt
  go_enter Tryz.func28, Tryz.ntmps28
  go_wp2
  go_loopw [8, 3] (fun i v wr => ∃ (j : Nat) (rs : List Value), i = .int .i64 j ∧ j ≤ n ∧ CpS w.heap.size wr v (xs.take j) rs ∧ Below w.heap.size w wr) (fun i _ _ => n - (intOf i).toNat)
  case atStart => exact ⟨0, [], rfl, by omega, CpS.nil _ _, Below.refl _ _⟩
  case round =>
    obtain ⟨j, rs, hi, hj, hcp, hbr⟩ := hrel
    subst hi
    have HB := hid hbr; clear hbr
    by_cases hlt : j < n
    · obtain ⟨b0, o0, q, Aq, cq, rfl, hq, c0, c1, c2, c3, c4, c5, hsq⟩ := (H.out.ext HB.out).at hlt
      have hqu := HU.out _ _ hq
      have HT := hid (take_get hq)
      have hzr := HB.out.size
      have HCP := hid hcp
      have hlj : (xs.take j).length = j := by rw [List.length_take, HL.out]; omega
      have HLJ := hid hlj
      have hsq2 := hsq.alloc (.cells #[.int .i64 q.k, .int .i64 q.i, .int .i64 q.e, .int .i64 q.s, .int .i64 q.h, .slice Aq q.u.length cq] 37)
      have HSQ := hid hsq2
      have hb1 : Below wr.heap.size wr (wr.alloc (.cells #[.int .i64 q.k, .int .i64 q.i, .int .i64 q.e, .int .i64 q.s, .int .i64 q.h, .slice Aq q.u.length cq] 37)) := (Below.refl _ _).alloc (Nat.le_refl _) _
      have HB1 := hid hb1
      clear hq hcp hsq hsq2 hb1 hlj
      have hj600 : (j + 1) * 64 ≤ 140737488355328 := by omega
      have hml : j + 1 ≤ maxLen := by unfold maxLen; omega
      go_wp2_with (first
        | (at_builtin; refine wpList_append_new _ rfl _ _ 30 rfl 3 i1 (.int .i64 0) 1 8 Tryz.underlying30 hi1 hy0 hy1 hy2 rfl (by decide) rfl Aq q.u.length cq _ rfl HSQ.out (ints_one _ _) (by unfold maxLen; omega) (by omega) ?_; intro v3 w3 hown3 hb3; obtain ⟨A3, c3, rfl⟩ := own_shape hown3; have k0 := new_cell hb3 0; have k1 := new_cell hb3 1; have k2 := new_cell hb3 2; have k3 := new_cell hb3 3; have k4 := new_cell hb3 4; have k5 := new_cell hb3 5; have f5 := new_frozen hb3 5; have hbS := hid (cp_below HB1.out hb3 (Value.slice A3 q.u.length c3)); have hoS := hid (cp_own (u := .slice A3 q.u.length c3) hown3); have hzS := hid (below_new (Below.refl _ _) (Nat.le_refl _) hb3).2; have HG := hid (cp_row (HCP.out.ext (hbS.out.alloc hbS.out.size (.cells #[.int .i64 q.k, .int .i64 q.i, .int .i64 q.e, .int .i64 q.s, .int .i64 q.h, .slice A3 q.u.length c3] 37))) HLJ.out); have HGZ := hid (Nat.le_trans hzr (hbS.out.alloc hbS.out.size (.cells #[.int .i64 q.k, .int .i64 q.i, .int .i64 q.e, .int .i64 q.s, .int .i64 q.h, .slice A3 q.u.length c3] 37)).size); have HL6 := hid (sla_lit6 (w := w3.setCell ⟨wr.heap.size, 5, none⟩ (.slice A3 q.u.length c3)) (T := 37) w3.heap.size (by simp) (.int .i64 q.k) (.int .i64 q.i) (.int .i64 q.e) (.int .i64 q.s) (.int .i64 q.h) (.slice A3 q.u.length c3)); have HO6 := hid (cells_one q A3 q.u.length c3); clear hown3 hb3)
        | (at_builtin; refine wpList_append_sl _ rfl _ _ 22 rfl w.heap.size 37 i0 _ 6 64 Tryz.underlying22 hi hz0 hz1 hz2 rfl (by decide) _ j _ rfl HG.out _ 1 1 (q.cells (.slice A3 q.u.length c3)) rfl HL6.out HO6.out hml hj600 HGZ.out ?_; intro v4 w4 hown4 hg4 hv4))
      go_roundw
      case rel =>
        have hbW := hbS.out.alloc hbS.out.size (.cells #[.int .i64 q.k, .int .i64 q.i, .int .i64 q.e, .int .i64 q.s, .int .i64 q.h, .slice A3 q.u.length c3] 37)
        have hcp := HCP.out.snoc (x := q) hbW hzr ((hoS.out).alloc _) hg4 hv4 (by rw [HLJ.out]; exact hown4)
        refine ⟨j + 1, rs ++ [.slice A3 q.u.length c3], by go_num, by omega, by rw [HT.out]; exact hcp, ?_⟩
        exact (HB.out.trans (hbW.mono hzr)).grown hg4 (by have := hbW.size; omega) (fun k hk => (HCP.out.row.lt k hk).1)
      case measure => simp [intOf]; omega
    · have HJ := hid (show xs.take j = xs from List.take_of_length_le (by have := HL.out; omega))
      have HCP := hid hcp
      clear hcp
      go_wp2
      go_ret
      have := HCP.out
      rw [HJ.out] at this
      exact ⟨_, rs, rfl, this, HB.out⟩
end Go.Proofs.YtekfjcaihocmmaaGreatDoor

/- hashes: another Enc laid into a copy of the tree; what stays. -/
namespace Go.Proofs.YtekfjcaihocmmaaGreatDoor
open Go.RowKit Go.KK Go.Shelf Go.Maps
set_option linter.unusedVariables false
set_option linter.unusedSimpArgs false

theorem wft_of {t : List TN} (h : ∀ m ∈ t, TnI m) : WfT t := fun j x hx => by
  obtain ⟨a1, a2, a3, a4, a5, -⟩ := h x (List.mem_of_getElem? hx)
  unfold W64
  exact ⟨⟨a1.1, by have := a1.2; omega⟩, ⟨a2.1, by have := a2.2; omega⟩, ⟨a3.1, by have := a3.2; omega⟩, ⟨a4.1, by have := a4.2; omega⟩, ⟨a5.1, by have := a5.2; omega⟩⟩
section
variable {w W W2 : World} {Z : Nat → Prop} {sa g : Nat} {X : List ND} {P : World → Prop}
/-- What is elder than the call: no step of the arena reaches it. -/
theorem fx9_trp (la : LA w W Z sa X) {A : Option Addr} {n c : Nat} {t : List TN} {qs : List Value} (h : TrP A n c t qs w) : Fx W Z (TrP A n c t qs) :=
  ⟨fun b => b < w.heap.size, fun b hb => ⟨fun hz => by have := la.z b hz; omega, Nat.lt_of_lt_of_le hb la.sz⟩, fun V hv => by
    have keep : ∀ b o u, w.cell? ⟨b, o, none⟩ = some u → V.cell? ⟨b, o, none⟩ = some u := fun b o u hc => by
      rw [World.cell?_of_block (a := ⟨b, o, none⟩) ((hv b (block_lt_of_cell hc)).trans (la.bl.block b (block_lt_of_cell hc)))]; exact hc
    exact ⟨h.1, h.2.1.keep keep, fun j x q hx hq => (h.2.2 j x q hx hq).keep keep⟩⟩
theorem fx9_set (h : Fx W Z P) (hb : Below W.heap.size W W2) (hg : W.heap.size ≤ g) (o : Nat) (v : Value) : Fx (W2.setCell ⟨g, o, none⟩ v) Z P := by
  obtain ⟨R, h1, h2⟩ := h
  have hs : (W2.setCell ⟨g, o, none⟩ v).heap.size = W2.heap.size := by simp
  refine ⟨R, fun b hr => ⟨(h1 b hr).1, by rw [hs]; exact Nat.lt_of_lt_of_le (h1 b hr).2 hb.size⟩, fun V hv => h2 V fun b hr => ?_⟩
  rw [hv b hr, heap_setCell_other _ ⟨g, o, none⟩ b _ (by have := (h1 b hr).2; show b ≠ g; omega)]
  exact hb.block b (h1 b hr).2
end
/-- Another Enc stored into a copy. -/
theorem cp_enc {base : Nat} {wr : World} {v : Value} {xs : List TN} {rs : List Value} {Z : Nat → Prop} (h : CpS base wr v xs rs) {i : Nat} {x : TN} (hi : xs[i]? = some x) (hz : ∀ b, Z b → b < base) (e' : Int) (he : e' = (x.e + 1).tmod 9) :
    ∃ g cap qs, v = .slice (some ⟨g, 0, none⟩) xs.length cap ∧ base ≤ g ∧ g < wr.heap.size ∧ wr.frozen? ⟨g, i * 6 + 2, none⟩ = false ∧ wr.cell? ⟨g, i * 6 + 2, none⟩ = some (.int .i64 x.e) ∧
      Fx (wr.setCell ⟨g, i * 6 + 2, none⟩ (.int .i64 e')) Z (TrP (some ⟨g, 0, none⟩) xs.length cap (xs.set i (encN x)) qs) := by
  have hil : i < xs.length := by rcases Nat.lt_or_ge i xs.length with h | h; exact h; rw [List.getElem?_eq_none h] at hi; cases hi
  obtain ⟨p, hp⟩ : ∃ p, rs[i]? = some p := ⟨_, List.getElem?_eq_getElem (by rw [h.ql]; exact hil)⟩
  rcases h.row.2 with ⟨_, e⟩ | ⟨g, cap, cur, e, hbg, hg, _⟩
  · omega
  · subst e
    have r0 := (h.row.stored (i * 6 + 2) (.int .i64 e')).1
    rw [ncs_set1 h.ql hi hp (by decide) (y := encN x) (q := p) (.int .i64 e') (by rw [he]; rfl)] at r0
    refine ⟨g, cap, rs.set i p, rfl, hbg, (Array.getElem?_eq_some_iff.1 hg).1, h.row.frozenAt _, ?_, ?_⟩
    · have := h.row.cells (g := g) rfl (i * 6 + 2) _ ((ncs_get hi hp (by decide)).trans rfl)
      rw [add_lit, Nat.zero_add] at this
      exact this
    · refine ⟨fun b => b = g ∨ ∃ (j : Nat) (x : TN) (q : Value), xs[j]? = some x ∧ rs[j]? = some q ∧ q.ownBlock = some b, fun b hb => ?_, fun V hV => ?_⟩
      · rcases hb with rfl | ⟨j, x, q, hx, hq, hb⟩
        · exact ⟨fun hz' => by have := hz b hz'; omega, r0.lt b rfl |>.2⟩
        · obtain ⟨o1, o2⟩ := h.new j x q hx hq
          have := o1.lt b hb
          exact ⟨fun hz' => by have := hz b hz'; omega, by simp; exact this.2⟩
      · have hin : ∀ (j : Nat) (x : TN) q, xs[j]? = some x → rs[j]? = some q → In1 V q x.u := fun j x q hx hq => by
          obtain ⟨o1, o2⟩ := h.new j x q hx hq
          have o3 : V.ownsRow base 3 1 q x.u.length (x.u.map (.int .i64)) := own_block o1 fun b hb => by
            rw [hV b (.inr ⟨j, x, q, hx, hq, hb⟩)]
            have hbg2 : b ≠ g := fun e => by
              rcases o2 with o2 | o2
              · rw [o2] at hb; cases hb
              · exact o2 (by rw [hb, e]; rfl)
            rw [heap_setCell_other _ ⟨g, i * 6 + 2, none⟩ b _ hbg2]
          obtain ⟨A2, c2, rfl, hs2⟩ := SlA.owned o3
          exact ⟨A2, c2, rfl, hs2⟩
        refine ⟨by simp [h.ql], (SlA.of_own (own_block r0 (fun b hb => hV b (.inl (by injection hb with hb; exact hb.symm))))).2, fun j z q hx hq => ?_⟩
        by_cases hji : i = j
        · subst hji
          rw [List.getElem?_set_self hil] at hx
          rw [List.getElem?_set_self (by rw [h.ql]; exact hil)] at hq
          injection hx with hx; injection hq with hq
          subst hx; subst hq
          exact hin i x p hi hp
        · rw [List.getElem?_set_ne hji] at hx hq
          exact hin j z q hx hq
end Go.Proofs.YtekfjcaihocmmaaGreatDoor

/- hashes: HashVouches walked. -/
namespace Go.Proofs.YtekfjcaihocmmaaGreatDoor
open Go.RowKit Go.KK Go.Shelf Go.Maps
set_option linter.unusedVariables false
set_option linter.unusedSimpArgs false

set_option maxHeartbeats 8000000 in
set_option maxRecDepth 100000 in
theorem vouches_go (A : Option Addr) (n c : Nat) (t : List TN) (x : Int) (w : World) (ht : Tr w A n c t) (hti : ∀ m ∈ t, TnI m) (hx : I64 x) (hT : Tb w.heap.size w) (hB : Tab w) :
    Calls Tryz.prog 6 #[.slice A n c, .int .i64 x] w fun e w' => e = .returned (.bool true) ∧ Below w.heap.size w w' := by
  have HT := hid hT; have HTR := hid ht; have HTI := hid hti; have HX := hid hx
  have HTB := hid (fun (U : World) (hU : Below w.heap.size w U) => (show Tab U from hB.ext hU))
  have HTL := hid ht.len
  have hnc := ht.nc
  have hnm : n ≤ 9223372036854775807 := by have := hnc.1; have := hnc.2; unfold maxLen at *; omega
  have HLV := hid (live9_any w hT HTB.out)
  have HWF := hid (wft_of hti)
  clear hT ht hti hnc hx hB
  go_enter Tryz.func6, Tryz.ntmps6
  go_wp2_with fail
  refine HLV.out.mono ?_
  rintro e w1 ⟨rfl, b1⟩
  have HB1 := hid b1
  have HTR1 := hid (HTR.out.ext b1)
  have HFW := hid (lfew9_any (some ⟨w1.heap.size, 0, none⟩) 1 1 [.slice A n c] [t] (w1.alloc (.cells #[.slice A n c] 22)) (SlA.lit1 _) rfl (by decide) (fun j v xs hv hx => by
    rcases j with _ | j
    · injection hv with hv; injection hx with hx; subst hv; subst hx
      exact ⟨A, n, c, rfl, HTR1.out.alloc _⟩
    · simp at hv))
  have HB1a := hid (HB1.out.alloc HB1.out.size (.cells #[.slice A n c] 22))
  clear b1 HLV
  rcases hfw : [t].all few9 with _ | _
  · rw [hfw] at HFW
    clear hfw
    go_wp2_with fail
    refine HFW.out.mono ?_
    rintro e w2 ⟨rfl, b2⟩
    have HB2 := hid (HB1a.out.trans (b2.mono HB1a.out.size))
    clear b2 HFW
    go_wp2_with fail
    go_ret
    exact ⟨rfl, HB2.out⟩
  rw [hfw] at HFW
  have HF9 := hid (List.all_eq_true.1 hfw t (by simp))
  have hn70 : n ≤ 70 := by have := few_n HF9.out; rw [HTL.out] at this; exact this
  clear hfw
  go_wp2_with fail
  refine HFW.out.mono ?_
  rintro e w2 ⟨rfl, b2⟩
  have HB2 := hid (HB1a.out.trans (b2.mono HB1a.out.size))
  have HTR2 := hid (HTR1.out.ext (((Below.refl _ _).alloc (Nat.le_refl _) _).trans (b2.mono (by simp))))
  clear b2 HFW HB1 HB1a HTR1 HTR
  have HSH := hid (show Shorts t from fun j q hq => by have := few_u HF9.out hq; omega)
  have HCK := hid (rchk_any A n c t w2 HTR2.out (by omega) HSH.out HWF.out)
  rcases hck : chkB t with _ | _
  · rw [show chkE t = 1 by unfold chkE; rw [hck]; rfl] at HCK
    clear hck
    go_wp2_with fail
    refine HCK.out.mono ?_
    rintro e w3 ⟨rfl, b3⟩
    have HB3 := hid (HB2.out.trans (b3.mono HB2.out.size))
    clear b3 HCK
    go_wp2_with fail
    go_ret
    exact ⟨rfl, HB3.out⟩
  rw [show chkE t = 0 by unfold chkE; rw [hck]; rfl] at HCK
  have HC := hid hck
  clear hck
  by_cases hx0 : x < 0
  · go_wp2_with fail
    refine HCK.out.mono ?_
    rintro e w3 ⟨rfl, b3⟩
    have HB3 := hid (HB2.out.trans (b3.mono HB2.out.size))
    clear b3 HCK
    go_wp2_with fail
    go_ret
    exact ⟨rfl, HB3.out⟩
  by_cases hx1 : (n : Int) ≤ x
  · go_wp2_with fail
    refine HCK.out.mono ?_
    rintro e w3 ⟨rfl, b3⟩
    have HB3 := hid (HB2.out.trans (b3.mono HB2.out.size))
    clear b3 HCK
    go_wp2_with fail
    go_ret
    exact ⟨rfl, HB3.out⟩
  obtain ⟨x, rfl⟩ := Int.eq_ofNat_of_zero_le (show 0 ≤ x by omega)
  have hxn : x < n := by omega
  have hxi : (x : Int) < (n : Int) := by omega
  obtain ⟨b, off, rfl⟩ := tr_some HTR2.out (by omega)
  have HND := hid (fun (U : World) (hU : Tr U (some ⟨b, off, none⟩) n c t) => (show U.cell? ⟨b, off + x * 6, none⟩ = some (.int .i64 (tnF t x).k) ∧ U.cell? ⟨b, off + x * 6 + 2, none⟩ = some (.int .i64 (tnF t x).e) from by
    obtain ⟨b1, o1, y, A2, c2, e1, hy, d0, d1, d2, -⟩ := hU.at hxn
    injection e1 with e1; injection e1 with e1 e2
    subst e1; subst e2
    unfold tnF
    rw [List.getD_eq_getElem?_getD, hy]
    exact ⟨d0, d2⟩))
  clear hx0 hx1
  by_cases hk : (tnF t x).k = 2
  case neg =>
    have hk' : ((tnF t x).k != 2) = true := bne_iff_ne.2 hk
    clear hk
    generalize tnF t x = y at *
    go_wp2_with fail
    refine HCK.out.mono ?_
    rintro e w3 ⟨rfl, b3⟩
    have HB3 := hid (HB2.out.trans (b3.mono HB2.out.size))
    obtain ⟨d0, -⟩ := HND.out w3 (HTR2.out.ext b3)
    clear b3 HCK
    go_wp2_with fail
    go_ret
    exact ⟨rfl, HB3.out⟩
  have HK := hid hk
  obtain ⟨y, hy⟩ : ∃ y, y = tnF t x := ⟨_, rfl⟩
  rw [← hy] at hk HND
  have HY := hid hy
  clear hy
  have hk' : (y.k != 2) = false := by rw [hk]; rfl
  clear hk
  go_wp2_with fail
  refine HCK.out.mono ?_
  rintro e w3 ⟨rfl, b3⟩
  have HB3 := hid (HB2.out.trans (b3.mono HB2.out.size))
  have HTR3 := hid (HTR2.out.ext b3)
  obtain ⟨d0, -⟩ := HND.out w3 HTR3.out
  clear b3 HCK HB2 HTR2
  go_wp2_with fail
  refine (two9_any w3 (Tb.up (HT.out.on HB3.out) HB3.out.size)).mono ?_
  rintro e w4 ⟨sa, sb, Z, Z', rfl, htw⟩
  have HTW := hid htw
  have HTR4 := hid (HTR3.out.ext (show Below w3.heap.size w3 w4 from htw.bl))
  have HTT := hid (rterms9_any sb (atoms 10) _ n c t w4 htw.b.vw HTR4.out (by omega) HSH.out HWF.out)
  clear htw d0
  rcases htm : trmB (atoms 10) t with _ | _
  · rw [htm] at HTT
    clear htm
    go_wp2_with fail
    refine HTT.out.mono ?_
    rintro e w5 ⟨rfl, b5⟩
    have HB5 := hid ((HB3.out.trans (HTW.out.bl.mono HB3.out.size)).trans (b5.mono (Nat.le_trans HB3.out.size HTW.out.bl.size)))
    clear b5 HTT
    go_wp2_with fail
    go_ret
    exact ⟨rfl, HB5.out⟩
  rw [htm] at HTT
  have HTM := hid htm
  clear htm
  go_wp2_with fail
  refine HTT.out.mono ?_
  rintro e w5 ⟨rfl, b5⟩
  have HL0 := hid (show LA w3 w5 Z sa (atoms 10) from HTW.out.la.ext b5)
  have HTR5 := hid (HTR4.out.ext b5)
  clear b5 HTT HTW HTR4
  go_upto_region 9 with fail
  have hm : x < t.length := by have := HTL.out; omega
  obtain ⟨m, X1, v, X2, u, X3, v', p1, p2, p3, q1, q2, q3, q4, q5, q6, q7, q8⟩ := hv_plain HL0.out.ar.ok HF9.out HTM.out hm HK.out
  rw [← HY.out] at q4 q6 q7 q8
  have hmi : (m : Int) ≤ (x : Int) := by omega
  have hxm : (x : Int) + (m : Int) < 70 := by have := HTL.out; omega
  have Q1 := hid q1; have Q2 := hid q2; have Q3 := hid q3; have Q4 := hid q4; have Q7 := hid (And.intro q7 q8); have P3 := hid p3
  obtain ⟨qs, hqs⟩ := HTR3.out
  have HFX := hid (fx9_trp HL0.out hqs)
  have HT3 := hid (Tb.up (HT.out.on HB3.out) HB3.out.size)
  have HTB3 := hid (fun (U : World) (hU : Below w3.heap.size w3 U) => (show Tab U from HTB.out U (HB3.out.trans (hU.mono HB3.out.size))))
  have HU := hid (show ∀ y ∈ t, y.u.length ≤ 1000 from fun y hy => by
    obtain ⟨j, hj, e⟩ := List.getElem_of_mem hy
    have := few_u HF9.out (j := j) (n := y) (by rw [← e]; exact List.getElem?_eq_getElem hj)
    omega)
  have HV1 := hid (l_vouch HL0.out HT3.out HTB3.out HFX.out (by omega) HTI.out HU.out (x : Int) ((x : Int) - (m : Int)))
  unfold LrS at HV1
  rw [Q1.out] at HV1
  rw [show wrap64 ((bits BinOp.and IntKind.i64 ((x : Int) + 1) (bits BinOp.xor IntKind.i64 (if IntKind.i64.signed = true then -1 else 9223372036854775807) (x : Int))).tdiv 2) = (m : Int) from P3.out]
  clear q1 q2 q3 q4 q7 q8 p1 p2 p3 hqs hm HTR3
  go_wp2_with fail
  refine HV1.out.mono ?_
  rintro e w6 ⟨Z6, rfl, l6, m6⟩
  have L6 := hid l6; have F6 := hid (HFX.out.mv m6)
  have HV2 := hid (l_vouch l6 HT3.out HTB3.out F6.out (by omega) HTI.out HU.out (x : Int) ((x : Int) + (m : Int)))
  unfold LrS at HV2
  try dsimp only at L6
  try dsimp only at HV2
  rw [Q2.out] at HV2
  clear l6 m6 HV1 HL0 HFX
  go_wp2_with fail
  refine HV2.out.mono ?_
  rintro e w7 ⟨Z7, rfl, l7, m7⟩
  have L7 := hid l7; have F7 := hid (F6.out.mv m7)
  have HV3 := hid (l_vouch l7 HT3.out HTB3.out F7.out (by omega) HTI.out HU.out (x : Int) (x : Int))
  unfold LrS at HV3
  try dsimp only at L7
  try dsimp only at HV3
  rw [Q3.out] at HV3
  clear l7 m7 HV2 L6 F6
  go_wp2_with fail
  refine HV3.out.mono ?_
  rintro e w8 ⟨Z8, rfl, l8, m8⟩
  have L8 := hid l8; have F8 := hid (F7.out.mv m8)
  try dsimp only at L8
  have HCP := hid (copy_any (some ⟨b, off, none⟩) n c t w8 F8.out.here.tr (by omega) HSH.out)
  clear l8 m8 HV3 L7 F7
  go_wp2_with fail
  refine HCP.out.mono ?_
  rintro e w9 ⟨v5, rs, rfl, hcp, b9⟩
  have HYG := hid (show t[x]? = some y from by rw [HY.out]; exact tn_get (by have := HTL.out; omega))
  obtain ⟨g, cap, qs', rfl, hbg, hg, hfz, hcl, hfx⟩ := cp_enc (Z := Z8) hcp HYG.out L8.out.ar.zlt ((y.e + 1).tmod 9) rfl
  have L9 := hid (LA.put1 (L8.out.ext b9) (b := g) (o := x * 6 + 2) (.int .i64 ((y.e + 1).tmod 9)) (fun hz => by have := L8.out.ar.zlt _ hz; omega) (by have := L8.out.bl.size; omega))
  have F9 := hid (fx9_set F8.out b9 hbg (x * 6 + 2) (.int .i64 ((y.e + 1).tmod 9)))
  have U9 := hid hfx
  rw [HTL.out] at U9 ⊢
  have hy0 := Q7.out.1
  have hy1 := Q7.out.2
  clear hfx hcp b9 HCP L8 hbg
  go_upto_region 16 with fail
  rw [show (y.e + 1) % 9 = (y.e + 1).tmod 9 from (Int.tmod_eq_emod_of_nonneg (by omega)).symm]
  have HN := hid (enc_ne hy0 hy1)
  have HEN := hid (show (encN y).e = (y.e + 1).tmod 9 from rfl)
  generalize (y.e + 1).tmod 9 = e' at *
  clear hcl hfz hg
  refine forget (R := fun V => LA w3 V Z8 sa X2 ∧ Fx V Z8 (TrP (some ⟨b, off, none⟩) n c t qs) ∧ Fx V Z8 (TrP (some ⟨g, 0, none⟩) n cap (t.set x (encN y)) qs')) ?_ ⟨L9.out, F9.out, U9.out⟩
  clear L9 F9 U9 F8
  rintro V ⟨lv, fv, uv⟩
  have FV := hid fv; have UV := hid uv
  have HTI4 := hid (show ∀ z ∈ t.set x (encN y), TnI z from fun z hz => by
    rcases List.mem_or_eq_of_mem_set hz with hz | rfl
    · exact HTI.out z hz
    · obtain ⟨a1, a2, a3, a4, a5, a6⟩ := HTI.out y (List.mem_of_getElem? HYG.out)
      exact ⟨a1, a2, by rw [HEN.out]; exact ⟨by have := HN.out.2.1; omega, by have := HN.out.2.2; omega⟩, a4, a5, a6⟩)
  have HU4 := hid (show ∀ z ∈ t.set x (encN y), z.u.length ≤ 1000 from fun z hz => by
    rcases List.mem_or_eq_of_mem_set hz with hz | rfl
    · exact HU.out z hz
    · exact HU.out y (List.mem_of_getElem? HYG.out))
  have HV4 := hid (l_vouch lv HT3.out HTB3.out uv (by omega) HTI4.out HU4.out (x : Int) ((x : Int) - (m : Int)))
  unfold LrS at HV4
  rw [Q4.out] at HV4
  clear lv fv uv
  go_wp2_with fail
  refine HV4.out.mono ?_
  rintro e w10 ⟨Z10, rfl, l10, m10⟩
  have HBE := hid (HB3.out.trans (l10.bl.mono HB3.out.size))
  obtain ⟨-, d2⟩ := HND.out w10 (FV.out.mv m10).here.tr
  obtain ⟨b1, o1, z, A2, c2, e1, hz, -, -, k2, -⟩ := ((UV.out.mv m10).here.tr).at hxn
  rw [List.getElem?_set_self (by have := HTL.out; omega)] at hz
  injection hz with hz
  subst hz
  injection e1 with e1; injection e1 with e1 e2
  subst e1; subst e2
  rw [HEN.out, Nat.zero_add] at k2
  clear l10 m10 HV4 FV UV
  go_wp2_with fail
  go_region_held3 (fun U => U.cell? ⟨b, off + x * 6 + 2, none⟩ = some (.int .i64 y.e) ∧ U.cell? ⟨g, x * 6 + 2, none⟩ = some (.int .i64 e')) (first | exact ⟨d2, k2⟩ | go_keep) (fail)
  all_goals
    go_wp2_with fail
    go_ret
    exact ⟨by simp, below_drew HBE.out⟩
end Go.Proofs.YtekfjcaihocmmaaGreatDoor

/- Arguments opened: what the walk is told of a value that can be read. Of no program. -/
namespace Go.KK
open Go.ChangeShapes Go.WideShapes Go.ChangeAt Go.RowKit Go.Deep
set_option linter.unusedVariables false
set_option linter.unusedSimpArgs false

section
variable {H : Type} {enc : TypeId × Value → H} {P : Program} {w : World} {base : Nat} {spare : Nat → Bool} {held : Bool}
end
end Go.KK

/- Arguments opened: a row of term's nodes. Of no program. -/
namespace Go.KK
open Go.ChangeShapes Go.WideShapes Go.ChangeAt Go.RowKit Go.Deep
set_option linter.unusedVariables false
set_option linter.unusedSimpArgs false

/-- What is known of a node that came in. -/
structure NdW (x : ND) : Prop where
  o : -9223372036854775808 ≤ x.o ∧ x.o ≤ 9223372036854775807
  n : -9223372036854775808 ≤ x.n ∧ x.n ≤ 9223372036854775807
  l : ∀ i ∈ x.l, -9223372036854775808 ≤ i ∧ i ≤ 9223372036854775807
  s : x.s.size ≤ maxLen
section
variable {H : Type} {enc : TypeId × Value → H} {P : Program} {w : World} {base : Nat} {spare : Nat → Bool} {held : Bool}
theorem trod_ints {fuel : Nat} {t e : TypeId} {k : IntKind} {v : Value} {y : DataW H × List MemPlace} (ht : P.underlying t = some (.slice e)) (he : P.underlying e = some (.int k)) (hc : P.cellsOf e = 1)
    (h : DataW.trod enc P w base spare held fuel t [v] = some y) : ∃ (A : Option Addr) (n c : Nat) (l : List Int), v = .slice A n c ∧ SlA w 1 A n c (l.map (Value.int k)) ∧ ∀ x ∈ l, (Lit.int k x).wf = true := by
  rcases open_ints ht he hc h with ⟨hcs, _⟩ | ⟨x, l, c', zs, hcs, _, hl, hm, hz, _, hcell, hwz⟩
  · injection hcs with hcs
    subst hcs
    exact ⟨_, _, _, [], rfl, SlA.nil _ _, by simp⟩
  · injection hcs with hcs
    subst hcs
    have hzl : l ≤ zs.length := by rw [hz]; split <;> omega
    refine ⟨_, _, _, zs.take l, rfl, ⟨hl, hm, by simp; omega, fun j u hj => ?_⟩, fun y hy => hwz y (List.mem_of_mem_take hy)⟩
    rw [List.getElem?_map, List.getElem?_take] at hj
    split at hj
    · rename_i hjn
      have hc := hcell j (by omega)
      have hjl : j < zs.length := by omega
      rw [List.getElem?_eq_getElem hjl] at hj
      simp only [Option.map_some, Option.some.injEq] at hj
      obtain ⟨b, off, spot⟩ := x
      have h0 := hcell 0 (by omega)
      have hspot : spot = none := by simpa [Addr.add] using World.cell?_spot h0
      subst hspot
      refine ⟨b, off, rfl, ?_⟩
      rw [add_lit] at hc
      rw [hc, ← hj, List.getD, List.getElem?_eq_getElem hjl]
      rfl
    · cases hj
theorem choose_list {α : Type} {Q : Nat → α → Prop} : ∀ (n : Nat), (∀ j, j < n → ∃ x, Q j x) → ∃ l : List α, l.length = n ∧ ∀ j x, l[j]? = some x → Q j x
  | 0, _ => ⟨[], rfl, fun j x h => by simp at h⟩
  | n + 1, h => by
    obtain ⟨l, hl, hq⟩ := choose_list n (fun j hj => h j (by omega))
    obtain ⟨x, hx⟩ := h n (by omega)
    refine ⟨l ++ [x], by simp [hl], fun j y hy => ?_⟩
    by_cases hj : j < n
    · rw [List.getElem?_append_left (by omega)] at hy
      exact hq j y hy
    · by_cases hjn : j = n
      · subst hjn
        rw [List.getElem?_append_right (by omega), hl, Nat.sub_self] at hy
        injection hy with hy
        rw [← hy]; exact hx
      · rw [List.getElem?_eq_none (by simp; omega)] at hy; cases hy
end
end Go.KK

/- Arguments opened: a node, and a row of nodes. -/
namespace Go.Proofs.YtekfjcaihocmmaaGreatDoor
open Go.ChangeShapes Go.WideShapes Go.ChangeAt Go.RowKit Go.Deep Go.KK
set_option linter.unusedVariables false
set_option linter.unusedSimpArgs false

section
variable {H : Type} {enc : TypeId × Value → H} {P : Program} {w : World} {base : Nat} {spare : Nat → Bool} {held : Bool}
theorem wf_w64 {a : Int} (h : (Lit.int .i64 a).wf = true) : W64 a := by
  have := bounds_i64 h
  unfold W64
  omega
theorem fld_lo {fs : Array Field} {ti : TypeId} {k : Nat} {f : Field} (h : (fs.toList.take 5).all (fun f => f.type == ti) = true) (hk : k < 5) (hf : fs[k]? = some f) : f.type = ti := by
  have := List.all_eq_true.1 h f (List.mem_of_getElem? (i := k) (by rw [List.getElem?_take, if_pos hk]; simpa using hf))
  simpa using this
theorem fld_hi {fs : Array Field} {tl : TypeId} {f : Field} (h : (fs.toList.drop 5).all (fun f => f.type == tl) = true) (hf : fs[5]? = some f) : f.type = tl := by
  have := List.all_eq_true.1 h f (List.mem_of_getElem? (i := 0) (by rw [List.getElem?_drop]; simpa using hf))
  simpa using this
end
end Go.Proofs.YtekfjcaihocmmaaGreatDoor

/- Arguments opened: a tree, its lists' numbers too. -/
namespace Go.Proofs.YtekfjcaihocmmaaGreatDoor
open Go.ChangeShapes Go.WideShapes Go.ChangeAt Go.RowKit Go.Deep Go.KK
set_option linter.unusedVariables false
set_option linter.unusedSimpArgs false

section
variable {H : Type} {enc : TypeId × Value → H} {P : Program} {w : World} {base : Nat} {spare : Nat → Bool} {held : Bool}
/-- A node's cells that read. -/
theorem node_of_trod2 {fuel : Nat} {t ti tl : TypeId} {fs : Array Field} {cs : List Value} {y : DataW H × List MemPlace} (hs : P.underlying t = some (.struct fs)) (hone : oneCellFields P fs = true) (hsz : fs.size = 6) (hC : P.cellsOf t = 6)
    (h0 : (fs.toList.take 5).all (fun f => f.type == ti) = true) (h5 : (fs.toList.drop 5).all (fun f => f.type == tl) = true) (hti : P.underlying ti = some (.int .i64)) (htl : P.underlying tl = some (.slice ti)) (hci : P.cellsOf ti = 1)
    (h : DataW.trod enc P w base spare held fuel t cs = some y) : ∃ (x : TN) (q : Value), cs = x.cells q ∧ In1 w q x.u ∧ (W64 x.k ∧ W64 x.i ∧ W64 x.e ∧ W64 x.s ∧ W64 x.h) ∧ ∀ i ∈ x.u, I64 i := by
  have h0 := fun k f hk hf => fld_lo (k := k) (f := f) h0 hk hf
  have h5 := fun f hf => fld_hi (f := f) h5 hf
  obtain ⟨xs, n, _, _, hlen, hxl, hg⟩ := DataW.trod_struct hs h
  rw [hC] at hlen
  match cs, hlen with
  | [a0, a1, a2, a3, a4, a5], _ =>
    have fld : ∀ k (hk : k < 6), ∃ f z, fs[k]? = some f ∧ DataW.trod enc P w base spare held n f.type [([a0, a1, a2, a3, a4, a5])[k]] = some z := by
      intro k hk
      have hf : fs[k]? = some (fs[k]'(by omega)) := Array.getElem?_eq_getElem _
      obtain ⟨ho, hc⟩ := hone_of hone k _ hf
      have := hg k _ hf
      rw [ho, hc, List.drop_eq_getElem_cons (by simpa using hk)] at this
      exact ⟨_, _, hf, this.trans (List.getElem?_eq_getElem (by omega))⟩
    have num : ∀ k (hk : k < 5), ∃ a, ([a0, a1, a2, a3, a4, a5])[k]'(by simp; omega) = Value.int .i64 a ∧ W64 a := by
      intro k hk
      obtain ⟨f, z, hf, ht⟩ := fld k (by omega)
      rw [h0 k f hk hf] at ht
      obtain ⟨a, e, _, hw⟩ := DataW.trod_int hti ht
      injection e with e
      exact ⟨a, e, wf_w64 hw⟩
    obtain ⟨k, e0, w0⟩ := num 0 (by omega)
    obtain ⟨i, e1, w1⟩ := num 1 (by omega)
    obtain ⟨e, e2, w2⟩ := num 2 (by omega)
    obtain ⟨s, e3, w3⟩ := num 3 (by omega)
    obtain ⟨h', e4, w4⟩ := num 4 (by omega)
    obtain ⟨f, z, hf, ht⟩ := fld 5 (by omega)
    rw [h5 f hf] at ht
    obtain ⟨A, m, c, u, e5, hsl, hwu⟩ := trod_ints htl hti hci ht
    simp only [List.getElem_cons_zero, List.getElem_cons_succ] at e0 e1 e2 e3 e4 e5
    subst e0; subst e1; subst e2; subst e3; subst e4; subst e5
    have hm := hsl.lenI
    subst hm
    exact ⟨⟨k, i, e, s, h', u⟩, _, rfl, ⟨A, c, rfl, hsl⟩, ⟨w0, w1, w2, w3, w4⟩, fun i hi => bounds_i64 (hwu i hi)⟩
/-- A row of nodes that came in. -/
theorem opens_tree2 {r : Reach} {b0 : Nat} {tt t ti tl : TypeId} {fs : Array Field} {v : Value} {d : DataW H} {p : List MemPlace} (htt : P.underlying tt = some (.slice t)) (hs : P.underlying t = some (.struct fs)) (hone : oneCellFields P fs = true) (hsz : fs.size = 6) (hC : P.cellsOf t = 6)
    (h0 : (fs.toList.take 5).all (fun f => f.type == ti) = true) (h5 : (fs.toList.drop 5).all (fun f => f.type == tl) = true) (hti : P.underlying ti = some (.int .i64)) (htl : P.underlying tl = some (.slice ti)) (hci : P.cellsOf ti = 1)
    (hv : Value.okWide P w r b0 tt v) (h : DataW.Trod enc P w base spare held tt v d p) : ∃ A n c xs, v = .slice A n c ∧ Tr w A n c xs ∧ ∀ x ∈ xs, TnI x := by
  obtain ⟨A, n, c, rfl⟩ := okWide_slice htt hv
  obtain ⟨fuel, hf⟩ := h
  rcases open_slice htt hf with ⟨hcs, _⟩ | ⟨a, len, cap, m, n', D, Pl, hcs, _, hl, hm, hmm, _, hi⟩
  · simp [Value.cells] at hcs
    obtain ⟨rfl, rfl, rfl⟩ := hcs
    exact ⟨_, _, _, [], rfl, Tr.nil _, fun x h => by simp at h⟩
  · simp [Value.cells] at hcs
    obtain ⟨rfl, rfl, rfl⟩ := hcs
    have hnm : n ≤ m := by rw [hmm]; split <;> omega
    have each : ∀ j, j < n → ∃ xq : TN × Value, (∀ k, k < 6 → w.cell? (a.add (j * 6 + k)) = (xq.1.cells xq.2)[k]?) ∧ In1 w xq.2 xq.1.u ∧ (W64 xq.1.k ∧ W64 xq.1.i ∧ W64 xq.1.e ∧ W64 xq.1.s ∧ W64 xq.1.h) ∧ ∀ i ∈ xq.1.u, I64 i := by
      intro j hj
      obtain ⟨cs', hc, ht⟩ := hi j (by omega)
      obtain ⟨x, q, e, hin, hw, hu⟩ := node_of_trod2 hs hone hsz hC h0 h5 hti htl hci ht
      rw [hC] at hc
      obtain ⟨_, _, hat⟩ := World.cells?_some hc
      refine ⟨⟨x, q⟩, fun k hk => ?_, hin, hw, hu⟩
      rw [← Go.Deep.add_add, hat k hk, e]
    obtain ⟨l, hll, hq⟩ := choose_list n each
    have hx : ∀ {j : Nat} {x : TN}, (l.map (·.1))[j]? = some x → ∃ q, l[j]? = some (x, q) := by
      intro j x h
      rw [List.getElem?_map] at h
      rcases hh : l[j]? with _ | ⟨y, q⟩
      · rw [hh] at h; cases h
      · rw [hh] at h; injection h with h; subst h; exact ⟨q, rfl⟩
    refine ⟨_, _, _, l.map (·.1), rfl, ⟨l.map (·.2), by simp, ⟨hl, hm, by rw [ncs_len (by simp)]; simp [hll], fun i u hu => ?_⟩, fun j x q hxj hqj => ?_⟩, fun x hxm => ?_⟩
    · have hil : i < n * 6 := by
        rcases Nat.lt_or_ge i (n * 6) with hh | hh
        · exact hh
        · rw [List.getElem?_eq_none (by rw [ncs_len (by simp)]; simp [hll]; omega)] at hu; cases hu
      have hjn : i / 6 < n := by omega
      have hlj : l[i / 6]? = some (l[i / 6]'(by omega)) := List.getElem?_eq_getElem _
      obtain ⟨b, off, spot⟩ := a
      have c0 := (hq 0 _ (List.getElem?_eq_getElem (by omega))).1 0 (by omega)
      have hspot : spot = none := by
        simp only [Nat.zero_mul, Nat.add_zero, TN.cells, List.getElem?_cons_zero] at c0
        simpa [Addr.add] using World.cell?_spot c0
      subst hspot
      refine ⟨b, off, rfl, ?_⟩
      have hg := ncs_get (xs := l.map (·.1)) (qs := l.map (·.2)) (j := i / 6) (k := i % 6) (by rw [List.getElem?_map, hlj]; rfl) (by rw [List.getElem?_map, hlj]; rfl) (Nat.mod_lt _ (by omega))
      rw [show i / 6 * 6 + i % 6 = i by omega] at hg
      have hc := (hq _ _ hlj).1 (i % 6) (Nat.mod_lt _ (by omega))
      rw [show i / 6 * 6 + i % 6 = i by omega, add_lit] at hc
      rw [hc, ← hg, hu]
    · obtain ⟨q', hl'⟩ := hx hxj
      rw [List.getElem?_map, hl'] at hqj
      injection hqj with hqj
      subst hqj
      exact (hq j _ hl').2.1
    · obtain ⟨j, hj⟩ := List.mem_iff_getElem?.1 hxm
      obtain ⟨q', hl'⟩ := hx hj
      obtain ⟨⟨a1, a2, a3, a4, a5⟩, a6⟩ := (hq j _ hl').2.2
      unfold W64 at a1 a2 a3 a4 a5
      dsimp only at a1 a2 a3 a4 a5 a6
      exact ⟨⟨by omega, by omega⟩, ⟨by omega, by omega⟩, ⟨by omega, by omega⟩, ⟨by omega, by omega⟩, ⟨by omega, by omega⟩, a6⟩
end
end Go.Proofs.YtekfjcaihocmmaaGreatDoor

/- HashVouches' card: what the kernel reckons of the program, limb by limb. -/
namespace Go.Proofs.YtekfjcaihocmmaaGreatDoor.hashVouchesLaw
open Go.ChangeShapes Go.WideShapes Go.ChangeAt Go.RowKit Go.KK
set_option linter.unusedVariables false
set_option linter.unusedSimpArgs false

theorem band {a b : Bool} (ha : a = true) (hb : b = true) : (a && b) = true := by rw [ha, hb]; rfl
set_option maxHeartbeats 4000000 in
set_option maxRecDepth 100000 in
theorem closed : joinedFacts Tryz.pinned.checked.prog 6 Tryz.f6 Rows.hashVouchesSpec Rows.hashVouchesRow = true := by
  unfold joinedFacts
  repeat' (with_reducible refine band ?_ ?_)
  all_goals as_aux_lemma => kernel_rfl
theorem inst : Tryz.f6.isInstance Tryz.pinned.checked.prog Rows.hashVouchesRow.origin Rows.hashVouchesRow.targs := of_decide_eq_true (by kernel_rfl)
theorem wrap : Tryz.f6.isWrapper Tryz.pinned.checked.prog Rows.hashVouchesRow.wrapper Rows.hashVouchesRow.mainSum := by
  unfold Func.isWrapper; first | (rw [if_pos (by decide +kernel)]; kernel_rfl) | (rw [if_neg (by decide +kernel)]; exact ⟨rfl, rfl⟩)
theorem named : Tryz.pinned.checked.prog.funcNamed Rows.hashVouchesRow.func = some 6 := by kernel_rfl
end Go.Proofs.YtekfjcaihocmmaaGreatDoor.hashVouchesLaw

