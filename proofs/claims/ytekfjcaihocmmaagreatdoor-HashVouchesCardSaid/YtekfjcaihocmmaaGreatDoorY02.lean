import Derived.Test.YtekfjcaihocmmaaGreatDoorY01
import Derived.Lib.AtoiTie
import Derived.Lib.AtoiAllCases
import Derived.Test.YtekfjcaihocmmaaGreatDoorShelf
import Derived.Deep.QuietTactic
import Derived.BigQuiet
import Derived.Deep.RegionWith
import Derived.Deep.RegionLaw
import Derived.Deep.Cut
/- plain: layer 12: hashes, tags, contexts, chains in words of makes. -/
namespace Go.KK
open Go.RowKit
set_option linter.unusedVariables false
set_option linter.unusedSimpArgs false

/-- A hash of a list. -/
def HsAt (X : List ND) (i : Int) (l : List Int) : Prop := ∃ x, At X x (ndN 3 l) ∧ At X i (ndN 4 [x])
theorem HsAt.ext {X : List ND} {i : Int} {l : List Int} (h : HsAt X i l) (m : List ND) : HsAt (X ++ m) i l := by
  obtain ⟨x, h1, h2⟩ := h; exact ⟨x, h1.ext m, h2.ext m⟩
theorem nd_inj {o : Int} {l l' : List Int} (h : ndN o l = ndN o l') : l = l' := by
  unfold ndN at h
  simp only [ND.mk.injEq, true_and] at h
  exact h
theorem HsAt.eq {X : List ND} {i : Int} {l l' : List Int} (h : HsAt X i l) (k : HsAt X i l') : l = l' := by
  obtain ⟨x, h1, h2⟩ := h; obtain ⟨x', k1, k2⟩ := k
  have e := Go.KK.nd_inj (h2.eq k2)
  simp only [List.cons.injEq, and_true] at e
  subst e
  exact Go.KK.nd_inj (h1.eq k1)
theorem HsAt.uniq {X : List ND} (ok : Okay X) {i j : Int} {l : List Int} (h : HsAt X i l) (k : HsAt X j l) : i = j := by
  obtain ⟨x, h1, h2⟩ := h; obtain ⟨x', k1, k2⟩ := k
  obtain rfl := At.uniq ok h1 k1
  exact At.uniq ok h2 k2
/-- A term's parts have lesser numbers. -/
theorem At.lt {X : List ND} (ok : Okay X) {i : Int} {o : Int} {l : List Int} (h : At X i (ndN o l)) : ∀ p ∈ l, 0 ≤ p ∧ p < i := fun p hp => by
  have hm := ok.may _ _ h.2
  unfold mayB at hm
  simp only [Bool.and_eq_true, List.all_eq_true] at hm
  have hx := has_iff.1 (hm.1.2 p hp)
  rw [List.length_take] at hx
  have := h.1
  omega
theorem HsAt.lt {X : List ND} (ok : Okay X) {i : Int} {l : List Int} (h : HsAt X i l) : ∀ p ∈ l, 0 ≤ p ∧ p < i := fun p hp => by
  obtain ⟨x, h1, h2⟩ := h
  have a := h1.lt ok p hp
  have b := h2.lt ok x (by simp)
  omega
/-! a chain of messages -/
/-- What a chain's hashes are made of. -/
inductive ChAt (X : List ND) (start : Int) : List (Int × Int × Int) → List Int → Int → Prop
  | nil : ChAt X start [] [] start
  | snoc {l : List (Int × Int × Int)} {out : List Int} {s c t n : Int} {m : Int × Int × Int} (h : ChAt X start l out s) (hc : HsAt X c [s, m.1, m.2.1]) (ht : At X t (ndN 11 [m.2.2, c])) (hn : HsAt X n [c, t]) : ChAt X start (l ++ [m]) (out ++ [c]) n
theorem ChAt.ext {X : List ND} {start : Int} {l : List (Int × Int × Int)} {out : List Int} {n : Int} (h : ChAt X start l out n) (v : List ND) : ChAt (X ++ v) start l out n := by
  induction h with
  | nil => exact .nil
  | snoc _ hc ht hn ih => exact .snoc ih (hc.ext v) (ht.ext v) (hn.ext v)
end Go.KK

/- plain: layer 12: contexts. -/
namespace Go.KK
open Go.RowKit
set_option linter.unusedVariables false
set_option linter.unusedSimpArgs false

def lbGroup : ByteArray := ⟨#[103, 114, 111, 117, 112]⟩
/-- A number's digits as a text. -/
def digB (n : Int) : ByteArray := ⟨(Lib.itoa n).toArray⟩
theorem digB_inj {n m : Int} (h : digB n = digB m) : n = m := by
  have := congrArg (fun s : ByteArray => s.data.toList) h
  exact itoa_inj (by simpa [digB] using this)
/-- What a context is made of. -/
def CtAt (X : List ND) (i id ep tr cf ex : Int) : Prop := ∃ g d, At X g (txN lbGroup) ∧ At X d (txN (digB ep)) ∧ At X i (ndN 3 [g, id, d, tr, cf, ex])
theorem CtAt.ext {X : List ND} {i id ep tr cf ex : Int} (h : CtAt X i id ep tr cf ex) (m : List ND) : CtAt (X ++ m) i id ep tr cf ex := by
  obtain ⟨g, d, h1, h2, h3⟩ := h; exact ⟨g, d, h1.ext m, h2.ext m, h3.ext m⟩
theorem txN_inj {s t : ByteArray} (h : txN s = txN t) : s = t := by
  unfold txN at h
  simp only [ND.mk.injEq, true_and, and_true] at h
  exact h
theorem CtAt.eq {X : List ND} {i id ep tr cf ex id' ep' tr' cf' ex' : Int} (h : CtAt X i id ep tr cf ex) (k : CtAt X i id' ep' tr' cf' ex') : id = id' ∧ ep = ep' ∧ tr = tr' ∧ cf = cf' ∧ ex = ex' := by
  obtain ⟨g, d, h1, h2, h3⟩ := h; obtain ⟨g', d', k1, k2, k3⟩ := k
  have e := Go.KK.nd_inj (h3.eq k3)
  simp only [List.cons.injEq, and_true] at e
  obtain ⟨-, e1, e2, e3, e4, e5⟩ := e
  subst e2
  exact ⟨e1, digB_inj (txN_inj (h2.eq k2)), e3, e4, e5⟩
theorem CtAt.uniq {X : List ND} (ok : Okay X) {i j id ep tr cf ex : Int} (h : CtAt X i id ep tr cf ex) (k : CtAt X j id ep tr cf ex) : i = j := by
  obtain ⟨g, d, h1, h2, h3⟩ := h; obtain ⟨g', d', k1, k2, k3⟩ := k
  obtain rfl := At.uniq ok h1 k1
  obtain rfl := At.uniq ok h2 k2
  exact At.uniq ok h3 k3
end Go.KK

/- plain: layer 12: a text as a number; contexts read. -/
namespace Go.KK
open Go.RowKit
set_option linter.unusedVariables false
set_option linter.unusedSimpArgs false

theorem digB_size (v : Int) : (digB v).size = (Lib.itoa v).length := by unfold digB; simp [ByteArray.size]
theorem itoa_pos {v : Int} (h : 0 ≤ v) : Lib.itoa v = Lib.decDigits v.toNat := by unfold Lib.itoa; rw [if_neg (by omega)]
theorem dig_nine {v : Int} (h : 0 ≤ v) : (digB v).size ≤ 9 ↔ v < 1000000000 := by
  rw [digB_size, itoa_pos h, Lib.decDigits_length]
  constructor
  · intro h9
    have := Lib.lt_pow_nDigits v.toNat
    have h2 : 10 ^ Lib.nDigits v.toNat ≤ 10 ^ 9 := Nat.pow_le_pow_right (by omega) h9
    omega
  · intro hv
    by_cases hl : Lib.nDigits v.toNat ≤ 9
    · exact hl
    · exfalso
      have h1 := Lib.nDigits_pos v.toNat
      obtain ⟨k, hk⟩ : ∃ k, Lib.nDigits v.toNat = k + 1 := ⟨_, (Nat.sub_add_cancel h1).symm⟩
      have h9 : 9 ≤ k := by omega
      have h3 := pow_le_of_nDigits hk h9
      omega
where
  pow_le_of_nDigits {u k : Nat} (hk : Lib.nDigits u = k + 1) (h9 : 9 ≤ k) : 1000000000 ≤ u := by
    by_cases hu : 1000000000 ≤ u
    · exact hu
    · exfalso
      have : ∀ j, j ≤ 9 → ∀ u, u < 10 ^ j → Lib.nDigits u ≤ max j 1 := by
        intro j
        induction j with
        | zero => intro _ u hu; rw [Lib.nDigits_small (by simp at hu; omega)]; simp
        | succ j ih =>
          intro hj u hu
          by_cases h10 : u < 10
          · rw [Lib.nDigits_small h10]; omega
          · rw [Lib.nDigits_big h10]
            have := ih (by omega) (u / 10) (by rw [Nat.pow_succ] at hu; omega)
            have : 1 ≤ j := by
              rcases j with _ | j
              · simp at hu; omega
              · omega
            omega
      have := this 9 (Nat.le_refl _) u (by simpa using hu)
      omega
end Go.KK

/- plain: layer 11: joiner, an epoch's secrets, what is derived for others. -/
namespace Go.KK
open Go.RowKit
set_option linter.unusedVariables false
set_option linter.unusedSimpArgs false

def lbJoiner : ByteArray := ⟨#[106, 111, 105, 110, 101, 114]⟩
def lbWelcome : ByteArray := ⟨#[119, 101, 108, 99, 111, 109, 101]⟩
def lbEpoch : ByteArray := ⟨#[101, 112, 111, 99, 104]⟩
def lbSender : ByteArray := ⟨#[115, 101, 110, 100, 101, 114]⟩
def lbEncryption : ByteArray := ⟨#[101, 110, 99, 114, 121, 112, 116, 105, 111, 110]⟩
def lbExporter : ByteArray := ⟨#[101, 120, 112, 111, 114, 116, 101, 114]⟩
def lbConfirm : ByteArray := ⟨#[99, 111, 110, 102, 105, 114, 109]⟩
def lbMembership : ByteArray := ⟨#[109, 101, 109, 98, 101, 114, 115, 104, 105, 112]⟩
def lbResumption : ByteArray := ⟨#[114, 101, 115, 117, 109, 112, 116, 105, 111, 110]⟩
def lbInit : ByteArray := ⟨#[105, 110, 105, 116]⟩
def lbExternal : ByteArray := ⟨#[101, 120, 116, 101, 114, 110, 97, 108]⟩
def lbExported : ByteArray := ⟨#[101, 120, 112, 111, 114, 116, 101, 100]⟩
/-- The labels of what is derived of Epoch. -/
def lbs8 : List ByteArray := [lbSender, lbEncryption, lbExporter, lbConfirm, lbMembership, lbResumption, lbInit, lbExternal]
/-- An epoch's eleven numbers. -/
def epL (j : Int) (a : List Int) : List Int := [j, a.getD 1 0, a.getD 2 0, a.getD 3 0, a.getD 4 0, a.getD 5 0, a.getD 6 0, a.getD 7 0, a.getD 8 0, a.getD 11 0, a.getD 9 0]
end Go.KK

/- plain: layer 11: what an epoch's secrets are made of; epochs of other secrets have none in common. -/
namespace Go.KK
open Go.RowKit
set_option linter.unusedVariables false
set_option linter.unusedSimpArgs false

/-- What an epoch's secrets are made of: the joiner secret j, the shared ones p, the context x. -/
structure BgAt (X : List ND) (j p x : Int) (a : List Int) : Prop where
  m : At X (a.getD 0 0) (ndN 5 [j, p])
  w : DvAt X (a.getD 1 0) (a.getD 0 0) lbWelcome
  e : KeyAt X (a.getD 2 0) (a.getD 0 0) lbEpoch x
  d : ∀ k, k < 8 → DvAt X (a.getD (3 + k) 0) (a.getD 2 0) (lbs8.getD k ⟨#[]⟩)
  p : At X (a.getD 11 0) (ndN 7 [a.getD 10 0])
theorem BgAt.ext {X : List ND} {j p x : Int} {a : List Int} (h : BgAt X j p x a) (m : List ND) : BgAt (X ++ m) j p x a :=
  ⟨h.m.ext m, h.w.ext m, h.e.ext m, fun k hk => (h.d k hk).ext m, h.p.ext m⟩
/-- What an epoch behind init, commit, context and shared secrets is made of. -/
structure NxAt (X : List ND) (i c x : Int) (l : List Int) (ep : List Int) : Prop where
  go : ∃ m p a, ep = epL (ep.getD 0 0) a ∧ At X m (ndN 5 [i, c]) ∧ KeyAt X (ep.getD 0 0) m lbJoiner x ∧ PskAt X p l ∧ BgAt X (ep.getD 0 0) p x a
theorem NxAt.ext {X : List ND} {i c x : Int} {l ep : List Int} (h : NxAt X i c x l ep) (m : List ND) : NxAt (X ++ m) i c x l ep := by
  obtain ⟨u, p, a, h1, h2, h3, h4, h5⟩ := h.go
  exact ⟨u, p, a, h1, h2.ext m, h3.ext m, h4.ext m, h5.ext m⟩
/-- What is derived for others. -/
def XpAt (X : List ND) (t : Int) (ep : List Int) (lab : ByteArray) (x : Int) : Prop := ∃ y, DvAt X y (ep.getD 5 0) lab ∧ KeyAt X t y lbExported x
theorem XpAt.ext {X : List ND} {t x : Int} {ep : List Int} {lab : ByteArray} (h : XpAt X t ep lab x) (m : List ND) : XpAt (X ++ m) t ep lab x := by
  obtain ⟨y, h1, h2⟩ := h; exact ⟨y, h1.ext m, h2.ext m⟩
end Go.KK

/- plain: layer 11's laws: Psk, Joins, Apart. -/
namespace Go.KK
open Go.RowKit
set_option linter.unusedVariables false
set_option linter.unusedSimpArgs false

/-- A step that makes so many nodes at the most. -/
def Gw (F : List ND → Rs) (k : Nat) : Prop := ∀ xs, (F xs).1.length ≤ xs.length + k
theorem gw_mk (x : ND) : Gw (fun xs => mk xs x) 1 := fun xs => mak_len xs x
/-- A text, a list of nothing, a key: where there is room they are made. -/
theorem mk_may {xs : List ND} {x : ND} (hl : xs.length < 100000) (hm : mayB xs x = true) : makE xs x = 0 := by
  unfold makE
  rw [if_pos hm]
  split
  · rfl
  · rw [if_neg (by omega)]
end Go.KK

/- Trees as rows of nodes: words of memory, of no program. -/
namespace Go.KK
open Go.RowKit
set_option linter.unusedVariables false
set_option linter.unusedSimpArgs false

/-- A node of a tree. -/
structure TN where
  k : Int
  i : Int
  e : Int
  s : Int
  h : Int
  u : List Int
deriving DecidableEq

def TN.cells (x : TN) (q : Value) : List Value := [.int .i64 x.k, .int .i64 x.i, .int .i64 x.e, .int .i64 x.s, .int .i64 x.h, q]
/-- The cells of a row of nodes, whose lists' heads are these. -/
def ncs (xs : List TN) (qs : List Value) : List Value := (List.zipWith TN.cells xs qs).flatten
/-- The slice reads as a row of nodes. -/
def Tr (w : World) (A : Option Addr) (n c : Nat) (xs : List TN) : Prop :=
  ∃ qs : List Value, qs.length = xs.length ∧ SlA w 6 A n c (ncs xs qs) ∧ ∀ (j : Nat) x q, xs[j]? = some x → qs[j]? = some q → In1 w q x.u

theorem ncs_mem (xs : List TN) (qs : List Value) : ∀ l ∈ List.zipWith TN.cells xs qs, l.length = 6 := by
  intro l hl
  obtain ⟨j, hj, rfl⟩ := List.mem_iff_getElem.1 hl
  rw [List.getElem_zipWith]
  rfl
theorem ncs_len {xs : List TN} {qs : List Value} (h : qs.length = xs.length) : (ncs xs qs).length = xs.length * 6 := by
  unfold ncs
  rw [flat_len 6 _ (ncs_mem xs qs), List.length_zipWith, h, Nat.min_self]
theorem ncs_get {xs : List TN} {qs : List Value} {j k : Nat} {x : TN} {q : Value} (hx : xs[j]? = some x) (hq : qs[j]? = some q) (hk : k < 6) : (ncs xs qs)[j * 6 + k]? = (x.cells q)[k]? :=
  flat_get 6 _ j k _ (ncs_mem xs qs) (by rw [List.getElem?_zipWith, hx, hq]) hk

section
variable {w w' : World} {A : Option Addr} {n c : Nat} {xs : List TN}
theorem Tr.keep (h : Tr w A n c xs) (hk : ∀ b o u, w.cell? ⟨b, o, none⟩ = some u → w'.cell? ⟨b, o, none⟩ = some u) : Tr w' A n c xs := by
  obtain ⟨qs, h1, h2, h3⟩ := h
  exact ⟨qs, h1, h2.keep hk, fun j x q hx hq => (h3 j x q hx hq).keep hk⟩
theorem Tr.ext (h : Tr w A n c xs) (hb : Below w.heap.size w w') : Tr w' A n c xs :=
  h.keep fun b o u hc => (hb.cell (p := ⟨b, o, none⟩) (block_lt_of_cell hc)).trans hc
theorem Tr.alloc (h : Tr w A n c xs) (o : Obj) : Tr (w.alloc o) A n c xs := h.ext ((Below.refl _ _).alloc (Nat.le_refl _) o)
theorem Tr.drew (h : Tr w A n c xs) : Tr w.drew A n c xs := h.keep fun _ _ _ hc => hc
theorem Tr.drewN (h : Tr w A n c xs) (k : Nat) : Tr (w.drewN k) A n c xs := h.keep fun _ _ _ hc => hc
theorem Tr.len (h : Tr w A n c xs) : xs.length = n := by
  obtain ⟨qs, h1, h2, h3⟩ := h
  have := h2.len
  rw [ncs_len h1] at this
  omega
theorem Tr.nc (h : Tr w A n c xs) : n ≤ c ∧ c ≤ maxLen := by
  obtain ⟨qs, h1, h2, h3⟩ := h
  exact ⟨h2.nc, h2.cm⟩
/-- What one node's cells are. -/
theorem Tr.at (h : Tr w A n c xs) {j : Nat} (hj : j < n) : ∃ b off x A' c', A = some ⟨b, off, none⟩ ∧ xs[j]? = some x ∧ w.cell? ⟨b, off + j * 6, none⟩ = some (.int .i64 x.k) ∧ w.cell? ⟨b, off + j * 6 + 1, none⟩ = some (.int .i64 x.i) ∧ w.cell? ⟨b, off + j * 6 + 2, none⟩ = some (.int .i64 x.e) ∧
    w.cell? ⟨b, off + j * 6 + 3, none⟩ = some (.int .i64 x.s) ∧ w.cell? ⟨b, off + j * 6 + 4, none⟩ = some (.int .i64 x.h) ∧ w.cell? ⟨b, off + j * 6 + 5, none⟩ = some (.slice A' x.u.length c') ∧ SlA w 1 A' x.u.length c' (x.u.map (.int .i64)) := by
  have hn := h.len
  obtain ⟨qs, h1, h2, h3⟩ := h
  have hx : xs[j]? = some (xs[j]'(by omega)) := List.getElem?_eq_getElem (by omega)
  have hq : qs[j]? = some (qs[j]'(by omega)) := List.getElem?_eq_getElem (by omega)
  obtain ⟨A', c', e, hs⟩ := h3 j _ _ hx hq
  rw [e] at hq
  generalize xs[j]'(by omega) = x at *
  have cell : ∀ k (u : Value), k < 6 → (x.cells (.slice A' x.u.length c'))[k]? = some u → ∃ b off, A = some ⟨b, off, none⟩ ∧ w.cell? ⟨b, off + j * 6 + k, none⟩ = some u := by
    intro k u hk hu
    obtain ⟨b, off, e, hc⟩ := h2.cells (j * 6 + k) u ((ncs_get hx hq hk).trans hu)
    exact ⟨b, off, e, by rw [Nat.add_assoc]; exact hc⟩
  obtain ⟨b, off, rfl, c0⟩ := cell 0 _ (by omega) rfl
  have more : ∀ k (u : Value), k < 6 → (x.cells (.slice A' x.u.length c'))[k]? = some u → w.cell? ⟨b, off + j * 6 + k, none⟩ = some u := by
    intro k u hk hu
    obtain ⟨b', off', e, hc⟩ := cell k u hk hu
    injection e with e
    injection e with e1 e2
    subst e1; subst e2
    exact hc
  exact ⟨b, off, x, A', c', rfl, hx, c0, more 1 _ (by omega) rfl, more 2 _ (by omega) rfl, more 3 _ (by omega) rfl, more 4 _ (by omega) rfl, more 5 _ (by omega) rfl, hs⟩
theorem Tr.nil (w : World) : Tr w none 0 0 [] := ⟨[], rfl, SlA.nil _ _, fun j x q h => by simp at h⟩
end

end Go.KK

/- plain: layer 22: nodes locked, in words of makes. -/
namespace Go.KK
open Go.RowKit
set_option linter.unusedVariables false
set_option linter.unusedSimpArgs false

/-- The terms so far, and the first error. -/
structure KS where
  x : List ND
  e : Int
def doF (S : KS) (f : List ND → Rs) : KS × Int := if S.e = 0 then (⟨(f S.x).1, (f S.x).2.2⟩, (f S.x).2.1) else (S, 0)
theorem do_no {S : KS} (f : List ND → Rs) (h : S.e ≠ 0) : doF S f = (S, 0) := if_neg h
/-- Goes on, stays an arena, and grows by so much at the most. -/
structure Go2 (S T : KS) (k : Nat) : Prop where
  ext : ∃ m, T.x = S.x ++ m
  ok : Okay S.x → Okay T.x
  len : T.x.length ≤ S.x.length + k
  e : S.e ≠ 0 → T.e ≠ 0
theorem Go2.refl (S : KS) : Go2 S S 0 := ⟨⟨[], by simp⟩, id, by omega, id⟩
theorem Go2.trans {S T U : KS} {a b : Nat} (h : Go2 S T a) (k : Go2 T U b) : Go2 S U (a + b) := by
  obtain ⟨m, hm⟩ := h.ext; obtain ⟨n, hn⟩ := k.ext
  exact ⟨⟨m ++ n, by rw [hn, hm, List.append_assoc]⟩, fun o => k.ok (h.ok o), by have := h.len; have := k.len; omega, fun e => k.e (h.e e)⟩
theorem Go2.mono {S T : KS} {a b : Nat} (h : Go2 S T a) (hab : a ≤ b) : Go2 S T b := ⟨h.ext, h.ok, by have := h.len; omega, h.e⟩
theorem Go2.at {S T : KS} {k : Nat} (h : Go2 S T k) {i : Int} {x : ND} (ha : At S.x i x) : At T.x i x := by obtain ⟨m, hm⟩ := h.ext; rw [hm]; exact ha.ext m
theorem Go2.key {S T : KS} {k : Nat} (h : Go2 S T k) {i s c : Int} {lab : ByteArray} (ha : KeyAt S.x i s lab c) : KeyAt T.x i s lab c := by obtain ⟨m, hm⟩ := h.ext; rw [hm]; exact ha.ext m
theorem Go2.e0 {S T : KS} {k : Nat} (h : Go2 S T k) (he : T.e = 0) : S.e = 0 := by
  by_cases h0 : S.e = 0
  · exact h0
  · exact absurd he (h.e h0)
theorem do_go {S : KS} {f : List ND → Rs} {k : Nat} (hf : Sb f) (hg : Gw f k) : Go2 S (doF S f).1 k := by
  by_cases he : S.e = 0
  · have e : doF S f = (⟨(f S.x).1, (f S.x).2.2⟩, (f S.x).2.1) := if_pos he
    rw [e]
    exact ⟨hf.ext S.x, hf.ok S.x, hg S.x, fun h => absurd he h⟩
  · rw [do_no f he]
    exact (Go2.refl S).mono (by omega)
def txF (s : ByteArray) (xs : List ND) : Rs := mk xs (txN s)
def liF (l : List Int) (xs : List ND) : Rs := mk xs (ndN 3 l)
theorem tx_go (S : KS) (s : ByteArray) : Go2 S (doF S (txF s)).1 1 := do_go (sb_tx s) (gw_mk _)
theorem li_go (S : KS) (l : List Int) : Go2 S (doF S (liF l)).1 1 := do_go (sb_nd 3 l) (gw_mk _)
/-- Several numbers' texts. -/
def txS (S : KS) (u : List Int) : Nat → KS × List Int
  | 0 => (S, [])
  | j + 1 => ((doF (txS S u j).1 (txF (digB (u.getD j 0)))).1, (txS S u j).2 ++ [(doF (txS S u j).1 (txF (digB (u.getD j 0)))).2])
theorem txS_go (S : KS) (u : List Int) : ∀ j, Go2 S (txS S u j).1 j
  | 0 => Go2.refl S
  | j + 1 => (txS_go S u j).trans (tx_go _ _)
theorem txS_len (S : KS) (u : List Int) : ∀ j, (txS S u j).2.length = j
  | 0 => rfl
  | j + 1 => by rw [txS, List.length_append, txS_len S u j]; rfl
/-- A node's parts that count. -/
def ptsF (n : TN) (o : Int) : List Int := if n.k = 0 then [o, o, o, o] else if n.k = 2 then [o, n.e, o, n.h] else [n.i, n.e, n.s, n.h]
/-- What a content is. -/
structure ContAt (X : List ND) (c : Int) (n : TN) (o ki li : Int) (us : List Int) : Prop where
  ho : At X o (txN ⟨#[]⟩)
  hk : At X ki (txN (digB n.k))
  ul : us.length = n.u.length
  hu : ∀ i, i < n.u.length → At X (us.getD i 0) (txN (digB (n.u.getD i 0)))
  hl : At X li (ndN 3 us)
  hc : At X c (ndN 3 (ki :: (ptsF n o ++ [li])))
theorem ContAt.ext {X : List ND} {c : Int} {n : TN} {o ki li : Int} {us : List Int} (h : ContAt X c n o ki li us) (m : List ND) : ContAt (X ++ m) c n o ki li us :=
  ⟨h.ho.ext m, h.hk.ext m, h.ul, fun i hi => (h.hu i hi).ext m, h.hl.ext m, h.hc.ext m⟩
def lbNode : ByteArray := ⟨#[110, 111, 100, 101]⟩
def lbNonce : ByteArray := ⟨#[110, 111, 110, 99, 101]⟩
def lbNodes : ByteArray := ⟨#[110, 111, 100, 101, 115]⟩
structure KyAt (X : List ND) (ex x t key nonce : Int) : Prop where
  ht : At X t (txN (digB x))
  hk : KeyAt X key ex lbNode t
  hn : KeyAt X nonce ex lbNonce t
theorem KyAt.ext {X : List ND} {ex x t key nonce : Int} (h : KyAt X ex x t key nonce) (m : List ND) : KyAt (X ++ m) ex x t key nonce := ⟨h.ht.ext m, h.hk.ext m, h.hn.ext m⟩
/-- What a locked node is. -/
def LockAt (X : List ND) (v ex cx x : Int) (n : TN) : Prop := ∃ t key nonce c o ki li us, KyAt X ex x t key nonce ∧ ContAt X c n o ki li us ∧ At X v (ndN 9 [key, nonce, cx, c])
theorem LockAt.ext {X : List ND} {v ex cx x : Int} {n : TN} (h : LockAt X v ex cx x n) (m : List ND) : LockAt (X ++ m) v ex cx x n := by
  obtain ⟨t, key, nonce, c, o, ki, li, us, h1, h2, h3⟩ := h
  exact ⟨t, key, nonce, c, o, ki, li, us, h1.ext m, h2.ext m, h3.ext m⟩
end Go.KK

/- plain: layer 22: Lock, and what Open finds. -/
namespace Go.KK
open Go.RowKit
set_option linter.unusedVariables false
set_option linter.unusedSimpArgs false

def tn0 : TN := ⟨0, 0, 0, 0, 0, []⟩
/-- The terms of a node that count. -/
def prtF (n : TN) : List Int := if n.k = 1 then [n.i, n.e, n.s, n.h] else if n.k = 2 then [n.e, n.h] else []
def badN (X : List ND) (n : TN) : Bool := decide (n.k < 0) || decide (2 < n.k) || (prtF n).any (fun x => !hasB X x) || n.u.any (fun i => decide (i < 0) || decide (1000000000 ≤ i))
/-- What Lock leaves. -/
structure Lkd (X : List ND) (ep : List Int) (cx : Int) (t : List TN) (Y : List ND) (l : List Int) (ex : Int) : Prop where
  len : t.length ≤ 511
  good : ∀ n ∈ t, badN X n = false
  xp : XpAt Y ex ep lbNodes cx
  ll : l.length = t.length
  at' : ∀ i : Nat, i < t.length → LockAt Y (l.getD i 0) ex cx i (t.getD i tn0)
theorem Lkd.ext {X : List ND} {ep : List Int} {cx : Int} {t : List TN} {Y : List ND} {l : List Int} {ex : Int} (h : Lkd X ep cx t Y l ex) (m : List ND) : Lkd X ep cx t (Y ++ m) l ex :=
  ⟨h.len, h.good, h.xp.ext m, h.ll, fun i hi => (h.at' i hi).ext m⟩
end Go.KK

/- plain: layer 9: what a node's hash is made of. -/
namespace Go.KK
open Go.RowKit
set_option linter.unusedVariables false
set_option linter.unusedSimpArgs false

def lbLeaf : ByteArray := ⟨#[108, 101, 97, 102]⟩
def lbVouch : ByteArray := ⟨#[118, 111, 117, 99, 104]⟩
def hhF (i : Int) (xs : List ND) : Rs := mk xs (ndN 4 [i])
/-- The hash of a list. -/
def haA (S : KS) (l : List Int) : KS × Int := doF S (liF l)
def haM (S : KS) (l : List Int) : KS × Int := doF (haA S l).1 (hhF (haA S l).2)
def tnF (xs : List TN) (x : Nat) : TN := xs.getD x tn0
/-- A leaf's. -/
def tlA (S : KS) : KS × Int := doF S (txF lbLeaf)
def tlB (S : KS) (x : Nat) : KS × Int := doF (tlA S).1 (txF (digB ((x / 2 : Nat) : Int)))
def offB (n : TN) (wo : List Int) (x : Nat) : Bool := n.k == 0 || wo.contains ((x / 2 : Nat) : Int)
def tlC (n : TN) (wo : List Int) (S : KS) (x : Nat) : KS × Int := if offB n wo x then doF (tlB S x).1 (txF ⟨#[]⟩) else doF (tlB S x).1 (liF [n.i, n.e, n.s, n.h])
def tlF (n : TN) (wo : List Int) (S : KS) (x : Nat) : KS × Int := haM (tlC n wo S x).1 [(tlA S).2, (tlB S x).2, (tlC n wo S x).2]
/-- A parent's, ahead of its children. -/
def unF (n : TN) (wo : List Int) : List Int := n.u.filter fun i => !wo.contains i
def tpA (S : KS) : KS × Int := doF S (txF lbNode)
def tpB (n : TN) (wo : List Int) (S : KS) : KS × List Int := txS (tpA S).1 (unF n wo) (unF n wo).length
def tpC (n : TN) (wo : List Int) (S : KS) : KS × Int := doF (tpB n wo S).1 (liF (tpB n wo S).2)
def tpD (n : TN) (wo : List Int) (S : KS) : KS × Int := if n.k = 0 then doF (tpA S).1 (txF ⟨#[]⟩) else doF (tpC n wo S).1 (liF [n.e, n.h, (tpC n wo S).2])
/-- A node's, of a level. -/
def thF (xs : List TN) (wo : List Int) : Nat → KS → Nat → KS × Int
  | 0, S, x => tlF (tnF xs x) wo S x
  | k + 1, S, x => haM (thF xs wo k (thF xs wo k (tpD (tnF xs x) wo S).1 (x - 2 ^ k)).1 (x + 2 ^ k)).1 [(tpA S).2, (tpD (tnF xs x) wo S).2, (thF xs wo k (tpD (tnF xs x) wo S).1 (x - 2 ^ k)).2, (thF xs wo k (thF xs wo k (tpD (tnF xs x) wo S).1 (x - 2 ^ k)).1 (x + 2 ^ k)).2]

theorem ha_go (S : KS) (l : List Int) : Go2 S (haM S l).1 2 := (li_go S l).trans (do_go (sb_nd 4 _) (gw_mk _))
theorem tl_go (n : TN) (wo : List Int) (S : KS) (x : Nat) : Go2 S (tlF n wo S x).1 5 := by
  have h : Go2 S (tlC n wo S x).1 3 := by
    unfold tlC
    split
    · exact ((tx_go S _).trans (tx_go _ _)).trans (tx_go _ _)
    · exact ((tx_go S _).trans (tx_go _ _)).trans (li_go _ _)
  exact h.trans (ha_go _ _)
theorem tp_go (n : TN) (wo : List Int) (S : KS) : Go2 S (tpD n wo S).1 (n.u.length + 3) := by
  unfold tpD
  split
  · exact ((tx_go S _).trans (tx_go _ _)).mono (by omega)
  · exact ((((tx_go S _).trans (txS_go _ _ _)).trans (li_go _ _)).trans (li_go _ _)).mono (by
      have : (unF n wo).length ≤ n.u.length := List.length_filter_le ..
      omega)
theorem th_go {xs : List TN} (hu : ∀ x, (tnF xs x).u.length ≤ 40) (wo : List Int) : ∀ (k : Nat) (S : KS) (x : Nat), Go2 S (thF xs wo k S x).1 (50 * (2 ^ (k + 1) - 1))
  | 0, S, x => (tl_go (tnF xs x) wo S x).mono (by omega)
  | k + 1, S, x => by
    refine Go2.mono ((((tp_go (tnF xs x) wo S).trans (th_go hu wo k _ (x - 2 ^ k))).trans (th_go hu wo k _ (x + 2 ^ k))).trans (ha_go _ _)) ?_
    have := hu x
    have h2 : 2 ^ (k + 1 + 1) = 2 * 2 ^ (k + 1) := by rw [Nat.pow_succ]; omega
    have h3 : 1 ≤ 2 ^ (k + 1) := Nat.one_le_two_pow
    omega

/-! no error, where there is room -/
theorem may_tx (xs : List ND) {s : ByteArray} (h : s.size ≤ 200) : mayB xs (txN s) = true := by
  unfold mayB shB
  rw [show decide ((txN s).s.size ≤ 200) = true from decide_eq_true h]
  rfl
theorem may_ls {xs : List ND} {l : List Int} (h : ∀ i ∈ l, hasB xs i = true) (hl : l.length ≤ 64) : mayB xs (ndN 3 l) = true := by
  have h2 : l.all (hasB xs) = true := List.all_eq_true.2 h
  unfold mayB shB
  simp [ndN, lenB, arN, hl, ByteArray.size, h2]
theorem may_hh {xs : List ND} {i : Int} (h : hasB xs i = true) : mayB xs (ndN 4 [i]) = true := by
  unfold mayB shB
  simp [ndN, lenB, arN, ByteArray.size, h]
/-- Fine so far, with so much room left. -/
structure Fn (S : KS) (r : Nat) : Prop where
  e : S.e = 0
  ok : Okay S.x
  len : S.x.length + r ≤ 100000
theorem fn_do {S : KS} {x : ND} {r : Nat} (h : Fn S (r + 1)) (hm : mayB S.x x = true) (hn : x.n < 9223372036854775808) : Fn (doF S fun xs => mk xs x).1 r ∧ At (doF S fun xs => mk xs x).1.x (doF S fun xs => mk xs x).2 x := by
  have he := h.e
  have e : doF S (fun xs => mk xs x) = (⟨(mk S.x x).1, (mk S.x x).2.2⟩, (mk S.x x).2.1) := if_pos he
  have hl := h.len
  have h0 : (mk S.x x).2.2 = 0 := mk_may (by omega) hm
  have g := do_go (S := S) (sb_mk x hn) (gw_mk x)
  rw [e] at g ⊢
  refine ⟨⟨h0, g.ok h.ok, ?_⟩, mk_at' h0⟩
  have := g.len
  omega
theorem Fn.mono {S : KS} {r k : Nat} (h : Fn S r) (hk : k ≤ r) : Fn S k := ⟨h.e, h.ok, by have := h.len; omega⟩
theorem fn_tx {S : KS} {s : ByteArray} {r : Nat} (h : Fn S (r + 1)) (hs : s.size ≤ 200) : Fn (doF S (txF s)).1 r ∧ At (doF S (txF s)).1.x (doF S (txF s)).2 (txN s) := fn_do h (may_tx _ hs) (by show (0 : Int) < _; decide)
theorem fn_li {S : KS} {l : List Int} {r : Nat} (h : Fn S (r + 1)) (hs : ∀ i ∈ l, hasB S.x i = true) (hl : l.length ≤ 64) : Fn (doF S (liF l)).1 r ∧ At (doF S (liF l)).1.x (doF S (liF l)).2 (ndN 3 l) := fn_do h (may_ls hs hl) (by show (0 : Int) < _; decide)
theorem fn_hh {S : KS} {i : Int} {r : Nat} (h : Fn S (r + 1)) (hs : hasB S.x i = true) : Fn (doF S (hhF i)).1 r ∧ At (doF S (hhF i)).1.x (doF S (hhF i)).2 (ndN 4 [i]) := fn_do h (may_hh hs) (by show (0 : Int) < _; decide)
theorem fn_ha {S : KS} {l : List Int} {r : Nat} (h : Fn S (r + 2)) (hs : ∀ i ∈ l, hasB S.x i = true) (hl : l.length ≤ 64) : Fn (haM S l).1 r ∧ At (haM S l).1.x (haA S l).2 (ndN 3 l) ∧ At (haM S l).1.x (haM S l).2 (ndN 4 [(haA S l).2]) := by
  obtain ⟨a1, a2⟩ := fn_li (r := r + 1) h hs hl
  obtain ⟨b1, b2⟩ := fn_hh (r := r) a1 a2.has
  exact ⟨b1, (do_go (sb_nd 4 _) (gw_mk _)).at a2, b2⟩
theorem Go2.has {S T : KS} {k : Nat} (h : Go2 S T k) {i : Int} (ha : hasB S.x i = true) : hasB T.x i = true := by
  obtain ⟨m, hm⟩ := h.ext; rw [hm]; exact has_ext ha m
theorem fn_txS {S : KS} {u : List Int} {r : Nat} (hu : ∀ j, j < u.length → (digB (u.getD j 0)).size ≤ 200) : ∀ j, j ≤ u.length → Fn S (r + j) → Fn (txS S u j).1 r ∧ ∀ i ∈ (txS S u j).2, hasB (txS S u j).1.x i = true
  | 0, _, h => ⟨h, fun i hi => by simp [txS] at hi⟩
  | j + 1, hj, h => by
    obtain ⟨a1, a2⟩ := fn_txS (r := r + 1) hu j (by omega) (by rw [Nat.add_assoc, Nat.add_comm 1 j]; exact h)
    obtain ⟨b1, b2⟩ := fn_tx a1 (hu j (by omega))
    refine ⟨b1, fun i hi => ?_⟩
    rcases List.mem_append.1 hi with hi | hi
    · exact (tx_go _ _).has (a2 i hi)
    · rw [List.mem_singleton.1 hi]; exact b2.has
/-- A tree whose terms are an arena's. -/
structure TrO (X : List ND) (xs : List TN) : Prop where
  t : ∀ (j : Nat) n, xs[j]? = some n → n.k ≠ 0 → hasB X n.e = true ∧ hasB X n.h = true ∧ (j % 2 = 0 → hasB X n.i = true ∧ hasB X n.s = true)
  u : ∀ (j : Nat) n, xs[j]? = some n → n.u.length ≤ 40 ∧ ∀ i ∈ n.u, 0 ≤ i ∧ i < 1000000000
theorem digB_small {i : Int} (h0 : 0 ≤ i) (h1 : i < 1000000000) : (digB i).size ≤ 200 := by have := (dig_nine h0).2 h1; omega
theorem tn_get {xs : List TN} {x : Nat} (h : x < xs.length) : xs[x]? = some (tnF xs x) := by
  unfold tnF; rw [List.getD_eq_getElem?_getD, List.getElem?_eq_getElem h]; rfl
theorem TrO.un {X : List ND} {xs : List TN} (h : TrO X xs) (x : Nat) : (tnF xs x).u.length ≤ 40 := by
  rcases Nat.lt_or_ge x xs.length with hx | hx
  · exact (h.u x _ (tn_get hx)).1
  · unfold tnF; rw [List.getD_eq_getElem?_getD, List.getElem?_eq_none hx]; simp [tn0]
theorem TrO.go {S T : KS} {k : Nat} {xs : List TN} (h : TrO S.x xs) (g : Go2 S T k) : TrO T.x xs :=
  ⟨fun j n hn hk => ⟨g.has (h.t j n hn hk).1, g.has (h.t j n hn hk).2.1, fun he => ⟨g.has ((h.t j n hn hk).2.2 he).1, g.has ((h.t j n hn hk).2.2 he).2⟩⟩, h.u⟩
theorem fn_tl {S : KS} {n : TN} {wo : List Int} {x r : Nat} (h : Fn S (r + 5)) (hx : x < 1000000) (ht : n.k ≠ 0 → hasB S.x n.e = true ∧ hasB S.x n.h = true ∧ hasB S.x n.i = true ∧ hasB S.x n.s = true) : Fn (tlF n wo S x).1 r ∧ hasB (tlF n wo S x).1.x (tlF n wo S x).2 = true := by
  obtain ⟨a1, a2⟩ := fn_tx (S := S) (s := lbLeaf) (r := r + 4) h (by decide)
  obtain ⟨b1, b2⟩ := fn_tx (s := digB ((x / 2 : Nat) : Int)) (r := r + 3) a1 (digB_small (by omega) (by omega))
  have gA : Go2 S (tlA S).1 1 := tx_go _ _
  have gB : Go2 (tlA S).1 (tlB S x).1 1 := tx_go _ _
  have hC : Fn (tlC n wo S x).1 (r + 2) ∧ hasB (tlC n wo S x).1.x (tlC n wo S x).2 = true ∧ Go2 (tlB S x).1 (tlC n wo S x).1 1 := by
    unfold tlC
    split
    · obtain ⟨c1, c2⟩ := fn_tx (s := ⟨#[]⟩) (r := r + 2) b1 (by decide)
      exact ⟨c1, c2.has, tx_go _ _⟩
    · rename_i ho
      have hk : n.k ≠ 0 := fun e => ho (by unfold offB; rw [e]; rfl)
      obtain ⟨t1, t2, t3, t4⟩ := ht hk
      obtain ⟨c1, c2⟩ := fn_li (l := [n.i, n.e, n.s, n.h]) (r := r + 2) b1 (fun i hi => by
        simp only [List.mem_cons, List.mem_nil_iff, or_false] at hi
        rcases hi with rfl | rfl | rfl | rfl
        · exact gB.has (gA.has t3)
        · exact gB.has (gA.has t1)
        · exact gB.has (gA.has t4)
        · exact gB.has (gA.has t2)) (by simp)
      exact ⟨c1, c2.has, li_go _ _⟩
  obtain ⟨c1, c2, gC⟩ := hC
  obtain ⟨d1, -, d3⟩ := fn_ha (l := [(tlA S).2, (tlB S x).2, (tlC n wo S x).2]) c1 (fun i hi => by
    simp only [List.mem_cons, List.mem_nil_iff, or_false] at hi
    rcases hi with rfl | rfl | rfl
    · exact gC.has (gB.has a2.has)
    · exact gC.has b2.has
    · exact c2) (by simp)
  exact ⟨d1, d3.has⟩
theorem fn_tp {S : KS} {n : TN} {wo : List Int} {r : Nat} (h : Fn S (r + 43)) (hu : n.u.length ≤ 40 ∧ ∀ i ∈ n.u, 0 ≤ i ∧ i < 1000000000) (ht : n.k ≠ 0 → hasB S.x n.e = true ∧ hasB S.x n.h = true) : Fn (tpD n wo S).1 r ∧ hasB (tpD n wo S).1.x (tpD n wo S).2 = true ∧ hasB (tpD n wo S).1.x (tpA S).2 = true := by
  obtain ⟨a1, a2⟩ := fn_tx (S := S) (s := lbNode) (r := r + 42) h (by decide)
  have gA : Go2 S (tpA S).1 1 := tx_go _ _
  unfold tpD
  split
  · obtain ⟨b1, b2⟩ := fn_tx (s := ⟨#[]⟩) (r := r + 41) a1 (by decide)
    exact ⟨b1.mono (by omega), b2.has, (tx_go _ _).has a2.has⟩
  · rename_i hk
    have hl : (unF n wo).length ≤ n.u.length := List.length_filter_le ..
    obtain ⟨b1, b2⟩ := fn_txS (S := (tpA S).1) (u := unF n wo) (r := r + 2) (fun j hj => by
      rw [List.getD_eq_getElem?_getD, List.getElem?_eq_getElem hj]
      have hm : (unF n wo)[j] ∈ n.u := (List.mem_filter.1 (List.getElem_mem hj)).1
      exact digB_small (hu.2 _ hm).1 (hu.2 _ hm).2) (unF n wo).length (Nat.le_refl _) (a1.mono (by omega))
    have gB : Go2 (tpA S).1 (tpB n wo S).1 (unF n wo).length := txS_go _ _ _
    obtain ⟨c1, c2⟩ := fn_li (l := (tpB n wo S).2) (r := r + 1) b1 b2 (by
      have : (tpB n wo S).2.length = (unF n wo).length := txS_len _ _ _
      omega)
    have gC : Go2 (tpB n wo S).1 (tpC n wo S).1 1 := li_go _ _
    obtain ⟨t1, t2⟩ := ht hk
    obtain ⟨d1, d2⟩ := fn_li (l := [n.e, n.h, (tpC n wo S).2]) (r := r) c1 (fun i hi => by
      simp only [List.mem_cons, List.mem_nil_iff, or_false] at hi
      rcases hi with rfl | rfl | rfl
      · exact gC.has (gB.has (gA.has t1))
      · exact gC.has (gB.has (gA.has t2))
      · exact c2.has) (by simp)
    exact ⟨d1, d2.has, (li_go _ _).has (gC.has (gB.has a2.has))⟩
/-- A node's hash is made, where there is room. -/
theorem fn_th {xs : List TN} (wo : List Int) : ∀ (k : Nat) (S : KS) (x r : Nat), TrO S.x xs → (∃ q, x + 1 = (2 * q + 1) * 2 ^ k) → x + 2 ^ k ≤ xs.length → xs.length ≤ 1000000 → Fn S (r + 50 * (2 ^ (k + 1) - 1)) → Fn (thF xs wo k S x).1 r ∧ hasB (thF xs wo k S x).1.x (thF xs wo k S x).2 = true
  | 0, S, x, r, ht, hq, hx, hl, h => by
    obtain ⟨q, hq⟩ := hq
    have hx2 : x < xs.length := by simp at hx; omega
    refine fn_tl (h.mono (by omega)) (by omega) fun hk => ?_
    obtain ⟨t1, t2, t3⟩ := ht.t x _ (tn_get hx2) hk
    exact ⟨t1, t2, t3 (by simp at hq; omega)⟩
  | k + 1, S, x, r, ht, hq, hx, hl, h => by
    obtain ⟨q, hq⟩ := hq
    have e1 : 2 ^ (k + 1) = 2 * 2 ^ k := by rw [Nat.pow_succ]; omega
    have e2 : 2 ^ (k + 1 + 1) = 2 * (2 * 2 ^ k) := by rw [Nat.pow_succ, e1]; omega
    have e3 : 1 ≤ 2 ^ k := Nat.one_le_two_pow
    rw [e2] at h
    rw [e1] at hq hx
    have hm : (2 * q + 1) * (2 * 2 ^ k) = 2 * (2 ^ k * (2 * q + 1)) := by rw [← Nat.mul_assoc, Nat.mul_comm (2 * q + 1) 2, Nat.mul_assoc, Nat.mul_comm (2 * q + 1)]
    have hm2 : 2 ^ k * (2 * q + 1) = 2 * (2 ^ k * q) + 2 ^ k := by rw [Nat.mul_add, Nat.mul_one, ← Nat.mul_assoc, Nat.mul_comm (2 ^ k) 2, Nat.mul_assoc]
    rw [hm, hm2] at hq
    have hx2 : x < xs.length := by omega
    obtain ⟨a1, a2, a3⟩ := fn_tp (wo := wo) (n := tnF xs x) (r := r + 2 + 50 * (2 * 2 ^ k - 1) + 50 * (2 * 2 ^ k - 1)) (h.mono (by omega)) (ht.u x _ (tn_get hx2)) fun hk => ⟨(ht.t x _ (tn_get hx2) hk).1, (ht.t x _ (tn_get hx2) hk).2.1⟩
    have gA := tp_go (tnF xs x) wo S
    obtain ⟨b1, b2⟩ := fn_th wo k (tpD (tnF xs x) wo S).1 (x - 2 ^ k) (r + 2 + 50 * (2 * 2 ^ k - 1)) (ht.go gA) ⟨2 * q, by
      have : (2 * (2 * q) + 1) * 2 ^ k = 2 * (2 * (2 ^ k * q)) + 2 ^ k := by rw [Nat.add_mul, Nat.one_mul, Nat.mul_assoc, Nat.mul_assoc, Nat.mul_comm q]
      omega⟩ (by omega) hl (by rw [e1]; exact a1)
    have gB := th_go ht.un wo k (tpD (tnF xs x) wo S).1 (x - 2 ^ k)
    obtain ⟨c1, c2⟩ := fn_th wo k (thF xs wo k (tpD (tnF xs x) wo S).1 (x - 2 ^ k)).1 (x + 2 ^ k) (r + 2) ((ht.go gA).go gB) ⟨2 * q + 1, by
      have : (2 * (2 * q + 1) + 1) * 2 ^ k = 2 * (2 * (2 ^ k * q)) + 2 * 2 ^ k + 2 ^ k := by rw [Nat.add_mul, Nat.one_mul, Nat.mul_add, Nat.mul_one, Nat.add_mul, Nat.mul_assoc, Nat.mul_assoc, Nat.mul_comm q]
      omega⟩ (by omega) hl (by rw [e1]; exact b1)
    have gC := th_go ht.un wo k (thF xs wo k (tpD (tnF xs x) wo S).1 (x - 2 ^ k)).1 (x + 2 ^ k)
    obtain ⟨d1, -, d3⟩ := fn_ha (l := [(tpA S).2, (tpD (tnF xs x) wo S).2, (thF xs wo k (tpD (tnF xs x) wo S).1 (x - 2 ^ k)).2, (thF xs wo k (thF xs wo k (tpD (tnF xs x) wo S).1 (x - 2 ^ k)).1 (x + 2 ^ k)).2]) c1 (fun i hi => by
      simp only [List.mem_cons, List.mem_nil_iff, or_false] at hi
      rcases hi with rfl | rfl | rfl | rfl
      · exact gC.has (gB.has a3)
      · exact gC.has (gB.has a2)
      · exact gC.has b2
      · exact c2) (by simp)
    exact ⟨d1, d3.has⟩
/-- What a child says of a node. -/
def voA (S : KS) : KS × Int := doF S (txF lbVouch)
def voB (xs : List TN) (k : Nat) (S : KS) (x y : Nat) : KS × Int := thF xs (tnF xs x).u k (voA S).1 y
def voF (xs : List TN) (k : Nat) (S : KS) (x y : Nat) : KS × Int := haM (voB xs k S x y).1 [(voA S).2, (tnF xs x).e, (tnF xs x).h, (voB xs k S x y).2]
theorem vo_go {xs : List TN} (hu : ∀ x, (tnF xs x).u.length ≤ 40) (k : Nat) (S : KS) (x y : Nat) : Go2 S (voF xs k S x y).1 (50 * (2 ^ (k + 1) - 1) + 3) :=
  (((tx_go S _).trans (th_go hu _ k _ _)).trans (ha_go _ _)).mono (by omega)
/-- The node says so of the node x. -/
def VoAt (X : List ND) (v e h : Int) : Prop := ∃ a t o, At X a (ndN 3 [t, e, h, o]) ∧ At X v (ndN 4 [a])
theorem VoAt.ext {X : List ND} {v e h : Int} (k : VoAt X v e h) (m : List ND) : VoAt (X ++ m) v e h := by
  obtain ⟨a, t, o, h1, h2⟩ := k; exact ⟨a, t, o, h1.ext m, h2.ext m⟩
theorem VoAt.eq {X : List ND} {v e h e' h' : Int} (k : VoAt X v e h) (k' : VoAt X v e' h') : e = e' ∧ h = h' := by
  obtain ⟨a, t, o, h1, h2⟩ := k; obtain ⟨a', t', o', h1', h2'⟩ := k'
  have e1 := h2.eq h2'
  have e2 : a = a' := by injection e1 with _ _ _ e1; injection e1
  subst e2
  have e3 := h1.eq h1'
  injection e3 with _ _ _ e3
  injection e3 with _ e3
  injection e3 with e4 e3
  injection e3 with e5 e3
  exact ⟨e4, e5⟩
theorem fn_vo {xs : List TN} {S : KS} {k x y r : Nat} (ht : TrO S.x xs) (hx : x < xs.length) (hk : (tnF xs x).k ≠ 0) (hq : ∃ q, y + 1 = (2 * q + 1) * 2 ^ k) (hy : y + 2 ^ k ≤ xs.length) (hl : xs.length ≤ 1000000) (h : Fn S (r + 50 * (2 ^ (k + 1) - 1) + 3)) :
    Fn (voF xs k S x y).1 r ∧ VoAt (voF xs k S x y).1.x (voF xs k S x y).2 (tnF xs x).e (tnF xs x).h := by
  obtain ⟨a1, a2⟩ := fn_tx (S := S) (s := lbVouch) (r := r + 2 + 50 * (2 ^ (k + 1) - 1)) (h.mono (by omega)) (by decide)
  have gA : Go2 S (voA S).1 1 := tx_go _ _
  obtain ⟨b1, b2⟩ := fn_th (tnF xs x).u k (voA S).1 y (r + 2) (ht.go gA) hq hy hl a1
  have gB : Go2 (voA S).1 (voB xs k S x y).1 (50 * (2 ^ (k + 1) - 1)) := th_go ht.un _ k _ _
  obtain ⟨t1, t2, -⟩ := ht.t x _ (tn_get hx) hk
  obtain ⟨d1, d2, d3⟩ := fn_ha (l := [(voA S).2, (tnF xs x).e, (tnF xs x).h, (voB xs k S x y).2]) b1 (fun i hi => by
    simp only [List.mem_cons, List.mem_nil_iff, or_false] at hi
    rcases hi with rfl | rfl | rfl | rfl
    · exact gB.has a2.has
    · exact gB.has (gA.has t1)
    · exact gB.has (gA.has t2)
    · exact b2) (by simp)
  exact ⟨d1, _, _, _, d2, d3⟩
end Go.KK

/- term: whether a node may be. -/
namespace Go.Proofs.YtekfjcaihocmmaaGreatDoor
open Go.RowKit Go.KK Go.Shelf
set_option linter.unusedVariables false
set_option linter.unusedSimpArgs false

/-- The program's arena, at block st. -/
abbrev ArP (w : World) (Z : Nat → Prop) (st mp : Nat) (v : Value) (xs : List ND) (qs : List Value) : Prop := Ar Tryz.prog 92 9 3 169 keyP w Z st mp v xs qs
/-- What is read of an arena. -/
structure ArV (w : World) (T : TypeId) (st : Nat) (xs : List ND) : Prop where
  go : ∃ A c m, w.heap[st]? = some (.cells #[.slice A xs.length c, m] T (0, 0)) ∧ NdA w A xs.length c xs
  ok : Okay xs
theorem Ar.v {NT K E T : TypeId} {kf : ND → List UInt8} {w : World} {Z : Nat → Prop} {st mp : Nat} {v : Value} {xs : List ND} {qs : List Value} (h : Ar Tryz.prog NT K E T kf w Z st mp v xs qs) : ArV w T st xs := by
  obtain ⟨A, c, rfl, hn⟩ := h.rows
  exact ⟨⟨A, c, _, h.box, hn⟩, h.ok⟩
theorem ArV.lt {w : World} {T : TypeId} {st : Nat} {xs : List ND} (h : ArV w T st xs) : st < w.heap.size := by
  obtain ⟨A, c, m, hb, _⟩ := h.go
  exact (Array.getElem?_eq_some_iff.1 hb).1
theorem ArV.ext {w w' : World} {T : TypeId} {st : Nat} {xs : List ND} (h : ArV w T st xs) (hb : Below w.heap.size w w') : ArV w' T st xs := by
  have hlt := h.lt
  obtain ⟨⟨A, c, m, h1, h2⟩, h3⟩ := h
  exact ⟨⟨A, c, m, (hb.block st hlt).trans h1, h2.ext hb⟩, h3⟩
theorem ArV.parts {w : World} {T : TypeId} {st : Nat} {xs : List ND} (h : ArV w T st xs) : ∃ A c m, w.cell? ⟨st, 0, none⟩ = some (.slice A xs.length c) ∧ w.cell? ⟨st, 1, none⟩ = some m ∧ NdA w A xs.length c xs := by
  obtain ⟨A, c, m, h1, h2⟩ := h.go
  exact ⟨A, c, m, cell_of_row w st 0 _ T (0, 0) h1, cell_of_row w st 1 _ T (0, 0) h1, h2⟩
theorem has_any (st : Nat) (xs : List ND) (t : Int) (w : World) (h : ArV w 169 st xs) :
    Calls Tryz.prog 138 #[.pointer (some ⟨st, 0, none⟩), .int .i64 t] w fun e w' => e = .returned (.bool (hasB xs t)) ∧ w' = w := by
  obtain ⟨A, c, m, h0, h1, hn⟩ := h.parts
  have HN := hid hn
  unfold hasB
  clear hn h
  by_cases ht : 0 ≤ t
  · go_enter Tryz.func138, Tryz.ntmps138
    go_wp2
    go_ret
    exact ⟨by simp [ht], rfl⟩
  · go_enter Tryz.func138, Tryz.ntmps138
    go_wp2
    go_ret
    exact ⟨by rw [decide_eq_false (by omega : ¬ 0 ≤ t)]; rfl, rfl⟩
/-- How many parts, as the program says it. -/
def arP (o : Int) : Int := match arN o with | some k => (k : Nat) | none => if o == 3 then -1 else -2
theorem arP_out {o : Int} (h : o < 1 ∨ 13 ≤ o) : arP o = -2 := by
  have : arN o = none := by
    unfold arN
    split <;> first | omega | rfl
  unfold arP
  rw [this, show (o == 3) = false from beq_eq_false_iff_ne.2 (by omega)]; rfl
set_option maxHeartbeats 4000000 in
theorem arity_any (o : Int) (w : World) :
    Calls Tryz.prog 190 #[.int .i64 o] w fun e w' => e = .returned (.int .i64 (arP o)) ∧ Below w.heap.size w w' := by
  by_cases h1 : o < 1
  · have HE := hid (arP_out (.inl h1))
    go_enter Tryz.func190, Tryz.ntmps190
    go_wp2
    go_ret
    exact ⟨by rw [HE.out]; rfl, (Below.refl _ _).alloc (Nat.le_refl _) _⟩
  by_cases h2 : 13 ≤ o
  · have HE := hid (arP_out (.inr h2))
    go_enter Tryz.func190, Tryz.ntmps190
    go_wp2
    go_ret
    exact ⟨by rw [HE.out]; rfl, (Below.refl _ _).alloc (Nat.le_refl _) _⟩
  have h3 : o = 1 ∨ o = 2 ∨ o = 3 ∨ o = 4 ∨ o = 5 ∨ o = 6 ∨ o = 7 ∨ o = 8 ∨ o = 9 ∨ o = 10 ∨ o = 11 ∨ o = 12 := by omega
  clear h1 h2
  rcases h3 with rfl | rfl | rfl | rfl | rfl | rfl | rfl | rfl | rfl | rfl | rfl | rfl
  all_goals
    go_enter Tryz.func190, Tryz.ntmps190
    go_wp2
    go_ret
    exact ⟨rfl, (Below.refl _ _).alloc (Nat.le_refl _) _⟩
theorem may1_any (st b : Nat) (xs : List ND) (t : Int) (w : World) (h : ArV w 169 st xs) (hb : w.cell? ⟨b, 0, none⟩ = some (.pointer (some ⟨st, 0, none⟩))) :
    Calls Tryz.prog 191 #[.int .i64 t, .pointer (some ⟨b, 0, none⟩)] w fun e w' => e = .returned (.bool (!hasB xs t)) ∧ w' = w := by
  have H := hid h
  clear h
  go_enter Tryz.func191, Tryz.ntmps191
  go_wp2_with fail
  refine (has_any st xs t _ H.out).mono ?_
  rintro e w' ⟨rfl, hw⟩
  subst hw
  go_wp2_with fail
  go_ret
  exact ⟨rfl, rfl⟩
end Go.Proofs.YtekfjcaihocmmaaGreatDoor

/- term: whether a node may be, walked. -/
namespace Go.Proofs.YtekfjcaihocmmaaGreatDoor
open Go.RowKit Go.KK Go.Shelf
set_option linter.unusedVariables false
set_option linter.unusedSimpArgs false

theorem drop_get {α : Type} {l : List α} {j : Nat} {x : α} (h : l[j]? = some x) : l.drop j = x :: l.drop (j + 1) := by
  obtain ⟨hj, rfl⟩ := List.getElem?_eq_some_iff.1 h
  exact List.drop_eq_getElem_cons hj
set_option maxHeartbeats 1000000 in
theorem ixf_may (st b : Nat) (xs : List ND) (A : Option Addr) (n c : Nat) (l : List Int) (w : World) (h : ArV w 169 st xs) (hb : w.cell? ⟨b, 0, none⟩ = some (.pointer (some ⟨st, 0, none⟩))) (hl : SlA w 1 A n c (l.map (.int .i64))) (hn : n ≤ 2147483648) :
    Calls Tryz.prog 218 #[.slice A n c, .func (.func 191) #[] #[.pointer (some ⟨b, 0, none⟩)]] w fun e w' => (∃ k : Int, e = .returned (.int .i64 k) ∧ decide (0 ≤ k) = !l.all (hasB xs)) ∧ w' = w := by
  have H := hid h; have HB := hid hb; have HS := hid hl; have HL := hid hl.lenI
  clear h hb hl
  go_enter Tryz.func218, Tryz.ntmps218
  go_wp2
  go_loopw [8] (fun i wr => ∃ j : Nat, i = .int .i64 j ∧ j ≤ n ∧ Hid (l.all (hasB xs) = (l.drop j).all (hasB xs)) ∧ wr = w) (fun i _ => n - (intOf i).toNat)
  case atStart => exact ⟨0, rfl, by omega, hid rfl, rfl⟩
  case round =>
    obtain ⟨j, hi, hj, HJ, hw⟩ := hrel
    subst hi; subst hw
    by_cases hlt : j < n
    · obtain ⟨b1, o, z, rfl, hz, hc⟩ := HS.out.elemI hlt
      have HD := hid (drop_get hz); clear hz
      rcases hh : hasB xs z with _ | _
      · have HF := hid (show l.all (hasB xs) = false by rw [HJ.out, HD.out, List.all_cons, hh]; rfl)
        go_wp2_with (go_at_call 191; refine (may1_any st b xs z _ H.out HB.out).mono ?_; rintro e w' ⟨rfl, hw'⟩; subst hw'; rw [hh])
        go_ret
        exact ⟨⟨j, rfl, by rw [HF.out, decide_eq_true (by omega)]; rfl⟩, rfl⟩
      · have HF := hid (show l.all (hasB xs) = (l.drop (j + 1)).all (hasB xs) by rw [HJ.out, HD.out, List.all_cons, hh]; rfl)
        go_wp2_with (go_at_call 191; refine (may1_any st b xs z _ H.out HB.out).mono ?_; rintro e w' ⟨rfl, hw'⟩; subst hw'; rw [hh])
        go_roundw
        case rel => exact ⟨j + 1, by go_num, by omega, HF, by first | rfl | trivial⟩
        case measure => simp [intOf]; omega
    · have HF := hid (show l.all (hasB xs) = true by rw [HJ.out, List.drop_of_length_le (by have := HL.out; omega)]; rfl)
      go_wp2
      go_ret
      exact ⟨⟨-1, rfl, by rw [HF.out]; rfl⟩, rfl⟩
theorem ctf_may (st b : Nat) (xs : List ND) (A : Option Addr) (n c : Nat) (l : List Int) (w : World) (h : ArV w 169 st xs) (hb : w.cell? ⟨b, 0, none⟩ = some (.pointer (some ⟨st, 0, none⟩))) (hl : SlA w 1 A n c (l.map (.int .i64))) (hn : n ≤ 2147483648) :
    Calls Tryz.prog 148 #[.slice A n c, .func (.func 191) #[] #[.pointer (some ⟨b, 0, none⟩)]] w fun e w' => e = .returned (.bool (!l.all (hasB xs))) ∧ w' = w := by
  have HX := hid (ixf_may st b xs A n c l w h hb hl hn)
  clear h hb hl
  go_enter Tryz.func148, Tryz.ntmps148
  go_wp2_with fail
  refine HX.out.mono ?_
  rintro e w' ⟨⟨k, rfl, hk⟩, hw⟩
  subst hw
  have HK := hid hk
  clear hk
  go_wp2
  go_ret
  exact ⟨by rw [← HK.out]; rfl, rfl⟩

theorem len_eq (o : Int) (n : Nat) : lenB o n = !((arP o == -2) || (decide (0 ≤ arP o) && ((n : Int) != arP o))) := by
  unfold arP lenB
  rcases arN o with _ | k
  · by_cases h : o = 3
    · rw [h]; rfl
    · simp [h]
  · by_cases hk : n = k
    · subst hk
      simp
    · have h2 : ((n : Int) != (k : Int)) = true := bne_iff_ne.2 (by omega)
      have h3 : (n == k) = false := beq_eq_false_iff_ne.2 hk
      simp [h2, h3]
theorem str_none {s : ByteArray} (h : s.size = 0) : s = ⟨#[]⟩ := by
  obtain ⟨s⟩ := s
  have : s = #[] := Array.eq_empty_of_size_eq_zero h
  rw [this]
theorem none_yes {s : ByteArray} (h : s.size = 0) : s.toList.isEmpty = true := by rw [str_none h]; simp
theorem none_no {s : ByteArray} (h : ¬ s.size = 0) : s.toList.isEmpty = false := by
  have h1 : (s.toList == (⟨#[]⟩ : ByteArray).toList) = false := by
    rw [← beq_toListBytes, Bool.eq_false_iff]
    intro e
    rw [Go.MapKept.bytes_beq] at e
    rw [e] at h
    exact h rfl
  rcases hl : s.toList with _ | ⟨b, l⟩
  · rw [hl] at h1; simp at h1
  · rfl
set_option maxHeartbeats 8000000 in
set_option maxRecDepth 20000 in
theorem may_any (st : Nat) (xs : List ND) (x : ND) (A : Option Addr) (c : Nat) (w : World) (h : ArV w 169 st xs) (hl : SlA w 1 A x.l.length c (x.l.map (.int .i64))) :
    Calls Tryz.prog 113 #[.pointer (some ⟨st, 0, none⟩), .agg #[.int .i64 x.o, .int .i64 x.n, .string x.s, .slice A x.l.length c]] w fun e w' => e = .returned (.bool (mayB xs x)) ∧ Below w.heap.size w w' := by
  have H := hid h; have HS := hid hl
  have HM := hid (len_eq x.o x.l.length)
  have B0 := hid (show Below w.heap.size w ((w.alloc (.cells #[.pointer (some ⟨st, 0, none⟩)] 26)).alloc (.cells #[.int .i64 x.o, .int .i64 x.n, .string x.s, .slice A x.l.length c] 92)) from ((Below.refl _ _).alloc (Nat.le_refl _) _).alloc (by simp) _)
  have hu : mayB xs x = (lenB x.o x.l.length && decide (x.l.length ≤ 64) && decide (0 ≤ x.n) && decide (x.s.size ≤ 200) && (x.o == 1 || x.n == 0) && (x.o == 2 || x.s.size == 0) && x.l.all (hasB xs) && (x.o != 6 || opAt xs (x.l.getD 1 0) == 2)) := rfl
  have HU := hid hu
  have C0 := hid (show let W := (w.alloc (.cells #[.pointer (some ⟨st, 0, none⟩)] 26)).alloc (.cells #[.int .i64 x.o, .int .i64 x.n, .string x.s, .slice A x.l.length c] 92)
    W.cell? ⟨w.heap.size, 0, none⟩ = some (.pointer (some ⟨st, 0, none⟩)) ∧ W.cell? ⟨w.heap.size + 1, 0, none⟩ = some (.int .i64 x.o) ∧ W.cell? ⟨w.heap.size + 1, 1, none⟩ = some (.int .i64 x.n) ∧ W.cell? ⟨w.heap.size + 1, 2, none⟩ = some (.string x.s) ∧ W.cell? ⟨w.heap.size + 1, 3, none⟩ = some (.slice A x.l.length c) ∧ w.heap.size + 1 < W.heap.size by
      refine ⟨?_, ?_, ?_, ?_, ?_, by simp⟩
      · rw [World.cell?_alloc_old _ _ _ (by simp), World.cell?_alloc_at _ _ _ _ rfl]; rfl
      all_goals (rw [World.cell?_alloc_at _ _ _ _ (by simp)]; rfl))
  clear h hl hu
  go_enter Tryz.func113, Tryz.ntmps113
  go_wp2_with fail
  refine (arity_any x.o _).mono ?_
  rintro e1 w1 ⟨rfl, b1⟩
  have B1 := hid (B0.out.trans (b1.mono B0.out.size))
  obtain ⟨c0, c1, c2, c3, c4, hlt⟩ := C0.out
  have kp := (b1.cell (p := ⟨w.heap.size, 0, none⟩) (by simp only at hlt ⊢; omega)).trans c0
  have k0 := (b1.cell (p := ⟨w.heap.size + 1, 0, none⟩) hlt).trans c1
  have k1 := (b1.cell (p := ⟨w.heap.size + 1, 1, none⟩) hlt).trans c2
  have k2 := (b1.cell (p := ⟨w.heap.size + 1, 2, none⟩) hlt).trans c3
  have k3 := (b1.cell (p := ⟨w.heap.size + 1, 3, none⟩) hlt).trans c4
  have H1 := hid (H.out.ext B1.out)
  have HS1 := hid (HS.out.ext B1.out)
  clear b1 c0 c1 c2 c3 c4 hlt C0 B0 H HS
  generalize hK : arP x.o = K at *
  clear hK
  by_cases a1 : K = -2
  · have HF := hid (show mayB xs x = false by rw [HU.out, HM.out, a1]; rfl)
    subst a1
    go_wp2_with fail
    go_ret
    exact ⟨by rw [HF.out]; rfl, B1.out⟩
  have a1' : (K == -2) = false := beq_eq_false_iff_ne.2 a1
  by_cases a2 : 0 ≤ K ∧ (x.l.length : Int) ≠ K
  · have a2' : ((x.l.length : Int) != K) = true := bne_iff_ne.2 a2.2
    have HF := hid (show mayB xs x = false by rw [HU.out, HM.out, a1', decide_eq_true a2.1, a2']; rfl)
    have a3 := a2.1
    clear a2
    go_wp2_with fail
    go_ret
    exact ⟨by rw [HF.out]; rfl, B1.out⟩
  have HL := hid (show lenB x.o x.l.length = true by
    rw [HM.out, a1']
    by_cases h0 : 0 ≤ K
    · rw [show ((x.l.length : Int) != K) = false from by rw [bne_eq_false_iff_eq]; omega]; simp
    · rw [decide_eq_false h0]; rfl)
  have a2' : (0 ≤ K ∧ ((x.l.length : Int) != K) = false) ∨ K < 0 := by
    by_cases h0 : 0 ≤ K
    · exact .inl ⟨h0, by rw [bne_eq_false_iff_eq]; omega⟩
    · exact .inr (by omega)
  clear a1 a2
  by_cases a4 : 64 < x.l.length
  · have HF := hid (show mayB xs x = false by rw [HU.out, decide_eq_false (show ¬ x.l.length ≤ 64 by omega)]; simp)
    have a4' : (64 : Int) < (x.l.length : Int) := by omega
    rcases a2' with ⟨q1, q2⟩ | q1
    all_goals
      go_wp2_with fail
      go_ret
      exact ⟨by rw [HF.out]; rfl, B1.out⟩
  have a4' : ¬ (64 : Int) < (x.l.length : Int) := by omega
  by_cases a5 : x.n < 0
  · have HF := hid (show mayB xs x = false by rw [HU.out, decide_eq_false (show ¬ 0 ≤ x.n by omega)]; simp)
    rcases a2' with ⟨q1, q2⟩ | q1
    all_goals
      go_wp2_with fail
      go_ret
      exact ⟨by rw [HF.out]; rfl, B1.out⟩
  by_cases a6 : 200 < x.s.size
  · have HF := hid (show mayB xs x = false by rw [HU.out, decide_eq_false (show ¬ x.s.size ≤ 200 by omega)]; simp)
    have a6' : (200 : Int) < (x.s.size : Int) := by omega
    rcases a2' with ⟨q1, q2⟩ | q1
    all_goals
      go_wp2_with fail
      go_ret
      exact ⟨by rw [HF.out]; rfl, B1.out⟩
  have a6' : ¬ (200 : Int) < (x.s.size : Int) := by omega
  by_cases b1 : x.o ≠ 1 ∧ x.n ≠ 0
  · have b1a : (x.o != 1) = true := bne_iff_ne.2 b1.1
    have b1b : (x.n != 0) = true := bne_iff_ne.2 b1.2
    have HF := hid (show mayB xs x = false by rw [HU.out, beq_eq_false_iff_ne.2 b1.1, beq_eq_false_iff_ne.2 b1.2]; simp)
    clear b1
    rcases a2' with ⟨q1, q2⟩ | q1
    all_goals
      go_wp2_with fail
      go_ret
      exact ⟨by rw [HF.out]; rfl, B1.out⟩
  have b1' : (x.o != 1) = false ∨ ((x.o != 1) = true ∧ (x.n != 0) = false) := by
    by_cases h : x.o = 1
    · exact .inl (by rw [bne_eq_false_iff_eq]; exact h)
    · exact .inr ⟨bne_iff_ne.2 h, by rw [bne_eq_false_iff_eq]; omega⟩
  by_cases b2 : x.o ≠ 2 ∧ ¬ x.s.size = 0
  · have b2a : (x.o != 2) = true := bne_iff_ne.2 b2.1
    have b2b := none_no b2.2
    have HF := hid (show mayB xs x = false by rw [HU.out, beq_eq_false_iff_ne.2 b2.1, beq_eq_false_iff_ne.2 b2.2]; simp)
    clear b2
    rcases a2' with ⟨q1, q2⟩ | q1 <;> rcases b1' with b1' | ⟨b1', b1''⟩
    all_goals
      go_wp2_with fail
      go_ret
      exact ⟨by rw [HF.out]; rfl, B1.out⟩
  have b2' : (x.o != 2) = false ∨ ((x.o != 2) = true ∧ x.s.toList.isEmpty = true) := by
    by_cases h : x.o = 2
    · exact .inl (by rw [bne_eq_false_iff_eq]; exact h)
    · exact .inr ⟨bne_iff_ne.2 h, none_yes (by omega)⟩
  have HR := hid (show mayB xs x = (x.l.all (hasB xs) && (x.o != 6 || opAt xs (x.l.getD 1 0) == 2)) by
    have h1 : (x.o == 1 || x.n == 0) = true := by
      rcases Decidable.em (x.o = 1) with h | h
      · rw [h]; rfl
      · rw [show x.n = 0 by omega]; simp
    have h2 : (x.o == 2 || x.s.size == 0) = true := by
      rcases Decidable.em (x.o = 2) with h | h
      · rw [h]; rfl
      · rw [show x.s.size = 0 by omega]; simp
    rw [HU.out, HL.out, h1, h2, decide_eq_true (show x.l.length ≤ 64 by omega), decide_eq_true (show 0 ≤ x.n by omega), decide_eq_true (show x.s.size ≤ 200 by omega)]
    rfl)
  clear b1 b2
  have hlen : x.l.length ≤ 2147483648 := by omega
  rcases a2' with ⟨q1, q2⟩ | q1 <;> rcases b1' with b1' | ⟨b1', b1''⟩ <;> rcases b2' with b2' | ⟨b2', b2''⟩
  all_goals
    go_wp2_with fail
    refine (ctf_may st w.heap.size xs A _ c x.l _ H1.out kp HS1.out hlen).mono ?_
    rintro e2 w2 ⟨rfl, hw2⟩
    subst w2
    rcases hall : x.l.all (hasB xs) with _ | _
    · have HF := hid (show mayB xs x = false by rw [HR.out, hall]; rfl)
      clear hall
      go_wp2_with fail
      go_ret
      exact ⟨by rw [HF.out]; rfl, B1.out⟩
    · by_cases h6 : x.o = 6
      · have h6' : (x.o != 6) = false := by rw [bne_eq_false_iff_eq]; exact h6
        have hl3 : x.l.length = 3 := by
          have := HL.out
          rw [h6] at this
          simpa [lenB, arN] using this
        obtain ⟨bx, ox, z, hA, hz, hcz⟩ := HS1.out.elemI (k := 1) (by omega)
        have hhz : hasB xs z = true := List.all_eq_true.1 hall z (List.mem_of_getElem? hz)
        unfold hasB at hhz
        simp only [Bool.and_eq_true, decide_eq_true_eq] at hhz
        obtain ⟨hz0, hz1⟩ := hhz
        obtain ⟨j, rfl⟩ := Int.eq_ofNat_of_zero_le hz0
        obtain ⟨A', c', m', q0, qm, hnd⟩ := H1.out.parts
        obtain ⟨bn, on, y, Ay, cy, rfl, hy, y0, y1, y2, y3, -⟩ := hnd.at (j := j) (by omega)
        have HF := hid (show mayB xs x = (y.o == 2) by
          rw [HR.out, hall, h6, List.getD, hz]
          show (_ && opAt xs (j : Int) == 2) = _
          unfold opAt
          rw [Int.toNat_natCast, hy]
          rfl)
        subst hA
        clear hall hz hy hnd h6
        go_wp2_with fail
        go_quiet (fail)
        go_wp2
        go_ret
        exact ⟨by rw [HF.out]; rfl, below_drewN B1.out _⟩
      · have h6' : (x.o != 6) = true := bne_iff_ne.2 h6
        have HF := hid (show mayB xs x = true by rw [HR.out, hall, h6']; rfl)
        clear hall h6
        go_wp2_with fail
        go_quiet (fail)
        go_wp2
        go_ret
        exact ⟨by rw [HF.out]; rfl, below_drewN B1.out _⟩
end Go.Proofs.YtekfjcaihocmmaaGreatDoor

